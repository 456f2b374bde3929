import Derived.Test.YtaneihnomaagoaaGreatDoorWFormatsC
namespace Go.Proofs.YtaneihnomaagoaaGreatDoor.Y
open Go Go.RowKit Go.Eng Go.Proofs
set_option maxRecDepth 10000
theorem nw0_fn (d : Disk) (h : FdP d) : Eng.Fn E.P 31 [.agg ((Disk.c d).map .r)] (.tup [.agg ((Snap.c (⟨0, 0, cfD d, kT⟩ : Snap)).map .w), .one (.w (.v (.bool true)))]) [.agg ((Disk.c d).map .r)] := by
 have h9 := impl_NewestSnap_fn d h.okTo
 rw [h.nw] at h9
 exact h9
set_option maxHeartbeats 4000000 in
theorem impl_ShedActs_fn (d : Disk) (hfd : FdP d) : Eng.Fn E.P 35 [.agg ((Disk.c d).map .r)] (.one (.one (.w (sl 4 Act.c ([] : List Act))))) [.agg ((Disk.c d).map .r)] := by
 refine Eng.Fn.intro (E := E) (rvs := [.tmp 2]) Tryz.func35 rfl rfl rfl (by simp [outSlots, moved, rvSlot, sl]) ?_
 intro B g bo
 refine CW.g XK 47 [.e [0]] rfl rfl rfl ?_
 have hl1 : d.files.length ≤ maxLen := by rw [hfd.len]; decide
 refine CW.h XK 47 [.o 1] rfl ?_;(conv=>whnf);intro b1;(conv=>whnf);refine ⟨rfl,?_⟩
 refine RW.freezeB (ts := (Disk.c d)) 1 rfl (DRd.r DRd.e) ?_
 refine RW.g XK 47 [.o 1,.p,.e [1],.p,.p] rfl rfl rfl ?_
 refine RW.build0 Act.c rfl rfl rfl rfl rfl fun X2 => ?_
 refine RW.assignMove rfl rfl rfl (by decide) (Nat.le_of_ble_eq_true rfl) (Nat.le_of_ble_eq_true rfl) ?_
 refine RW.g XK 47 [.p,.e [1,3],.o 1] rfl rfl rfl ?_
 refine RW.call rfl (nw0_fn d hfd) rfl (.cons (.agg (.cons (.r .r) (.nil))) (.nil)) fun g3 => ?_
 refine RW.h XK 47 [.o 5,.e [1,3,4,12,13]] rfl ?_;(conv=>whnf);intro b4;(conv=>whnf);refine ⟨rfl,?_⟩
 refine RW.pullA (k := 4) (l := 12) (j := 2) 4 12 2 rfl rfl rfl (by decide) rfl rfl rfl rfl ?_
 refine RW.g XK 47 [.e [1,3,4,13],.o 1,.p,.e [1,3,4,5],.n 1,.e [1,3,4,15]] rfl rfl rfl ?_
 refine CW.cond rfl (fun h5 => ?_) (fun h5 => ?_)
 exact absurd h5 (by decide)
 refine CW.g XK 47 [.p,.e [1,3,4],.n 1,.e [3,4,18,19,20],.p] rfl rfl rfl ?_
 refine CW.loopI 47 (fun (i : Nat) => [(3, .w (sl 4 Act.c ([] : List Act)) X2), (4, .obj b4 [I 0, I 0, .w (sl 1 cI (cfD d)) (g3 0 2), S kT]), (18, .r (sl 3 File.c d.files)), (19, I (d.files.length : Int)), (20, I (i : Int))]) (fun (i : Nat) => i ≤ d.files.length) (fun (i : Nat) => d.files.length - i) 0 rfl (Le.c rfl <| Le.c rfl <| Le.c rfl <| Le.c rfl <| Le.c rfl <| Le.e) (by omega) ?_
 rintro i hb
 refine CW.g XK 47 [.n 1,.e [3,4,18,19,20,21],.p] rfl rfl rfl ?_
 refine CW.cond rfl (fun h6 => ?_) (fun h6 => ?_)
 have hii : i < d.files.length := by have := h6; simp at this; first | exact this | omega | (simp; done) | (simp; omega)
 obtain ⟨ei, hei⟩ : ∃ e, d.files[i]? = some e := ⟨_, List.getElem?_eq_getElem hii⟩
 have hdi := drop_get hei
 refine CW.g XK 47 [.p,.e [3,4,18,19,20],.p,.p,.p,.p] rfl rfl rfl ?_
 refine RW.v rfl (V.indexS rfl rfl rfl rfl rfl rfl File.len hei) ?_
 refine RW.h XK 47 [.o 3] rfl ?_;(conv=>whnf);intro b7;(conv=>whnf);refine ⟨rfl,?_⟩
 refine RW.freezeB (ts := (File.c ei)) 7 rfl (DRd.r (DRd.r (DRd.r DRd.e))) ?_
 refine RW.g XK 47 [.p,.e [3,4,7,18,19,20]] rfl rfl rfl ?_
 refine CW.anyP (fc := [(4, b4, [.int .i64 0, .int .i64 0, (g3 0 2), .string kT])]) 47 (fun (v8 : Bool) => [(3, .w (sl 4 Act.c ([] : List Act)) X2), (4, .obj b4 [I 0, I 0, .w (sl 1 cI (cfD d)) (g3 0 2), S kT]), (7, .rp (File.c ei)), (18, .r (sl 3 File.c d.files)), (19, I (d.files.length : Int)), (20, I (i : Int)), (38, Bo v8)]) (fun (v8 : Bool) => v8 = ((ei.name.toList == (⟨#[115, 43]⟩ : ByteArray).toList) || ((decide (numOf ei.name sB 1000000 ≥ 0)) && (!(ei.name.toList == sN.toList))))) (fun K hK => ?_) ?_
 refine RA.start (m := 15) (ls' := (bt 15 0)) (by kernel_rfl) (by kernel_rfl) ?_
 refine RA.keep 47 [3,4,7,18,19,20] rfl ?_;(conv=>whnf);refine ⟨?_⟩
 refine RA.fr XK 47 11 [0,1,2,3] (bt 15 15) rfl rfl (by kernel_rfl) (Tell.of rfl) ?_
 (conv=>whnf);refine ⟨rfl,fun B=>?_⟩
 refine RA.keep 47 [3,4,7,18,19,20,27] rfl ?_;(conv=>whnf);refine ⟨?_⟩
 refine RA.bool 27 rfl (fun h9 => ?_) (fun h9 => ?_)
 refine RA.firstF (i := 4) (ls' := (bt 15 31)) (Tell.of rfl) (by kernel_rfl) rfl rfl rfl rfl rfl (.inl rfl) ?_
 refine RA.firstF (i := 5) (ls' := (bt 15 63)) (Tell.of rfl) (by kernel_rfl) rfl rfl rfl rfl rfl (.inl rfl) ?_
 refine RA.firstF (i := 6) (ls' := (bt 15 127)) (Tell.of rfl) (by kernel_rfl) rfl rfl rfl rfl rfl (.inl rfl) ?_
 refine RA.firstF (i := 7) (ls' := (bt 15 255)) (Tell.of rfl) (by kernel_rfl) rfl rfl rfl rfl rfl (.inr rfl) ?_
 refine RA.firstF (i := 8) (ls' := (bt 15 511)) (Tell.of rfl) (by kernel_rfl) rfl rfl rfl rfl rfl (.inr rfl) ?_
 refine RA.firstF (i := 9) (ls' := (bt 15 1023)) (Tell.of rfl) (by kernel_rfl) rfl rfl rfl rfl rfl (.inr rfl) ?_
 refine RA.firstF (i := 10) (ls' := (bt 15 2047)) (Tell.of rfl) (by kernel_rfl) rfl rfl rfl rfl rfl (.inr rfl) ?_
 refine RA.firstF (i := 11) (ls' := (bt 15 4095)) (Tell.of rfl) (by kernel_rfl) rfl rfl rfl rfl rfl (.inr rfl) ?_
 refine RA.keep 47 [3,4,7,18,19,20,27,30,32,35] rfl ?_;(conv=>whnf);refine ⟨?_⟩
 refine RA.firstF (i := 12) (ls' := (bt 15 8191)) (Tell.of rfl) (by kernel_rfl) rfl rfl rfl rfl rfl (.inr rfl) ?_
 refine RA.firstF (i := 13) (ls' := (bt 15 16383)) (Tell.of rfl) (by kernel_rfl) rfl rfl rfl rfl rfl (.inl rfl) ?_
 refine RA.fr XK 47 0 [14] (bt 15 32767) rfl rfl (by kernel_rfl) (Tell.of rfl) ?_
 (conv=>whnf);refine ⟨rfl,fun B=>?_⟩
 exact RA.finH (Tell.of rfl) (by kernel_rfl) (hK _ _ (by first | rfl | (simp_all; done) | grind) rfl (Le.of rfl))
 refine RA.keep 47 [3,4,7,18,19,20,27] rfl ?_;(conv=>whnf);refine ⟨?_⟩
 refine RA.oneV (i := 4) (ls' := (bt 15 31)) (Tell.of rfl) (by kernel_rfl) rfl rfl rfl rfl rfl rfl (V.loadAggR rfl rfl rfl rfl (Nat.le_of_ble_eq_true rfl)) ?_
 refine RA.keep 47 [3,4,7,18,19,20,27,28] rfl ?_;(conv=>whnf);refine ⟨?_⟩
 refine RA.oneCall (i := 5) (ls' := (bt 15 63)) (Tell.of rfl) (by kernel_rfl) rfl rfl rfl rfl rfl rfl (impl_isSnap_fn ei (hfd.okTo.2 ei (List.mem_of_getElem? hei)).1) rfl (.cons (.agg (.cons (.r .r) (.cons (.r .r) (.cons (.r .r) (.nil))))) (.nil)) fun g10 => ?_
 refine RA.firstT (i := 6) (ls' := (bt 15 127)) (Tell.of rfl) (by kernel_rfl) rfl rfl rfl rfl rfl rfl (VF.p (V.mv (d := Bo (decide (numOf ei.name sB 1000000 ≥ 0))) rfl rfl)) ?_
 refine RA.keep 47 [3,4,7,18,19,20,27,30] rfl ?_;(conv=>whnf);refine ⟨?_⟩
 refine RA.bool 30 rfl (fun h11 => ?_) (fun h11 => ?_)
 refine RA.firstT (i := 7) (ls' := (bt 15 255)) (Tell.of rfl) (by kernel_rfl) rfl rfl rfl rfl rfl rfl (VF.p (V.fieldR rfl rfl rfl rfl (by decide) rfl (Nat.le_of_ble_eq_true rfl))) ?_
 refine RA.firstT (i := 9) (ls' := (bt 15 767)) (Tell.of rfl) (by kernel_rfl) rfl rfl rfl rfl rfl rfl (VF.p (V.field rfl rfl rfl rfl (by decide) rfl)) ?_
 refine RA.firstT (i := 10) (ls' := (bt 15 1791)) (Tell.of rfl) (by kernel_rfl) rfl rfl rfl rfl rfl rfl (VF.loadPrim (m := 0) (d := I 0) rfl rfl rfl (.inl rfl) rfl rfl rfl rfl) ?_
 refine RA.keep 47 [3,4,7,18,19,20,27,30,31,34] rfl ?_;(conv=>whnf);refine ⟨?_⟩
 refine RA.stepG (L := [8, 11]) (Tell.of rfl) (by kernel_rfl) (by simp) (RA.eachG ?_ (RA.eachG ?_ (RA.eachG0)))
 refine RG.v rfl (.inr ⟨_, _, _, _, rfl, rfl, rfl, rfl⟩) (V.loadPrimR (t0 := .v (.string ei.name)) rfl rfl (.inl rfl) rfl rfl) rfl ?_
 refine RA.keep 47 [3,4,7,18,19,20,27,30,32,34] rfl ?_;(conv=>whnf);refine ⟨?_⟩
 refine RA.oneCall (i := 11) (ls' := (bt 15 4095)) (Tell.of rfl) (by kernel_rfl) rfl rfl rfl rfl rfl rfl (impl_SnapName_fn 0 rfl) rfl (.cons (.one (.r .r)) (.nil)) fun g12 => ?_
 refine RA.firstT (i := 12) (ls' := (bt 15 8191)) (Tell.of rfl) (by kernel_rfl) rfl rfl rfl rfl rfl rfl (VF.p (V.strCmp rfl rfl rfl rfl)) ?_
 refine RA.firstT (i := 13) (ls' := (bt 15 16383)) (Tell.of rfl) (by kernel_rfl) rfl rfl rfl rfl rfl rfl (VF.p (V.pickT (d := Bo (!(ei.name.toList == sN.toList))) rfl rfl rfl)) ?_
 refine RA.fr XK 47 0 [14] (bt 15 32767) rfl rfl (by kernel_rfl) (Tell.of rfl) ?_
 (conv=>whnf);refine ⟨rfl,fun B=>?_⟩
 exact RA.finH (Tell.of rfl) (by kernel_rfl) (hK _ _ (by first | rfl | (simp_all; done) | grind) rfl (Le.of rfl))
 refine RG.call rfl (.inr ⟨_, _, _, _, rfl, rfl, rfl, rfl⟩) (impl_SnapName_fn 0 rfl) rfl (.cons (.one (.r .r)) (.nil)) rfl fun g13 => ?_
 refine RA.keep 47 [3,4,7,18,19,20,27,30,31,35] rfl ?_;(conv=>whnf);refine ⟨?_⟩
 refine RA.oneV (i := 8) (ls' := (bt 15 4095)) (Tell.of rfl) (by kernel_rfl) rfl rfl rfl rfl rfl rfl (V.loadPrimR (t0 := .v (.string ei.name)) rfl rfl (.inl rfl) rfl rfl) ?_
 refine RA.firstT (i := 12) (ls' := (bt 15 8191)) (Tell.of rfl) (by kernel_rfl) rfl rfl rfl rfl rfl rfl (VF.p (V.strCmp rfl rfl rfl rfl)) ?_
 refine RA.firstT (i := 13) (ls' := (bt 15 16383)) (Tell.of rfl) (by kernel_rfl) rfl rfl rfl rfl rfl rfl (VF.p (V.pickT (d := Bo (!(ei.name.toList == sN.toList))) rfl rfl rfl)) ?_
 refine RA.fr XK 47 0 [14] (bt 15 32767) rfl rfl (by kernel_rfl) (Tell.of rfl) ?_
 (conv=>whnf);refine ⟨rfl,fun B=>?_⟩
 exact RA.finH (Tell.of rfl) (by kernel_rfl) (hK _ _ (by first | rfl | (simp_all; done) | grind) rfl (Le.of rfl))
 refine RA.firstF (i := 7) (ls' := (bt 15 255)) (Tell.of rfl) (by kernel_rfl) rfl rfl rfl rfl rfl (.inl rfl) ?_
 refine RA.firstF (i := 8) (ls' := (bt 15 511)) (Tell.of rfl) (by kernel_rfl) rfl rfl rfl rfl rfl (.inl rfl) ?_
 refine RA.firstF (i := 9) (ls' := (bt 15 1023)) (Tell.of rfl) (by kernel_rfl) rfl rfl rfl rfl rfl (.inl rfl) ?_
 refine RA.firstF (i := 10) (ls' := (bt 15 2047)) (Tell.of rfl) (by kernel_rfl) rfl rfl rfl rfl rfl (.inl rfl) ?_
 refine RA.firstF (i := 11) (ls' := (bt 15 4095)) (Tell.of rfl) (by kernel_rfl) rfl rfl rfl rfl rfl (.inl rfl) ?_
 refine RA.firstF (i := 12) (ls' := (bt 15 8191)) (Tell.of rfl) (by kernel_rfl) rfl rfl rfl rfl rfl (.inl rfl) ?_
 refine RA.firstT (i := 13) (ls' := (bt 15 16383)) (Tell.of rfl) (by kernel_rfl) rfl rfl rfl rfl rfl rfl (VF.p (V.pickF (d := Bo false) rfl rfl rfl)) ?_
 refine RA.fr XK 47 0 [14] (bt 15 32767) rfl rfl (by kernel_rfl) (Tell.of rfl) ?_
 (conv=>whnf);refine ⟨rfl,fun B=>?_⟩
 refine RA.keep 47 [3,4,7,18,19,20,38] rfl ?_;(conv=>whnf);refine ⟨?_⟩
 exact RA.finH (Tell.of rfl) (by kernel_rfl) (hK _ _ (by first | rfl | (simp_all; done) | grind) rfl (Le.of rfl))
 rintro v8 hv14
 refine CW.cond rfl (fun h15 => ?_) (fun h15 => ?_)
 have hvv := hv14.symm.trans h15
 exact absurd hvv (sh_v hfd hei)
 have hvv := hv14.symm.trans h15
 refine CW.g XK 47 [.p,.e [3,4,18,19,20],.p] rfl rfl rfl ?_
 refine RW.v rfl (V.inc rfl rfl rfl hii hl1) ?_
 refine RW.g XK 47 [.o 1,.p] rfl rfl rfl ?_
 exact ⟨i + 1, by omega, (by omega), rfl, Le.c rfl <| Le.c rfl <| Le.c rfl <| Le.c rfl <| Le.c rfl <| Le.e⟩
 have hii : d.files.length ≤ i := by have := h6; simp at this; first | exact this | omega | (simp; done) | (simp; omega)
 have hdi : d.files.drop i = [] := List.drop_eq_nil_of_le hii
 refine CW.exit ?_
 refine CW.g XK 47 [.e [3],.o 2] rfl rfl rfl ?_
 refine RW.pullS 2 3 (by decide) rfl rfl ?_
 refine RW.g XK 47 [.p,.e [2]] rfl rfl rfl ?_
 refine CW.ret ?_
 exact Post.one (RV.w rfl (by rfl)) (AOs.a rfl AOs.e)
set_option maxHeartbeats 4000000 in
theorem impl_copyDisk_fn (d : Disk) (hok : okToDisk d) : Eng.Fn E.P 102 [.agg ((Disk.c d).map .r)] (.one (.agg ((Disk.c d).map .w))) [.agg ((Disk.c d).map .r)] := by
 refine Eng.Fn.intro (E := E) (rvs := [.cell 2 28]) Tryz.func102 rfl rfl rfl (by simp [outSlots, moved, rvSlot, sl]) ?_
 intro B g bo
 refine CW.h XK 8 [.e [0],.o 1] rfl ?_;(conv=>whnf);intro b1;(conv=>whnf);refine ⟨rfl,?_⟩
 refine RW.freezeB (ts := (Disk.c d)) 1 rfl (DRd.r DRd.e) ?_
 refine RW.h XK 8 [.o 1,.p,.e [1,2],.p,.p] rfl ?_;(conv=>whnf);intro b2;(conv=>whnf);refine ⟨rfl,?_⟩
 refine RW.build0 File.c rfl rfl rfl rfl rfl fun X3 => ?_
 refine RW.g XK 8 [.o 2] rfl rfl rfl ?_
 refine RW.appendSR (c := File.c) (l1 := ([] : List File)) (l2 := d.files) rfl rfl rfl rfl rfl rfl rfl rfl .r (by decide) (Nat.le_of_ble_eq_true rfl) File.len (fun _ => rfl) rfl (by have h9 := hok.1; simp only [maxLen, List.length_nil]; omega) (by have h9 := hok.1; simp only [maxLen, List.length_nil]; omega) fun X4 => ?_
 refine RW.g XK 8 [.o 2,.e [2,6]] rfl rfl rfl ?_
 refine RW.pullT (k := 2) (l := 6) (j := 0) 2 6 0 rfl rfl rfl (by decide) rfl rfl rfl ?_
 refine RW.g XK 8 [.e [2],.p,.e [2]] rfl rfl rfl ?_
 refine CW.ret ?_
 exact Post.one (RV.c (f := fun e => (Disk.c e).map .w) (e' := (⟨(([] : List File) ++ d.files)⟩ : Disk)) rfl rfl rfl rfl (DT.w DT.e) (by rfl)) (AOs.a rfl AOs.e)
set_option maxHeartbeats 4000000 in
theorem impl_DoActs_fn (d : Disk) (l : List Act) (hl : l = []) (hok : okToDisk d) : Eng.Fn E.P 36 [.agg ((Disk.c d).map .r), .one (.r (sl 4 Act.c l))] (.tup [.agg ((Disk.c d).map .w), .one (.w (.v (.int .i64 0)))]) [.agg ((Disk.c d).map .r), .one (.r (sl 4 Act.c l))] := by
 refine Eng.Fn.intro (E := E) (rvs := [.cell 4 28, .tmp 5]) Tryz.func36 rfl rfl rfl (by simp [outSlots, moved, rvSlot, sl]) ?_
 intro B g bo
 refine CW.bound (x := .tmp 1) (n := l.length) (AsT.r) (fun hl1 => ?_)
 refine CW.h XK 35 [.e [0,1],.o 1] rfl ?_;(conv=>whnf);intro b1;(conv=>whnf);refine ⟨rfl,?_⟩
 refine RW.freezeB (ts := (Disk.c d)) 2 rfl (DRd.r DRd.e) ?_
 refine RW.h XK 35 [.o 2,.p,.e [1,2,4],.o 1] rfl ?_;(conv=>whnf);intro b2;(conv=>whnf);refine ⟨rfl,?_⟩
 refine RW.call rfl (impl_copyDisk_fn d hok) rfl (.cons (.agg (.cons (.r .r) (.nil))) (.nil)) fun g3 => ?_
 refine RW.h XK 35 [.o 2,.e [1,4,6,12]] rfl ?_;(conv=>whnf);intro b4;(conv=>whnf);refine ⟨rfl,?_⟩
 refine RW.pullA (k := 6) (l := 12) (j := 0) 6 12 0 rfl rfl rfl (by decide) rfl rfl rfl rfl ?_
 refine RW.g XK 35 [.e [1,4,6],.p,.e [1,4,6],.n 1,.e [1,4,6,13,14,15],.p] rfl rfl rfl ?_
 refine CW.loopI 35 (fun (i : Nat) => [(1, .r (sl 4 Act.c l)), (4, .obj b2 [.r (.v (.slice none 0 0))]), (6, .obj b4 [.w (sl 3 File.c d.files) (g3 0 0)]), (13, .r (sl 4 Act.c l)), (14, I (l.length : Int)), (15, I (i : Int))]) (fun (i : Nat) => i = 0) (fun (i : Nat) => 0) 0 rfl (Le.c rfl <| Le.c rfl <| Le.c rfl <| Le.c rfl <| Le.c rfl <| Le.c rfl <| Le.e) rfl ?_
 rintro i hi0
 refine CW.g XK 35 [.n 1,.e [1,4,6,13,14,15,16],.p] rfl rfl rfl ?_
 refine CW.cond rfl (fun h5 => ?_) (fun h5 => ?_)
 exact absurd (of_decide_eq_true h5) (by rw [hl]; show ¬ (i : Int) < ((0 : Nat) : Int); omega)
 refine CW.exit ?_
 refine CW.g XK 35 [.e [1,4,6],.o 4,.e [4,6,34]] rfl rfl rfl ?_
 refine RW.pullO (k := 4) (l := 6) (j := 0) 4 6 0 rfl rfl rfl (by decide) rfl rfl rfl rfl ?_
 refine RW.g XK 35 [.e [4,34],.o 1,.p,.e [4,5]] rfl rfl rfl ?_
 refine CW.ret ?_
 exact Post.tup (by decide) (RVs.c (RV.c (f := fun e => (Disk.c e).map .w) (e' := d) rfl rfl rfl rfl (DT.w DT.e) (by rfl)) (RVs.c (RV.i rfl (by rw [hl]; rfl)) RVs.e)) (AOs.a rfl (AOs.r AOs.e))
set_option maxHeartbeats 4000000 in
theorem impl_LogTerm_fn (l : Log) (i : Int) (hs : 0 ≤ l.start ∧ l.start ≤ 1000000 ∧ l.entries.length ≤ 60) (hi : i ≤ 9223372036854775807) : Eng.Fn E.P 105 [.agg ((Log.c l).map .r), .one (.r (.v (.int .i64 i)))] (.one (.one (.w (.v (.int .i64 (logTerm l i)))))) [.agg ((Log.c l).map .r), .one (.r (.v (.int .i64 i)))] := by
 refine Eng.Fn.intro (E := E) (rvs := [.tmp 4]) Tryz.func105 rfl rfl rfl (by simp [outSlots, moved, rvSlot, sl]) ?_
 intro B g bo
 refine CW.h XK 37 [.e [0,1],.o 1] rfl ?_;(conv=>whnf);intro b1;(conv=>whnf);refine ⟨rfl,?_⟩
 refine RW.freezeB (ts := (Log.c l)) 2 rfl (DRd.r (DRd.r (DRd.r DRd.e))) ?_
 refine RW.g XK 37 [.o 1,.p,.e [1,2],.n 1,.e [1,2,5]] rfl rfl rfl ?_
 refine CW.cond rfl (fun h2 => ?_) (fun h2 => ?_)
 refine CW.g XK 37 [.n 1,.e [4]] rfl rfl rfl ?_
 refine CW.ret ?_
 exact Post.one (RV.i rfl (by exact lt_at h2)) (AOs.a rfl (AOs.r AOs.e))
 refine CW.seqJ 37 (fun (v3 : Bool) => [(1, I i), (2, .rp (Log.c l)), (12, Bo v3)]) (fun v3 => v3 = (decide (i > l.start) && decide ((IntKind.i64.wrap (i - l.start)) ≤ (l.entries.length : Int)))) ?_ ?_
 refine CW.g XK 37 [.o 5] rfl rfl rfl ?_
 refine RW.gv rfl rfl rfl rfl (fun h4 => V.mv (d := I i) rfl rfl) (fun h4 => ?_) (fun h4 => ?_)
 refine RW.g XK 37 [.o 9,.p] rfl rfl rfl ?_
 exact ⟨_, by first | rfl | (simp_all; done) | (simp_all; omega) | grind, rfl, Le.of rfl⟩
 refine RW.g XK 37 [.o 9,.p] rfl rfl rfl ?_
 exact ⟨_, by first | rfl | (simp_all; done) | (simp_all; omega) | grind, rfl, Le.of rfl⟩
 intro v3 hv5
 refine CW.cond rfl (fun h6 => ?_) (fun h6 => ?_)
 have hA : l.start < i ∧ i ≤ l.start + (l.entries.length : Int) := by rw [hv5, IntKind.wrap_i64] at h6; simp at h6; omega
 refine CW.g XK 37 [.o 7] rfl rfl rfl ?_
 refine RW.v rfl (V.indexZ (m := (i - l.start - 1).toNat) (v := (l.entries.getD (i - l.start - 1).toNat Entry.z)) rfl rfl rfl rfl rfl rfl (by rw [IntKind.wrap_i64, IntKind.wrap_i64]; omega) Entry.len (getD_some (by omega))) ?_
 refine RW.g XK 37 [.o 3,.p,.e [4]] rfl rfl rfl ?_
 refine CW.ret ?_
 exact Post.one (RV.i rfl (by exact lt_in (by simpa using h2) hA)) (AOs.a rfl (AOs.r AOs.e))
 have hne : i ≠ l.start := by simpa using h2
 have ho : i < l.start ∨ i > l.start + (l.entries.length : Int) := by rw [hv5, IntKind.wrap_i64] at h6; simp at h6; omega
 refine CW.g XK 37 [.p,.e [],.n 1,.e [4]] rfl rfl rfl ?_
 refine CW.ret ?_
 exact Post.one (RV.i rfl (by exact lt_out (by simpa using h2) ho)) (AOs.a rfl (AOs.r AOs.e))
set_option maxHeartbeats 4000000 in
theorem impl_LogBehind_fn (l : Log) (b : Int) (t : Int) (hok : okToLog l) (hi : b ≤ 9223372036854775807) : Eng.Fn E.P 38 [.agg ((Log.c l).map .r), .one (.r (.v (.int .i64 b))), .one (.r (.v (.int .i64 t)))] (.one (.agg ((Log.c (logBehind l b t)).map .w))) [.agg ((Log.c l).map .r), .one (.r (.v (.int .i64 b))), .one (.r (.v (.int .i64 t)))] := by
 refine Eng.Fn.intro (E := E) (rvs := [.cell 6 34]) Tryz.func38 rfl rfl rfl (by simp [outSlots, moved, rvSlot, sl]) ?_
 intro B g bo
 refine CW.h XK 36 [.e [0,1,2],.o 1] rfl ?_;(conv=>whnf);intro b1;(conv=>whnf);refine ⟨rfl,?_⟩
 refine RW.freezeB (ts := (Log.c l)) 3 rfl (DRd.r (DRd.r (DRd.r DRd.e))) ?_
 refine RW.h XK 36 [.o 1,.p,.e [1,2,3,6],.n 1,.e [1,2,3,6,7],.p] rfl ?_;(conv=>whnf);intro b2;(conv=>whnf);intro b3;(conv=>whnf);refine ⟨rfl,?_⟩
 refine CW.seqJ 36 (fun (v4 : Bool) => [(1, I b), (3, .rp (Log.c l)), (6, .obj b2 [I 0, I 0, .r (.v (.slice none 0 0))]), (7, .obj b3 [I b, I t, .r (.v (.slice none 0 0))]), (23, Bo v4)]) (fun v4 => v4 = (((logOk l) && ((logTerm l b) == t)) && decide (t ≥ 0))) ?_ ?_
 refine CW.g XK 36 [.o 1] rfl rfl rfl ?_
 refine RW.call rfl (impl_LogOk_fn l hok) rfl (.cons (.agg (.cons (.r .r) (.cons (.r .r) (.cons (.r .r) (.nil))))) (.nil)) fun g5 => ?_
 refine RW.g XK 36 [.o 1] rfl rfl rfl ?_
 refine RW.gv rfl rfl rfl rfl (fun h6 => V.loadAggR rfl rfl rfl rfl (Nat.le_of_ble_eq_true rfl)) (fun h6 => ?_) (fun h6 => ?_)
 refine RW.g XK 36 [.o 1] rfl rfl rfl ?_
 refine RW.gcall rfl rfl rfl rfl (impl_LogTerm_fn l b (logOk_hs h6) hi) rfl (.cons (.agg (.cons (.r .r) (.cons (.r .r) (.cons (.r .r) (.nil))))) (.cons (.one (.r .r)) (.nil))) fun g7 => ?_
 refine RW.g XK 36 [.o 4] rfl rfl rfl ?_
 refine RW.gv rfl rfl rfl rfl (fun h8 => V.mv (d := I t) rfl rfl) (fun h8 => ?_) (fun h8 => ?_)
 refine RW.g XK 36 [.o 2,.p] rfl rfl rfl ?_
 exact ⟨_, by first | rfl | (simp_all; done) | (simp_all; omega) | grind, rfl, Le.of rfl⟩
 refine RW.g XK 36 [.o 2,.p] rfl rfl rfl ?_
 exact ⟨_, by first | rfl | (simp_all; done) | (simp_all; omega) | grind, rfl, Le.of rfl⟩
 refine RW.g XK 36 [.o 9,.p] rfl rfl rfl ?_
 exact ⟨_, by first | rfl | (simp_all; done) | (simp_all; omega) | grind, rfl, Le.of rfl⟩
 intro v4 hv9
 refine CW.cond rfl (fun h10 => ?_) (fun h10 => ?_)
 have hl : logOk l = true := by rw [hv9] at h10; simp at h10; exact h10.1.1
 have hs := logOk_hs hl
 have hr : l.start ≤ b ∧ b ≤ l.start + (l.entries.length : Int) := by rw [hv9, lb_impl2] at h10; simp [inR] at h10; omega
 have ht : (logTerm l b == t) = true := by rw [hv9] at h10; simp at h10; simpa using h10.1.2
 refine CW.anyR2 (fc := [(6, b2, [.int .i64 0, .int .i64 0, .slice none 0 0])]) (L0 := [(6, .obj b2 [I 0, I 0, .r (.v (.slice none 0 0))])]) 36 (fun (Xo11_9_1 : Value) => [(7, .obj b3 [I b, I t, .w (sl 3 Entry.c (([]) ++ (l.entries.drop (b - l.start).toNat))) Xo11_9_1])]) (fun all hall f hf b0 hb K hK => ?_) ?_
 have ro11_3 : ∀ B, ∀ (Xo11_9_1 : Value), RA f E B all 0 (bt 12 4095) ⟨36, [(7, .obj b3 [I b, I t, .w (sl 3 Entry.c (([]) ++ (l.entries.drop (b - l.start).toNat))) Xo11_9_1])] ++ b0⟩ K := by
  intro B Xo11_9_1
  exact RA.of2 hall hf hb (RA.finH (Tell.of rfl) (by kernel_rfl) (hK Xo11_9_1 _ rfl (Le.of rfl)))
 have ro11_2 : ∀ B, ∀ (Xo11_9_1 : Value), RA f E B all 1 (bt 12 2047) ⟨36, [(7, .obj b3 [I b, I t, .r (.v (.slice none 0 0))]), (33, .w (sl 3 Entry.c (([]) ++ (l.entries.drop (b - l.start).toNat))) Xo11_9_1), (34, .pt 7 b3 2)] ++ b0⟩ K := by
  intro B Xo11_9_1
  refine RA.of2 hall hf hb (RA.stepH (L := [11]) (Tell.of rfl) (by kernel_rfl) (by simp) (RA.each ?_ (RA.each0)))
  refine RO.store (d := .al 33 none 3 ((([]) ++ (l.entries.drop (b - l.start).toNat)).length) Xo11_9_1 0) rfl rfl rfl rfl rfl rfl rfl rfl rfl (Nat.le_of_ble_eq_true rfl) rfl rfl ?_
  refine RA.keep 36 [6,7,33] rfl ?_;(conv=>whnf);refine ⟨?_⟩
  refine RA.pullT (k := 7) (l := 33) (j := 2) 7 33 2 rfl rfl rfl (by decide) rfl rfl rfl ?_
  refine RA.keep 36 [6,7] rfl ?_;(conv=>whnf);refine ⟨?_⟩
  exact RA.to2 hall hf hb (ro11_3 B Xo11_9_1) rfl rfl (by kernel_rfl)
 have ro11_1 : ∀ B, RA f E B all 3 (bt 12 511) ⟨36, [(7, .obj b3 [I b, I t, .r (.v (.slice none 0 0))]), (25, .r (.v (.slice none 0 0))), (32, .r (sl 3 Entry.c (l.entries.drop (b - l.start).toNat)))] ++ b0⟩ K := by
  intro B
  refine RA.of2 hall hf hb (RA.stepH (L := [9]) (Tell.of rfl) (by kernel_rfl) (by simp) (RA.each ?_ (RA.each0)))
  refine RO.nilOwn 25 3 Entry.c rfl ?_
  refine RO.appendSR (c := Entry.c) (l1 := []) (l2 := (l.entries.drop (b - l.start).toNat)) rfl rfl rfl rfl rfl rfl rfl rfl rfl rfl .r (by decide) (Nat.le_of_ble_eq_true rfl) Entry.len (fun _ => rfl) rfl (by have h9 := hok.1; have h8 : (l.entries.drop (b - l.start).toNat).length ≤ l.entries.length := (by rw [List.length_drop]; omega); simp only [maxLen, List.length_nil]; omega) (by have h9 := hok.1; have h8 : (l.entries.drop (b - l.start).toNat).length ≤ l.entries.length := (by rw [List.length_drop]; omega); simp only [maxLen, List.length_nil]; omega) fun Xo11_9_1 => ?_
  refine RA.fr XK 36 1 [10] (bt 12 2047) rfl rfl (by kernel_rfl) (Tell.of rfl) ?_
  (conv=>whnf);refine ⟨rfl,fun B=>?_⟩
  exact RA.to2 hall hf hb (ro11_2 B Xo11_9_1) rfl rfl (by kernel_rfl)
 have ro11_0 : ∀ B, RA f E B all 4 (bt 12 509) ⟨36, [(7, .obj b3 [I b, I t, .r (.v (.slice none 0 0))]), (24, .pt 7 b3 2), (32, .r (sl 3 Entry.c (l.entries.drop (b - l.start).toNat)))] ++ b0⟩ K := by
  intro B
  refine RA.of2 hall hf hb (RA.stepH (L := [1]) (Tell.of rfl) (by kernel_rfl) (by simp) (RA.each ?_ (RA.each0)))
  refine RO.v rfl rfl (V.loadPrim (d := .r (.v (.slice none 0 0))) rfl rfl (.inr ⟨_, rfl⟩) rfl rfl rfl) rfl ?_
  exact RA.to2 hall hf hb (ro11_1 B) rfl rfl (by kernel_rfl)
 refine RA.start (by kernel_rfl) (by kernel_rfl) (m := 12) (ls' := (bt 12 0)) ?_
 refine RA.fr XK 36 5 [0,2,3,4,5,6,7] (bt 12 253) rfl rfl (by kernel_rfl) (Tell.of rfl) ?_
 (conv=>whnf);refine ⟨rfl,fun B=>?_⟩
 refine RA.first (i := 8) (ls' := (bt 12 509)) (Tell.of rfl) (by kernel_rfl) rfl rfl rfl (VF.p (V.dropS (m := (b - l.start).toNat) rfl rfl rfl rfl rfl rfl (by rw [IntKind.wrap_i64]; omega) Entry.len (by omega))) ?_
 exact RA.to2 hall hf hb (ro11_0 B) rfl rfl (by kernel_rfl)
 rintro Xo11_9_1
 refine CW.g XK 36 [.e [6,7],.o 2,.e [6,7]] rfl rfl rfl ?_
 refine RW.pullO (k := 6) (l := 7) (j := 2) 6 7 2 rfl rfl rfl (by decide) rfl rfl rfl rfl ?_
 refine RW.g XK 36 [.e [6,7],.p,.e [6]] rfl rfl rfl ?_
 refine CW.ret ?_
 exact Post.one (RV.c (f := fun e => (Log.c e).map .w) (e' := (⟨b, t, (([]) ++ (l.entries.drop (b - l.start).toNat))⟩ : Log)) rfl rfl rfl rfl (DT.v (DT.v (DT.w DT.e))) (by rw [lb_yes hl hr ht]; rfl)) (AOs.a rfl (AOs.r (AOs.r AOs.e)))
 refine CW.g XK 36 [.p,.e [6,7],.n 1,.e [6]] rfl rfl rfl ?_
 refine CW.ret ?_
 exact Post.one (RV.c (f := fun e => (Log.c e).map .w) (e' := (⟨b, t, []⟩ : Log)) rfl rfl rfl rfl (DT.v (DT.v (DT.n DT.e))) (by rw [lb_no (by rw [← lb_impl2, ← hv9]; exact h10)])) (AOs.a rfl (AOs.r (AOs.r AOs.e)))
set_option maxHeartbeats 4000000 in
theorem impl_NodeOk_fn (n : Node) (hn : Nd0P n) : Eng.Fn E.P 40 [.agg ((Node.c n).map .r)] (.one (.one (.w (.v (.bool true))))) [.agg ((Node.c n).map .r)] := by
 refine Eng.Fn.intro (E := E) (rvs := [.tmp 2]) Tryz.func40 rfl rfl rfl (by simp [outSlots, moved, rvSlot, sl]) ?_
 intro B g bo
 refine CW.h XK 106 [.e [0],.o 1] rfl ?_;(conv=>whnf);intro b1;(conv=>whnf);refine ⟨rfl,?_⟩
 refine RW.freezeB (ts := (Node.c n)) 1 rfl (DRd.r (DRd.r (DRd.r (DRd.r (DRd.r (DRd.r (DRd.r (DRd.r (DRd.r (DRd.r (DRd.r (DRd.r (DRd.r (DRd.r DRd.e)))))))))))))) ?_
 refine RW.g XK 106 [.o 1,.p,.e [1],.o 2] rfl rfl rfl ?_
 refine RW.call rfl (impl_LogLast_fn n.log (by rw [hn.lg]; exact okToLog_z)) rfl (.cons (.agg (.cons (.r .r) (.cons (.r .r) (.cons (.r .r) (.nil))))) (.nil)) fun g2 => ?_
 refine RW.g XK 106 [.o 5,.p,.e [1,3,4],.p] rfl rfl rfl ?_
 refine CW.seqJ 106 (fun (v3 : Bool) => [(1, .rp (Node.c n)), (3, I ((logLast n.log).1)), (46, Bo v3)]) (fun v3 => v3 = ((((((!(inR n.id 1 4)) || (!(confOk n.conf))) || (!(logOk n.log))) || (!(inR n.term_ 0 100000 && inR n.vote 0 4))) || decide (n.term_ < ((logLast n.log).2))) || (!(inR n.lead 0 4)))) ?_ ?_
 refine CW.g XK 106 [.o 2] rfl rfl rfl ?_
 refine RW.call rfl (impl_isNode_fn n.id) rfl (.cons (.one (.r .r)) (.nil)) fun g4 => ?_
 refine RW.g XK 106 [.o 2] rfl rfl rfl ?_
 refine RW.gv rfl rfl rfl rfl (fun h5 => V.fieldR rfl rfl rfl rfl (by decide) rfl (Nat.le_of_ble_eq_true rfl)) (fun h5 => ?_) (fun h5 => ?_)
 refine RW.g XK 106 [.o 1] rfl rfl rfl ?_
 refine RW.gcall rfl rfl rfl rfl (impl_ConfOk_fn n.conf) rfl (.cons (.one (.r .r)) (.nil)) fun g6 => ?_
 refine RW.g XK 106 [.o 3] rfl rfl rfl ?_
 refine RW.gv rfl rfl rfl rfl (fun h7 => V.fieldR rfl rfl rfl rfl (by decide) rfl (Nat.le_of_ble_eq_true rfl)) (fun h7 => ?_) (fun h7 => ?_)
 refine RW.g XK 106 [.o 1] rfl rfl rfl ?_
 refine RW.gcall rfl rfl rfl rfl (impl_LogOk_fn n.log (by rw [hn.lg]; exact okToLog_z)) rfl (.cons (.agg (.cons (.r .r) (.cons (.r .r) (.cons (.r .r) (.nil))))) (.nil)) fun g8 => ?_
 refine RW.g XK 106 [.o 3] rfl rfl rfl ?_
 refine RW.gv rfl rfl rfl rfl (fun h9 => V.fieldR rfl rfl rfl rfl (by decide) rfl (Nat.le_of_ble_eq_true rfl)) (fun h9 => ?_) (fun h9 => ?_)
 refine RW.g XK 106 [.o 3] rfl rfl rfl ?_
 refine RW.gcall rfl rfl rfl rfl (impl_votesOk_fn n.term_ n.vote) rfl (.cons (.one (.r .r)) (.cons (.one (.r .r)) (.nil))) fun g10 => ?_
 refine RW.g XK 106 [.o 3] rfl rfl rfl ?_
 refine RW.gv rfl rfl rfl rfl (fun h11 => V.fieldR rfl rfl rfl rfl (by decide) rfl (Nat.le_of_ble_eq_true rfl)) (fun h11 => ?_) (fun h11 => ?_)
 refine RW.g XK 106 [.o 5] rfl rfl rfl ?_
 refine RW.gv rfl rfl rfl rfl (fun h12 => V.fieldR rfl rfl rfl rfl (by decide) rfl (Nat.le_of_ble_eq_true rfl)) (fun h12 => ?_) (fun h12 => ?_)
 refine RW.g XK 106 [.o 1] rfl rfl rfl ?_
 refine RW.gcall rfl rfl rfl rfl (impl_within_fn n.lead 0 4) rfl (.cons (.one (.r .r)) (.cons (.one (.r .r)) (.cons (.one (.r .r)) (.nil)))) fun g13 => ?_
 refine RW.g XK 106 [.o 2,.p] rfl rfl rfl ?_
 exact ⟨_, by first | rfl | (simp_all; done) | (simp_all; omega) | grind, rfl, Le.of rfl⟩
 refine RW.g XK 106 [.o 4,.p] rfl rfl rfl ?_
 exact ⟨_, by first | rfl | (simp_all; done) | (simp_all; omega) | grind, rfl, Le.of rfl⟩
 refine RW.g XK 106 [.o 10,.p] rfl rfl rfl ?_
 exact ⟨_, by first | rfl | (simp_all; done) | (simp_all; omega) | grind, rfl, Le.of rfl⟩
 refine RW.g XK 106 [.o 18,.p] rfl rfl rfl ?_
 exact ⟨_, by first | rfl | (simp_all; done) | (simp_all; omega) | grind, rfl, Le.of rfl⟩
 refine RW.g XK 106 [.o 24,.p] rfl rfl rfl ?_
 exact ⟨_, by first | rfl | (simp_all; done) | (simp_all; omega) | grind, rfl, Le.of rfl⟩
 refine RW.g XK 106 [.o 30,.p] rfl rfl rfl ?_
 exact ⟨_, by first | rfl | (simp_all; done) | (simp_all; omega) | grind, rfl, Le.of rfl⟩
 intro v3 hv14
 refine CW.cond rfl (fun h15 => ?_) (fun h15 => ?_)
 have hvv := hv14.symm.trans h15
 first | exact absurd hvv hn.i1 | exact absurd hvv hn.i2
 have hvv := hv14.symm.trans h15
 refine CW.g XK 106 [.p,.e [1,3],.p] rfl rfl rfl ?_
 refine CW.seqJ 106 (fun (v16 : Bool) => [(1, .rp (Node.c n)), (72, Bo v16)]) (fun v16 => v16 = ((((!(inR n.commit n.log.start ((logLast n.log).1))) || (!(inR n.clock 0 20))) || (!(inR n.limit 1 20))) || (!(riseOk 1 4 none n.votes)))) ?_ ?_
 refine CW.g XK 106 [.o 6] rfl rfl rfl ?_
 refine RW.call rfl (impl_within_fn n.commit n.log.start ((logLast n.log).1)) rfl (.cons (.one (.r .r)) (.cons (.one (.r .r)) (.cons (.one (.r .r)) (.nil)))) fun g17 => ?_
 refine RW.g XK 106 [.o 2] rfl rfl rfl ?_
 refine RW.gv rfl rfl rfl rfl (fun h18 => V.fieldR rfl rfl rfl rfl (by decide) rfl (Nat.le_of_ble_eq_true rfl)) (fun h18 => ?_) (fun h18 => ?_)
 refine RW.g XK 106 [.o 1] rfl rfl rfl ?_
 refine RW.gcall rfl rfl rfl rfl (impl_within_fn n.clock 0 20) rfl (.cons (.one (.r .r)) (.cons (.one (.r .r)) (.cons (.one (.r .r)) (.nil)))) fun g19 => ?_
 refine RW.g XK 106 [.o 3] rfl rfl rfl ?_
 refine RW.gv rfl rfl rfl rfl (fun h20 => V.fieldR rfl rfl rfl rfl (by decide) rfl (Nat.le_of_ble_eq_true rfl)) (fun h20 => ?_) (fun h20 => ?_)
 refine RW.g XK 106 [.o 1] rfl rfl rfl ?_
 refine RW.gcall rfl rfl rfl rfl (impl_within_fn n.limit 1 20) rfl (.cons (.one (.r .r)) (.cons (.one (.r .r)) (.cons (.one (.r .r)) (.nil)))) fun g21 => ?_
 refine RW.g XK 106 [.o 3] rfl rfl rfl ?_
 refine RW.gv rfl rfl rfl rfl (fun h22 => V.fieldR rfl rfl rfl rfl (by decide) rfl (Nat.le_of_ble_eq_true rfl)) (fun h22 => ?_) (fun h22 => ?_)
 refine RW.g XK 106 [.o 1] rfl rfl rfl ?_
 refine RW.gcall rfl rfl rfl rfl (impl_nodesOk_fn n.votes) rfl (.cons (.one (.r .r)) (.nil)) fun g23 => ?_
 refine RW.g XK 106 [.o 2,.p] rfl rfl rfl ?_
 exact ⟨_, by first | rfl | (simp_all; done) | (simp_all; omega) | grind, rfl, Le.of rfl⟩
 refine RW.g XK 106 [.o 4,.p] rfl rfl rfl ?_
 exact ⟨_, by first | rfl | (simp_all; done) | (simp_all; omega) | grind, rfl, Le.of rfl⟩
 refine RW.g XK 106 [.o 10,.p] rfl rfl rfl ?_
 exact ⟨_, by first | rfl | (simp_all; done) | (simp_all; omega) | grind, rfl, Le.of rfl⟩
 refine RW.g XK 106 [.o 16,.p] rfl rfl rfl ?_
 exact ⟨_, by first | rfl | (simp_all; done) | (simp_all; omega) | grind, rfl, Le.of rfl⟩
 intro v16 hv24
 refine CW.cond rfl (fun h25 => ?_) (fun h25 => ?_)
 have hvv := hv24.symm.trans h25
 first | exact absurd hvv hn.i1 | exact absurd hvv hn.i2
 have hvv := hv24.symm.trans h25
 refine CW.g XK 106 [.p,.e [1],.n 1,.e [1,74],.n 1,.e [1,74,75]] rfl rfl rfl ?_
 refine CW.cond rfl (fun h26 => ?_) (fun h26 => ?_)
 refine CW.seqJ 106 (fun (v27 : Bool) => [(2, Bo v27)]) (fun v27 => v27 = (((n.votes.length : Int) == 0) && ((n.peers.length : Int) == 0))) ?_ ?_
 refine CW.g XK 106 [.o 5] rfl rfl rfl ?_
 refine RW.gv rfl rfl rfl rfl (fun h28 => V.fieldR rfl rfl rfl rfl (by decide) rfl (Nat.le_of_ble_eq_true rfl)) (fun h28 => ?_) (fun h28 => ?_)
 refine RW.g XK 106 [.o 5,.p] rfl rfl rfl ?_
 exact ⟨_, by first | rfl | (simp_all; done) | (simp_all; omega) | grind, rfl, Le.of rfl⟩
 refine RW.g XK 106 [.o 5,.p] rfl rfl rfl ?_
 exact ⟨_, by first | rfl | (simp_all; done) | (simp_all; omega) | grind, rfl, Le.of rfl⟩
 intro v27 hv29
 refine CW.ret ?_
 exact Post.one (RV.b rfl (by rw [hv29]; exact hn.i4)) (AOs.a rfl AOs.e)
 exact absurd h26 hn.i3
set_option maxHeartbeats 4000000 in
theorem impl_Entry__fn (a : List Entry) (b : List Entry) : Eng.Fn E.P 111 [.one (.r (sl 3 Entry.c a)), .one (.r (sl 3 Entry.c b))] (.one (.one (.w (.v (.bool (eqS eqEntry a b)))))) [.one (.r (sl 3 Entry.c a)), .one (.r (sl 3 Entry.c b))] := by
 refine Eng.Fn.intro (E := E) (rvs := [.tmp 4]) Tryz.func111 rfl rfl rfl (by simp [outSlots, moved, rvSlot, sl]) ?_
 intro B g bo
 refine CW.bound (x := .tmp 0) (n := a.length) (AsT.r) (fun hl0 => ?_)
 refine CW.bound (x := .tmp 1) (n := b.length) (AsT.r) (fun hl1 => ?_)
 refine CW.g XK 26 [.e [0,1],.n 1,.e [0,1],.n 1,.e [0,1,10]] rfl rfl rfl ?_
 refine CW.cond rfl (fun h1 => ?_) (fun h1 => ?_)
 refine CW.g XK 26 [.n 1,.e [4]] rfl rfl rfl ?_
 refine CW.ret ?_
 exact Post.one (RV.b rfl q8) (AOs.r (AOs.r AOs.e))
 refine CW.g XK 26 [.p,.e [0,1],.n 1,.e [0,1,12,13],.p] rfl rfl rfl ?_
 refine CW.loopI 26 (fun (i : Nat) => [(0, .r (sl 3 Entry.c a)), (1, .r (sl 3 Entry.c b)), (12, I (a.length : Int)), (13, I (i : Int))]) (fun (i : Nat) => i ≤ a.length ∧ eqS eqEntry (a.drop i) (b.drop i) = eqS eqEntry a b) (fun (i : Nat) => a.length - i) 0 rfl (Le.c rfl <| Le.c rfl <| Le.c rfl <| Le.c rfl <| Le.e) ⟨by omega, by simp⟩ ?_
 rintro i ⟨hb, hr⟩
 have hlen : a.length = b.length := by simp at h1; omega
 refine CW.g XK 26 [.n 1,.e [0,1,12,13,14],.p] rfl rfl rfl ?_
 refine CW.cond rfl (fun h2 => ?_) (fun h2 => ?_)
 have hii : i < a.length := by have := h2; simp at this; first | exact this | omega | (simp; done) | (simp; omega)
 obtain ⟨ei, hei⟩ : ∃ e, a[i]? = some e := ⟨_, List.getElem?_eq_getElem hii⟩
 have hdi := drop_get hei
 have hib : i < b.length := by omega
 obtain ⟨eb, heb⟩ : ∃ e, b[i]? = some e := ⟨_, List.getElem?_eq_getElem hib⟩
 refine CW.g XK 26 [.p,.e [0,1,12,13],.n 1,.e [0,1,5,12,13],.p] rfl rfl rfl ?_
 refine CW.drawn (by kernel_rfl) ?_
 refine RQ.k XK 26 2 rfl ?_
 (conv=>whnf);refine ⟨rfl,?_⟩
 refine RQ.v rfl (V.indexS rfl rfl rfl rfl rfl rfl Entry.len hei) ?_
 refine RQ.k XK 26 3 rfl ?_
 (conv=>whnf);refine ⟨rfl,?_⟩
 refine RQ.v rfl (V.indexS rfl rfl rfl rfl rfl rfl Entry.len heb) ?_
 refine RQ.k XK 26 1 rfl ?_
 (conv=>whnf);refine ⟨rfl,?_⟩
 refine RQ.v rfl (V.eqAgg (xs := Entry.vs ei) (ys := Entry.vs eb) rfl rfl rfl (by kernel_rfl) (eq166 ei eb) (.inr ⟨rfl, rfl⟩)) ?_
 refine RQ.nil ?_
 refine CW.g XK 26 [.e [0,1,12,13,24]] rfl rfl rfl ?_
 refine CW.cond rfl (fun h3 => ?_) (fun h3 => ?_)
 have he9 := h3
 refine CW.g XK 26 [.n 1,.e [4]] rfl rfl rfl ?_
 refine CW.ret ?_
 exact Post.one (RV.b rfl q10) (AOs.r (AOs.r AOs.e))
 have he9 := h3
 refine CW.g XK 26 [.p,.e [0,1,12,13],.p] rfl rfl rfl ?_
 refine RW.v rfl (V.inc rfl rfl rfl hii hl0) ?_
 refine RW.g XK 26 [.o 1,.p] rfl rfl rfl ?_
 exact ⟨i + 1, by omega, ⟨by omega, by rw [← hr, eqS_step hei heb, if_pos (by simpa using he9)]⟩, rfl, Le.c rfl <| Le.c rfl <| Le.c rfl <| Le.c rfl <| Le.e⟩
 have hii : a.length ≤ i := by have := h2; simp at this; first | exact this | omega | (simp; done) | (simp; omega)
 have hdi : a.drop i = [] := List.drop_eq_nil_of_le hii
 refine CW.exit ?_
 refine CW.g XK 26 [.e [],.n 1,.e [4]] rfl rfl rfl ?_
 refine CW.ret ?_
 exact Post.one (RV.b rfl (by rw [← hr]; exact (eqS_end hii hlen).symm)) (AOs.r (AOs.r AOs.e))
set_option maxHeartbeats 4000000 in
theorem impl_sameLog_fn (a : Log) (b : Log) : Eng.Fn E.P 41 [.agg ((Log.c a).map .r), .agg ((Log.c b).map .r)] (.one (.one (.w (.v (.bool (eqLog a b)))))) [.agg ((Log.c a).map .r), .agg ((Log.c b).map .r)] := by
 refine Eng.Fn.intro (E := E) (rvs := [.tmp 4]) Tryz.func41 rfl rfl rfl (by simp [outSlots, moved, rvSlot, sl]) ?_
 intro B g bo
 refine CW.h XK 24 [.e [0,1],.o 1] rfl ?_;(conv=>whnf);intro b1;(conv=>whnf);refine ⟨rfl,?_⟩
 refine RW.freezeB (ts := (Log.c a)) 2 rfl (DRd.r (DRd.r (DRd.r DRd.e))) ?_
 refine RW.h XK 24 [.o 1] rfl ?_;(conv=>whnf);intro b2;(conv=>whnf);refine ⟨rfl,?_⟩
 refine RW.freezeB (ts := (Log.c b)) 3 rfl (DRd.r (DRd.r (DRd.r DRd.e))) ?_
 refine RW.g XK 24 [.o 1,.p,.e [2,3]] rfl rfl rfl ?_
 refine CW.seqJ 24 (fun (v3 : Bool) => [(4, Bo v3)]) (fun v3 => v3 = (((a.start == b.start) && (a.startTerm == b.startTerm)) && (eqS eqEntry a.entries b.entries))) ?_ ?_
 refine CW.g XK 24 [.o 6] rfl rfl rfl ?_
 refine RW.gv rfl rfl rfl rfl (fun h4 => V.fieldR rfl rfl rfl rfl (by decide) rfl (Nat.le_of_ble_eq_true rfl)) (fun h4 => ?_) (fun h4 => ?_)
 refine RW.g XK 24 [.o 6] rfl rfl rfl ?_
 refine RW.gv rfl rfl rfl rfl (fun h5 => V.fieldR rfl rfl rfl rfl (by decide) rfl (Nat.le_of_ble_eq_true rfl)) (fun h5 => ?_) (fun h5 => ?_)
 refine RW.g XK 24 [.o 3] rfl rfl rfl ?_
 refine RW.gcall rfl rfl rfl rfl (impl_Entry__fn a.entries b.entries) rfl (.cons (.one (.r .r)) (.cons (.one (.r .r)) (.nil))) fun g6 => ?_
 refine RW.g XK 24 [.o 2,.p] rfl rfl rfl ?_
 exact ⟨_, by first | rfl | (simp_all; done), rfl, Le.of rfl⟩
 refine RW.g XK 24 [.o 6,.p] rfl rfl rfl ?_
 exact ⟨_, by first | rfl | (simp_all; done), rfl, Le.of rfl⟩
 refine RW.g XK 24 [.o 13,.p] rfl rfl rfl ?_
 exact ⟨_, by first | rfl | (simp_all; done), rfl, Le.of rfl⟩
 intro v3 hv7
 refine CW.ret ?_
 exact Post.one (RV.b rfl (by rw [hv7]; simp [eqLog, Bool.and_assoc])) (AOs.a rfl (AOs.a rfl AOs.e))
set_option maxHeartbeats 4000000 in
theorem impl_sameJournal_fn (a : Journal) (b : Journal) : Eng.Fn E.P 43 [.agg ((Journal.c a).map .r), .agg ((Journal.c b).map .r)] (.one (.one (.w (.v (.bool (eqJournal a b)))))) [.agg ((Journal.c a).map .r), .agg ((Journal.c b).map .r)] := by
 refine Eng.Fn.intro (E := E) (rvs := [.tmp 4]) Tryz.func43 rfl rfl rfl (by simp [outSlots, moved, rvSlot, sl]) ?_
 intro B g bo
 refine CW.h XK 31 [.e [0,1],.o 1] rfl ?_;(conv=>whnf);intro b1;(conv=>whnf);refine ⟨rfl,?_⟩
 refine RW.freezeB (ts := (Journal.c a)) 2 rfl (DRd.r (DRd.r (DRd.r (DRd.r (DRd.r (DRd.r DRd.e)))))) ?_
 refine RW.h XK 31 [.o 1] rfl ?_;(conv=>whnf);intro b2;(conv=>whnf);refine ⟨rfl,?_⟩
 refine RW.freezeB (ts := (Journal.c b)) 3 rfl (DRd.r (DRd.r (DRd.r (DRd.r (DRd.r (DRd.r DRd.e)))))) ?_
 refine RW.g XK 31 [.o 1,.p,.e [2,3]] rfl rfl rfl ?_
 refine CW.seqJ 31 (fun (v3 : Bool) => [(4, Bo v3)]) (fun v3 => v3 = ((((a.number == b.number) && (a.term_ == b.term_)) && (a.vote == b.vote)) && (eqLog a.log b.log))) ?_ ?_
 refine CW.g XK 31 [.o 6] rfl rfl rfl ?_
 refine RW.gv rfl rfl rfl rfl (fun h4 => V.fieldR rfl rfl rfl rfl (by decide) rfl (Nat.le_of_ble_eq_true rfl)) (fun h4 => ?_) (fun h4 => ?_)
 refine RW.g XK 31 [.o 6] rfl rfl rfl ?_
 refine RW.gv rfl rfl rfl rfl (fun h5 => V.fieldR rfl rfl rfl rfl (by decide) rfl (Nat.le_of_ble_eq_true rfl)) (fun h5 => ?_) (fun h5 => ?_)
 refine RW.g XK 31 [.o 6] rfl rfl rfl ?_
 refine RW.gv rfl rfl rfl rfl (fun h6 => V.fieldR rfl rfl rfl rfl (by decide) rfl (Nat.le_of_ble_eq_true rfl)) (fun h6 => ?_) (fun h6 => ?_)
 refine RW.g XK 31 [.o 3] rfl rfl rfl ?_
 refine RW.gcall rfl rfl rfl rfl (impl_sameLog_fn a.log b.log) rfl (.cons (.agg (.cons (.r .r) (.cons (.r .r) (.cons (.r .r) (.nil))))) (.cons (.agg (.cons (.r .r) (.cons (.r .r) (.cons (.r .r) (.nil))))) (.nil))) fun g7 => ?_
 refine RW.g XK 31 [.o 2,.p] rfl rfl rfl ?_
 exact ⟨_, by first | rfl | (simp_all; done), rfl, Le.of rfl⟩
 refine RW.g XK 31 [.o 6,.p] rfl rfl rfl ?_
 exact ⟨_, by first | rfl | (simp_all; done), rfl, Le.of rfl⟩
 refine RW.g XK 31 [.o 13,.p] rfl rfl rfl ?_
 exact ⟨_, by first | rfl | (simp_all; done), rfl, Le.of rfl⟩
 refine RW.g XK 31 [.o 20,.p] rfl rfl rfl ?_
 exact ⟨_, by first | rfl | (simp_all; done), rfl, Le.of rfl⟩
 intro v3 hv8
 refine CW.ret ?_
 exact Post.one (RV.b rfl (by rw [hv8]; simp [eqJournal, Bool.and_assoc])) (AOs.a rfl (AOs.a rfl AOs.e))
theorem lbimpl_fn : Eng.Fn E.P 38 [.agg ((Log.c Journal.z.log).map .r), .one (.r (.v (.int .i64 0))), .one (.r (.v (.int .i64 0)))] (.one (.agg ((Log.c Log.z).map .w))) [.agg ((Log.c Journal.z.log).map .r), .one (.r (.v (.int .i64 0))), .one (.r (.v (.int .i64 0)))] := by
 have h9 := impl_LogBehind_fn Journal.z.log 0 0 okToLog_z (by decide)
 rw [show logBehind Journal.z.log 0 0 = Log.z from lb0] at h9
 exact h9
set_option maxHeartbeats 4000000 in
theorem impl_Boot_fn (id : Int) (d : Disk) (lim : Int) (hfd : FdP d) (hid : 1 ≤ id ∧ id ≤ 4) (hlim : 1 ≤ lim ∧ lim ≤ 20) : Eng.Fn E.P 9 [.one (.r (.v (.int .i64 id))), .agg ((Disk.c d).map .r), .one (.r (.v (.int .i64 lim)))] (.tup [.agg ((Server.c (srv0 id d lim)).map .r), .one (.w (sl 4 Act.c ([] : List Act))), .one (.w (.v (.int .i64 0)))]) [.one (.r (.v (.int .i64 id))), .agg ((Disk.c d).map .r), .one (.r (.v (.int .i64 lim)))] := by
 refine Eng.Fn.intro (E := E) (rvs := [.cell 6 45, .tmp 7, .tmp 8]) Tryz.func9 rfl rfl rfl (by simp [outSlots, moved, rvSlot, sl]) ?_
 intro B g bo
 refine CW.h XK 129 [.e [0,1,2],.o 1] rfl ?_;(conv=>whnf);intro b1;(conv=>whnf);refine ⟨rfl,?_⟩
 refine RW.freezeB (ts := (Disk.c d)) 4 rfl (DRd.r DRd.e) ?_
 refine RW.h XK 129 [.o 3,.p,.e [0,2,4,6],.o 1] rfl ?_;(conv=>whnf);intro b2;(conv=>whnf);refine ⟨rfl,?_⟩
 refine RW.call rfl (nw0_fn d hfd) rfl (.cons (.agg (.cons (.r .r) (.nil))) (.nil)) fun g3 => ?_
 refine RW.h XK 129 [.o 5,.e [0,2,4,6,9,26,27]] rfl ?_;(conv=>whnf);intro b4;(conv=>whnf);refine ⟨rfl,?_⟩
 refine RW.pullA (k := 9) (l := 26) (j := 2) 9 26 2 rfl rfl rfl (by decide) rfl rfl rfl rfl ?_
 refine RW.g XK 129 [.e [0,2,4,6,9,27],.o 1,.p,.e [0,2,4,6,9,10],.o 1] rfl rfl rfl ?_
 refine RW.freeze 9 (d' := .obj b4 [I 0, I 0, .r (sl 1 cI (cfD d)), S kT]) rfl rfl ?_
 refine RW.g XK 129 [.o 1] rfl rfl rfl ?_
 refine RW.call rfl (impl_ReadKeep_fn kT rfl) rfl (.cons (.one (.r .r)) (.nil)) fun g5 => ?_
 refine RW.h XK 129 [.o 5] rfl ?_;(conv=>whnf);intro b6;(conv=>whnf);refine ⟨rfl,?_⟩
 refine RW.freezeB (ts := (Keep.c keepNew)) 11 rfl (DRd.r (DRd.r DRd.e)) ?_
 refine RW.g XK 129 [.o 1,.p,.e [0,2,4,6,9,10,11,12],.p] rfl rfl rfl ?_
 refine CW.seqJ 129 (fun (v7 : Bool) => [(0, I id), (2, I lim), (4, .rp (Disk.c d)), (6, .obj b2 [I 0, I 0, I 0, I 0, I 0, .r (.v (.slice none 0 0)), I 0, I 0, .r (.v (.slice none 0 0)), I 0, I 0, I 0, .r (.v (.slice none 0 0)), .r (.v (.slice none 0 0)), .r (.v (.slice none 0 0)), I 0, I 0, I 0, I 0, I 0, .r (.v (.slice none 0 0)), .r (.v (.slice none 0 0)), .r (.v (.slice none 0 0)), I 0, S (⟨#[]⟩), I 0, I 0]), (9, .obj b4 [I 0, I 0, .r (sl 1 cI (cfD d)), S kT]), (11, .rp (Keep.c keepNew)), (44, Bo v7)]) (fun v7 => v7 = (((!(allK d)) || (!true)) || (!true))) ?_ ?_
 refine CW.g XK 129 [.o 1] rfl rfl rfl ?_
 refine RW.call rfl (impl_AllKept_fn d hfd.okTo) rfl (.cons (.agg (.cons (.r .r) (.nil))) (.nil)) fun g8 => ?_
 refine RW.g XK 129 [.o 2] rfl rfl rfl ?_
 refine RW.gv rfl rfl rfl rfl (fun h9 => V.mv (d := Bo true) rfl rfl) (fun h9 => ?_) (fun h9 => ?_)
 refine RW.g XK 129 [.o 3] rfl rfl rfl ?_
 refine RW.gv rfl rfl rfl rfl (fun h10 => V.mv (d := Bo true) rfl rfl) (fun h10 => ?_) (fun h10 => ?_)
 refine RW.g XK 129 [.o 2,.p] rfl rfl rfl ?_
 exact ⟨_, by first | rfl | (simp_all; done) | (simp_all; omega) | grind, rfl, Le.of rfl⟩
 refine RW.g XK 129 [.o 2,.p] rfl rfl rfl ?_
 exact ⟨_, by first | rfl | (simp_all; done) | (simp_all; omega) | grind, rfl, Le.of rfl⟩
 refine RW.g XK 129 [.o 6,.p] rfl rfl rfl ?_
 exact ⟨_, by first | rfl | (simp_all; done) | (simp_all; omega) | grind, rfl, Le.of rfl⟩
 intro v7 hv11
 refine CW.cond rfl (fun h12 => ?_) (fun h12 => ?_)
 have hvv := hv11.symm.trans h12
 first | exact absurd hvv (bt_1 hfd) | exact absurd hvv (by simp)
 have hvv := hv11.symm.trans h12
 refine CW.g XK 129 [.p,.e [0,2,4,6,9,11],.o 1] rfl rfl rfl ?_
 refine RW.call rfl (impl_OpenJournal_fn d hfd) rfl (.cons (.agg (.cons (.r .r) (.nil))) (.nil)) fun g13 => ?_
 refine RW.h XK 129 [.o 6] rfl ?_;(conv=>whnf);intro b14;(conv=>whnf);refine ⟨rfl,?_⟩
 refine RW.freezeB (ts := (Journal.c Journal.z)) 13 rfl (DRd.r (DRd.r (DRd.r (DRd.r (DRd.r (DRd.r DRd.e)))))) ?_
 refine RW.assignMove rfl rfl rfl (by decide) (Nat.le_of_ble_eq_true rfl) (Nat.le_of_ble_eq_true rfl) ?_
 refine RW.g XK 129 [.o 1,.p,.e [0,2,4,6,9,11,13,14,15],.o 1] rfl rfl rfl ?_
 refine RW.call rfl (impl_ShedActs_fn d hfd) rfl (.cons (.agg (.cons (.r .r) (.nil))) (.nil)) fun g15 => ?_
 refine RW.g XK 129 [.o 1] rfl rfl rfl ?_
 refine RW.appendSR (c := Act.c) (l1 := ([] : List Act)) (l2 := ([] : List Act)) rfl rfl rfl rfl rfl rfl rfl rfl (.al (k := none) (i := 14) (sz := 4) (V := (g13 1 0)) rfl rfl nofun) (by decide) (Nat.le_of_ble_eq_true rfl) Act.len (fun _ => rfl) rfl (by decide) (by decide) fun X16 => ?_
 refine RW.assignMove rfl rfl rfl (by decide) (Nat.le_of_ble_eq_true rfl) (Nat.le_of_ble_eq_true rfl) ?_
 refine RW.g XK 129 [.p,.e [0,2,4,6,9,11,13,15,16],.o 2] rfl rfl rfl ?_
 refine RW.callOwn rfl (impl_DoActs_fn d (([] : List Act) ++ ([] : List Act)) rfl hfd.okTo) rfl (.cons (.agg (.cons (.r .r) (.nil))) (.cons (.one (.r (.al (k := none) (i := 16) (sz := 4) (V := X16) rfl rfl nofun))) (.nil))) rfl fun g17 => ?_
 refine RW.h XK 129 [.o 5,.e [0,2,6,9,11,13,15,16,17,60,61]] rfl ?_;(conv=>whnf);intro b18;(conv=>whnf);refine ⟨rfl,?_⟩
 refine RW.pullA (k := 17) (l := 60) (j := 0) 17 60 0 rfl rfl rfl (by decide) rfl rfl rfl rfl ?_
 refine RW.g XK 129 [.e [0,2,6,9,11,13,15,16,17,61],.o 1,.p,.e [0,2,6,9,11,13,15,16,17,18],.p] rfl rfl rfl ?_
 refine CW.seqJ 129 (fun (v19 : Bool) => [(0, I id), (2, I lim), (6, .obj b2 [I 0, I 0, I 0, I 0, I 0, .r (.v (.slice none 0 0)), I 0, I 0, .r (.v (.slice none 0 0)), I 0, I 0, I 0, .r (.v (.slice none 0 0)), .r (.v (.slice none 0 0)), .r (.v (.slice none 0 0)), I 0, I 0, I 0, I 0, I 0, .r (.v (.slice none 0 0)), .r (.v (.slice none 0 0)), .r (.v (.slice none 0 0)), I 0, S (⟨#[]⟩), I 0, I 0]), (9, .obj b4 [I 0, I 0, .r (sl 1 cI (cfD d)), S kT]), (11, .rp (Keep.c keepNew)), (13, .rp (Journal.c Journal.z)), (16, .w (sl 4 Act.c (([] : List Act) ++ ([] : List Act))) X16), (17, .obj b18 [.w (sl 3 File.c d.files) (g17 0 0)]), (69, Bo v19)]) (fun v19 => v19 = ((!true) || decide (0 < ((([] : List Act) ++ ([] : List Act)).length : Int)))) ?_ ?_
 refine CW.g XK 129 [.o 3] rfl rfl rfl ?_
 refine RW.gv rfl rfl rfl rfl (fun h20 => V.mv (d := I 0) rfl rfl) (fun h20 => ?_) (fun h20 => ?_)
 refine RW.g XK 129 [.o 4,.p] rfl rfl rfl ?_
 exact ⟨_, by first | rfl | (simp_all; done) | (simp_all; omega) | grind, rfl, Le.of rfl⟩
 refine RW.g XK 129 [.o 4,.p] rfl rfl rfl ?_
 exact ⟨_, by first | rfl | (simp_all; done) | (simp_all; omega) | grind, rfl, Le.of rfl⟩
 intro v19 hv21
 refine CW.cond rfl (fun h22 => ?_) (fun h22 => ?_)
 have hvv := hv21.symm.trans h22
 first | exact absurd hvv (bt_1 hfd) | exact absurd hvv (by simp)
 have hvv := hv21.symm.trans h22
 refine CW.g XK 129 [.p,.e [0,2,6,9,11,13,16,17],.o 1] rfl rfl rfl ?_
 refine RW.call rfl (impl_copyJournal_fn Journal.z okToLog_z) rfl (.cons (.agg (.cons (.r .r) (.cons (.r .r) (.cons (.r .r) (.cons (.r .r) (.cons (.r .r) (.cons (.r .r) (.nil)))))))) (.nil)) fun g23 => ?_
 refine RW.h XK 129 [.o 2,.e [0,2,6,9,11,13,16,17,19,72]] rfl ?_;(conv=>whnf);intro b24;(conv=>whnf);refine ⟨rfl,?_⟩
 refine RW.pullA (k := 19) (l := 72) (j := 5) 19 72 5 rfl rfl rfl (by decide) rfl rfl rfl rfl ?_
 refine RW.g XK 129 [.e [0,2,6,9,11,13,16,17,19],.p,.e [0,2,6,9,11,13,16,17,19],.o 6] rfl rfl rfl ?_
 refine RW.call rfl lbimpl_fn rfl (.cons (.agg (.cons (.r .r) (.cons (.r .r) (.cons (.r .r) (.nil))))) (.cons (.one (.r .r)) (.cons (.one (.r .r)) (.nil)))) fun g25 => ?_
 refine RW.g XK 129 [.o 2,.e [0,2,6,9,11,13,16,17,19,79]] rfl rfl rfl ?_
 refine RW.pullA (k := 19) (l := 79) (j := 5) 19 79 5 rfl rfl rfl (by decide) rfl rfl rfl rfl ?_
 refine RW.g XK 129 [.e [0,2,6,9,11,13,16,17,19],.p,.e [0,2,6,9,11,13,16,17,19]] rfl rfl rfl ?_
 refine CW.anyJ2 (fc := [(6, b2, [.int .i64 0, .int .i64 0, .int .i64 0, .int .i64 0, .int .i64 0, .slice none 0 0, .int .i64 0, .int .i64 0, .slice none 0 0, .int .i64 0, .int .i64 0, .int .i64 0, .slice none 0 0, .slice none 0 0, .slice none 0 0, .int .i64 0, .int .i64 0, .int .i64 0, .int .i64 0, .int .i64 0, .slice none 0 0, .slice none 0 0, .slice none 0 0, .int .i64 0, .string (⟨#[]⟩), .int .i64 0, .int .i64 0]), (17, b18, [(g17 0 0)]), (19, b24, [.int .i64 Journal.z.number, .int .i64 Journal.z.term_, .int .i64 Journal.z.vote, .int .i64 Log.z.start, .int .i64 Log.z.startTerm, (g25 0 2)])]) (L0 := [(6, .obj b2 [I 0, I 0, I 0, I 0, I 0, .r (.v (.slice none 0 0)), I 0, I 0, .r (.v (.slice none 0 0)), I 0, I 0, I 0, .r (.v (.slice none 0 0)), .r (.v (.slice none 0 0)), .r (.v (.slice none 0 0)), I 0, I 0, I 0, I 0, I 0, .r (.v (.slice none 0 0)), .r (.v (.slice none 0 0)), .r (.v (.slice none 0 0)), I 0, S (⟨#[]⟩), I 0, I 0]), (9, .obj b4 [I 0, I 0, .r (sl 1 cI (cfD d)), S kT]), (11, .rp (Keep.c keepNew)), (13, .rp (Journal.c Journal.z)), (16, .w (sl 4 Act.c (([] : List Act) ++ ([] : List Act))) X16), (17, .obj b18 [.w (sl 3 File.c d.files) (g17 0 0)]), (19, .obj b24 [I Journal.z.number, I Journal.z.term_, I Journal.z.vote, I Log.z.start, I Log.z.startTerm, .w (sl 3 Entry.c Log.z.entries) (g25 0 2)])]) 129 (fun (zz : Nat × (Nat → Nat → Value)) => match zz with | (bo26_14_1, go26_9_1) => [(20, .obj bo26_14_1 [I id, I Journal.z.term_, I Journal.z.vote, I 0, I 0, .r (sl 1 cI (cfD d)), I Log.z.start, I Log.z.startTerm, .w (sl 3 Entry.c Log.z.entries) (go26_9_1 0 2), I 0, I 0, I lim, .r (.v (.slice none 0 0)), .r (.v (.slice none 0 0))])]) (fun all hall f hf b0 hb K hK => ?_) ?_
 have ro26_16 : ∀ B, ∀ (bo26_14_1 : Nat), ∀ (go26_9_1 : Nat → Nat → Value), RA f E B all 0 (bt 16 65535) ⟨129, [(20, .obj bo26_14_1 [I id, I Journal.z.term_, I Journal.z.vote, I 0, I 0, .r (sl 1 cI (cfD d)), I Log.z.start, I Log.z.startTerm, .w (sl 3 Entry.c Log.z.entries) (go26_9_1 0 2), I 0, I 0, I lim, .r (.v (.slice none 0 0)), .r (.v (.slice none 0 0))])] ++ b0⟩ K := by
  intro B bo26_14_1 go26_9_1
  exact RA.of2 hall hf hb (RA.finH (Tell.of rfl) (by kernel_rfl) (hK (bo26_14_1, go26_9_1) _ rfl (Le.of rfl)))
 have ro26_15 : ∀ B, ∀ (bo26_14_1 : Nat), ∀ (go26_9_1 : Nat → Nat → Value), RA f E B all 1 (bt 16 32767) ⟨129, [(20, .obj bo26_14_1 [I 0, I 0, I 0, I 0, I 0, .r (.v (.slice none 0 0)), I 0, I 0, .r (.v (.slice none 0 0)), I 0, I 0, I 0, .r (.v (.slice none 0 0)), .r (.v (.slice none 0 0))]), (90, .agg [I Log.z.start, I Log.z.startTerm, .w (sl 3 Entry.c Log.z.entries) (go26_9_1 0 2)]), (94, .agg [I id, I Journal.z.term_, I Journal.z.vote, I 0, I 0, .r (sl 1 cI (cfD d)), I Log.z.start, I Log.z.startTerm, .al 90 (some 2) 3 Log.z.entries.length (go26_9_1 0 2) 0, I 0, I 0, I lim, .r (.v (.slice none 0 0)), .r (.v (.slice none 0 0))])] ++ b0⟩ K := by
  intro B bo26_14_1 go26_9_1
  refine RA.of2 hall hf hb (RA.stepH (L := [15]) (Tell.of rfl) (by kernel_rfl) (by simp) (RA.each ?_ (RA.each0)))
  refine RO.storeAgg (es := [I id, I Journal.z.term_, I Journal.z.vote, I 0, I 0, .r (sl 1 cI (cfD d)), I Log.z.start, I Log.z.startTerm, .al 90 (some 2) 3 Log.z.entries.length (go26_9_1 0 2) 0, I 0, I 0, I lim, .r (.v (.slice none 0 0)), .r (.v (.slice none 0 0))]) rfl rfl rfl rfl rfl rfl rfl rfl rfl rfl (Nat.le_of_ble_eq_true rfl) rfl ?_
  refine RA.keep 129 [6,9,11,13,16,17,19,20,90] rfl ?_;(conv=>whnf);refine ⟨?_⟩
  refine RA.pullA (k := 20) (l := 90) (j := 8) 20 90 8 rfl rfl rfl (by decide) rfl rfl rfl rfl ?_
  refine RA.keep 129 [6,9,11,13,16,17,19,20] rfl ?_;(conv=>whnf);refine ⟨?_⟩
  exact RA.to2 hall hf hb (ro26_16 B bo26_14_1 go26_9_1) rfl rfl (by kernel_rfl)
 have ro26_14 : ∀ B, ∀ (go26_9_1 : Nat → Nat → Value), RA f E B all 2 (bt 16 16383) ⟨129, [(90, .agg [I Log.z.start, I Log.z.startTerm, .w (sl 3 Entry.c Log.z.entries) (go26_9_1 0 2)]), (94, .agg [I id, I Journal.z.term_, I Journal.z.vote, I 0, I 0, .r (sl 1 cI (cfD d)), I Log.z.start, I Log.z.startTerm, .al 90 (some 2) 3 Log.z.entries.length (go26_9_1 0 2) 0, I 0, I 0, I lim, .r (.v (.slice none 0 0)), .r (.v (.slice none 0 0))])] ++ b0⟩ K := by
  intro B go26_9_1
  refine RA.of2 hall hf hb (RA.stepH (L := [14]) (Tell.of rfl) (by kernel_rfl) (by simp) (RA.each ?_ (RA.each0)))
  refine RO.alloc (ds := [I 0, I 0, I 0, I 0, I 0, .r (.v (.slice none 0 0)), I 0, I 0, .r (.v (.slice none 0 0)), I 0, I 0, I 0, .r (.v (.slice none 0 0)), .r (.v (.slice none 0 0))]) rfl rfl rfl rfl rfl rfl fun bo26_14_1 => ?_
  exact RA.to2 hall hf hb (ro26_15 B bo26_14_1 go26_9_1) rfl rfl (by kernel_rfl)
 have ro26_13 : ∀ B, ∀ (bo26_14_1 : Nat), ∀ (go26_9_1 : Nat → Nat → Value), RA f E B all 3 (bt 16 24511) ⟨129, [(20, .obj bo26_14_1 [I 0, I 0, I 0, I 0, I 0, .r (.v (.slice none 0 0)), I 0, I 0, .r (.v (.slice none 0 0)), I 0, I 0, I 0, .r (.v (.slice none 0 0)), .r (.v (.slice none 0 0))]), (81, I id), (83, I Journal.z.term_), (85, I Journal.z.vote), (86, .pt 9 b4 2), (90, .agg [I Log.z.start, I Log.z.startTerm, .w (sl 3 Entry.c Log.z.entries) (go26_9_1 0 2)]), (92, I 0), (93, I lim)] ++ b0⟩ K := by
  intro B bo26_14_1 go26_9_1
  refine RA.of2 hall hf hb (RA.stepH (L := [6]) (Tell.of rfl) (by kernel_rfl) (by simp) (RA.each ?_ (RA.each0)))
  refine RO.v rfl rfl (V.loadPrim (d := .r (sl 1 cI (cfD d))) rfl rfl (.inr ⟨_, rfl⟩) rfl rfl rfl) rfl ?_
  refine RA.fr XK 129 1 [13] (bt 16 32767) rfl rfl (by kernel_rfl) (Tell.of rfl) ?_
  (conv=>whnf);refine ⟨rfl,fun B=>?_⟩
  exact RA.to2 hall hf hb (ro26_15 B bo26_14_1 go26_9_1) rfl rfl (by kernel_rfl)
 have ro26_12 : ∀ B, ∀ (bo26_14_1 : Nat), RA f E B all 3 (bt 16 24063) ⟨129, [(20, .obj bo26_14_1 [I 0, I 0, I 0, I 0, I 0, .r (.v (.slice none 0 0)), I 0, I 0, .r (.v (.slice none 0 0)), I 0, I 0, I 0, .r (.v (.slice none 0 0)), .r (.v (.slice none 0 0))]), (81, I id), (83, I Journal.z.term_), (85, I Journal.z.vote), (87, .r (sl 1 cI (cfD d))), (89, .agg [I Log.z.start, I Log.z.startTerm, .al 19 (some 5) 3 Log.z.entries.length (g25 0 2) 0]), (92, I 0), (93, I lim)] ++ b0⟩ K := by
  intro B bo26_14_1
  refine RA.of2 hall hf hb (RA.stepH (L := [9]) (Tell.of rfl) (by kernel_rfl) (by simp) (RA.each ?_ (RA.each0)))
  refine RO.callOwn rfl rfl (impl_copyLog_fn Log.z okToLog_z) rfl (.cons (.agg (.cons (.r .r) (.cons (.r .r) (.cons (.r (.alo (k := none) (i := 19) (j := 5) (sz := 3) (V := (g25 0 2)) rfl rfl rfl nofun)) (.nil))))) (.nil)) rfl rfl fun go26_9_1 => ?_
  refine RA.fr XK 129 1 [13] (bt 16 32767) rfl rfl (by kernel_rfl) (Tell.of rfl) ?_
  (conv=>whnf);refine ⟨rfl,fun B=>?_⟩
  exact RA.to2 hall hf hb (ro26_15 B bo26_14_1 go26_9_1) rfl rfl (by kernel_rfl)
 have ro26_11 : ∀ B, ∀ (bo26_14_1 : Nat), ∀ (go26_9_1 : Nat → Nat → Value), RA f E B all 3 (bt 16 22527) ⟨129, [(20, .obj bo26_14_1 [I 0, I 0, I 0, I 0, I 0, .r (.v (.slice none 0 0)), I 0, I 0, .r (.v (.slice none 0 0)), I 0, I 0, I 0, .r (.v (.slice none 0 0)), .r (.v (.slice none 0 0))]), (81, I id), (83, I Journal.z.term_), (85, I Journal.z.vote), (87, .r (sl 1 cI (cfD d))), (90, .agg [I Log.z.start, I Log.z.startTerm, .w (sl 3 Entry.c Log.z.entries) (go26_9_1 0 2)]), (91, .pt 9 b4 0), (93, I lim)] ++ b0⟩ K := by
  intro B bo26_14_1 go26_9_1
  refine RA.of2 hall hf hb (RA.stepH (L := [11]) (Tell.of rfl) (by kernel_rfl) (by simp) (RA.each ?_ (RA.each0)))
  refine RO.v rfl rfl (V.loadPrim (d := I 0) rfl rfl (.inl rfl) rfl rfl rfl) rfl ?_
  refine RA.fr XK 129 1 [13] (bt 16 32767) rfl rfl (by kernel_rfl) (Tell.of rfl) ?_
  (conv=>whnf);refine ⟨rfl,fun B=>?_⟩
  exact RA.to2 hall hf hb (ro26_15 B bo26_14_1 go26_9_1) rfl rfl (by kernel_rfl)
 have ro26_10 : ∀ B, ∀ (bo26_14_1 : Nat), RA f E B all 4 (bt 16 23999) ⟨129, [(20, .obj bo26_14_1 [I 0, I 0, I 0, I 0, I 0, .r (.v (.slice none 0 0)), I 0, I 0, .r (.v (.slice none 0 0)), I 0, I 0, I 0, .r (.v (.slice none 0 0)), .r (.v (.slice none 0 0))]), (81, I id), (83, I Journal.z.term_), (85, I Journal.z.vote), (86, .pt 9 b4 2), (89, .agg [I Log.z.start, I Log.z.startTerm, .al 19 (some 5) 3 Log.z.entries.length (g25 0 2) 0]), (92, I 0), (93, I lim)] ++ b0⟩ K := by
  intro B bo26_14_1
  refine RA.of2 hall hf hb (RA.stepH (L := [6, 9]) (Tell.of rfl) (by kernel_rfl) (by simp) (RA.each ?_ (RA.each ?_ (RA.each0))))
  refine RO.v rfl rfl (V.loadPrim (d := .r (sl 1 cI (cfD d))) rfl rfl (.inr ⟨_, rfl⟩) rfl rfl rfl) rfl ?_
  exact RA.to2 hall hf hb (ro26_12 B bo26_14_1) rfl rfl (by kernel_rfl)
  refine RO.callOwn rfl rfl (impl_copyLog_fn Log.z okToLog_z) rfl (.cons (.agg (.cons (.r .r) (.cons (.r .r) (.cons (.r (.alo (k := none) (i := 19) (j := 5) (sz := 3) (V := (g25 0 2)) rfl rfl rfl nofun)) (.nil))))) (.nil)) rfl rfl fun go26_9_1 => ?_
  exact RA.to2 hall hf hb (ro26_13 B bo26_14_1 go26_9_1) rfl rfl (by kernel_rfl)
 have ro26_9 : ∀ B, ∀ (bo26_14_1 : Nat), ∀ (go26_9_1 : Nat → Nat → Value), RA f E B all 4 (bt 16 22463) ⟨129, [(20, .obj bo26_14_1 [I 0, I 0, I 0, I 0, I 0, .r (.v (.slice none 0 0)), I 0, I 0, .r (.v (.slice none 0 0)), I 0, I 0, I 0, .r (.v (.slice none 0 0)), .r (.v (.slice none 0 0))]), (81, I id), (83, I Journal.z.term_), (85, I Journal.z.vote), (86, .pt 9 b4 2), (90, .agg [I Log.z.start, I Log.z.startTerm, .w (sl 3 Entry.c Log.z.entries) (go26_9_1 0 2)]), (91, .pt 9 b4 0), (93, I lim)] ++ b0⟩ K := by
  intro B bo26_14_1 go26_9_1
  refine RA.of2 hall hf hb (RA.stepH (L := [6, 11]) (Tell.of rfl) (by kernel_rfl) (by simp) (RA.each ?_ (RA.each ?_ (RA.each0))))
  refine RO.v rfl rfl (V.loadPrim (d := .r (sl 1 cI (cfD d))) rfl rfl (.inr ⟨_, rfl⟩) rfl rfl rfl) rfl ?_
  exact RA.to2 hall hf hb (ro26_11 B bo26_14_1 go26_9_1) rfl rfl (by kernel_rfl)
  refine RO.v rfl rfl (V.loadPrim (d := I 0) rfl rfl (.inl rfl) rfl rfl rfl) rfl ?_
  exact RA.to2 hall hf hb (ro26_13 B bo26_14_1 go26_9_1) rfl rfl (by kernel_rfl)
 have ro26_8 : ∀ B, ∀ (go26_9_1 : Nat → Nat → Value), RA f E B all 4 (bt 16 8127) ⟨129, [(81, I id), (83, I Journal.z.term_), (85, I Journal.z.vote), (86, .pt 9 b4 2), (90, .agg [I Log.z.start, I Log.z.startTerm, .w (sl 3 Entry.c Log.z.entries) (go26_9_1 0 2)]), (92, I 0), (93, I lim)] ++ b0⟩ K := by
  intro B go26_9_1
  refine RA.of2 hall hf hb (RA.stepH (L := [6, 14]) (Tell.of rfl) (by kernel_rfl) (by simp) (RA.each ?_ (RA.each ?_ (RA.each0))))
  refine RO.v rfl rfl (V.loadPrim (d := .r (sl 1 cI (cfD d))) rfl rfl (.inr ⟨_, rfl⟩) rfl rfl rfl) rfl ?_
  refine RA.fr XK 129 2 [13] (bt 16 16383) rfl rfl (by kernel_rfl) (Tell.of rfl) ?_
  (conv=>whnf);refine ⟨rfl,fun B=>?_⟩
  exact RA.to2 hall hf hb (ro26_14 B go26_9_1) rfl rfl (by kernel_rfl)
  refine RO.alloc (ds := [I 0, I 0, I 0, I 0, I 0, .r (.v (.slice none 0 0)), I 0, I 0, .r (.v (.slice none 0 0)), I 0, I 0, I 0, .r (.v (.slice none 0 0)), .r (.v (.slice none 0 0))]) rfl rfl rfl rfl rfl rfl fun bo26_14_1 => ?_
  exact RA.to2 hall hf hb (ro26_13 B bo26_14_1 go26_9_1) rfl rfl (by kernel_rfl)
 have ro26_7 : ∀ B, ∀ (bo26_14_1 : Nat), RA f E B all 4 (bt 16 22015) ⟨129, [(20, .obj bo26_14_1 [I 0, I 0, I 0, I 0, I 0, .r (.v (.slice none 0 0)), I 0, I 0, .r (.v (.slice none 0 0)), I 0, I 0, I 0, .r (.v (.slice none 0 0)), .r (.v (.slice none 0 0))]), (81, I id), (83, I Journal.z.term_), (85, I Journal.z.vote), (87, .r (sl 1 cI (cfD d))), (89, .agg [I Log.z.start, I Log.z.startTerm, .al 19 (some 5) 3 Log.z.entries.length (g25 0 2) 0]), (91, .pt 9 b4 0), (93, I lim)] ++ b0⟩ K := by
  intro B bo26_14_1
  refine RA.of2 hall hf hb (RA.stepH (L := [9, 11]) (Tell.of rfl) (by kernel_rfl) (by simp) (RA.each ?_ (RA.each ?_ (RA.each0))))
  refine RO.callOwn rfl rfl (impl_copyLog_fn Log.z okToLog_z) rfl (.cons (.agg (.cons (.r .r) (.cons (.r .r) (.cons (.r (.alo (k := none) (i := 19) (j := 5) (sz := 3) (V := (g25 0 2)) rfl rfl rfl nofun)) (.nil))))) (.nil)) rfl rfl fun go26_9_1 => ?_
  exact RA.to2 hall hf hb (ro26_11 B bo26_14_1 go26_9_1) rfl rfl (by kernel_rfl)
  refine RO.v rfl rfl (V.loadPrim (d := I 0) rfl rfl (.inl rfl) rfl rfl rfl) rfl ?_
  exact RA.to2 hall hf hb (ro26_12 B bo26_14_1) rfl rfl (by kernel_rfl)
 have ro26_6 : ∀ B, RA f E B all 4 (bt 16 7679) ⟨129, [(81, I id), (83, I Journal.z.term_), (85, I Journal.z.vote), (87, .r (sl 1 cI (cfD d))), (89, .agg [I Log.z.start, I Log.z.startTerm, .al 19 (some 5) 3 Log.z.entries.length (g25 0 2) 0]), (92, I 0), (93, I lim)] ++ b0⟩ K := by
  intro B
  refine RA.of2 hall hf hb (RA.stepH (L := [9, 14]) (Tell.of rfl) (by kernel_rfl) (by simp) (RA.each ?_ (RA.each ?_ (RA.each0))))
  refine RO.callOwn rfl rfl (impl_copyLog_fn Log.z okToLog_z) rfl (.cons (.agg (.cons (.r .r) (.cons (.r .r) (.cons (.r (.alo (k := none) (i := 19) (j := 5) (sz := 3) (V := (g25 0 2)) rfl rfl rfl nofun)) (.nil))))) (.nil)) rfl rfl fun go26_9_1 => ?_
  refine RA.fr XK 129 2 [13] (bt 16 16383) rfl rfl (by kernel_rfl) (Tell.of rfl) ?_
  (conv=>whnf);refine ⟨rfl,fun B=>?_⟩
  exact RA.to2 hall hf hb (ro26_14 B go26_9_1) rfl rfl (by kernel_rfl)
  refine RO.alloc (ds := [I 0, I 0, I 0, I 0, I 0, .r (.v (.slice none 0 0)), I 0, I 0, .r (.v (.slice none 0 0)), I 0, I 0, I 0, .r (.v (.slice none 0 0)), .r (.v (.slice none 0 0))]) rfl rfl rfl rfl rfl rfl fun bo26_14_1 => ?_
  exact RA.to2 hall hf hb (ro26_12 B bo26_14_1) rfl rfl (by kernel_rfl)
 have ro26_5 : ∀ B, ∀ (go26_9_1 : Nat → Nat → Value), RA f E B all 4 (bt 16 6143) ⟨129, [(81, I id), (83, I Journal.z.term_), (85, I Journal.z.vote), (87, .r (sl 1 cI (cfD d))), (90, .agg [I Log.z.start, I Log.z.startTerm, .w (sl 3 Entry.c Log.z.entries) (go26_9_1 0 2)]), (91, .pt 9 b4 0), (93, I lim)] ++ b0⟩ K := by
  intro B go26_9_1
  refine RA.of2 hall hf hb (RA.stepH (L := [11, 14]) (Tell.of rfl) (by kernel_rfl) (by simp) (RA.each ?_ (RA.each ?_ (RA.each0))))
  refine RO.v rfl rfl (V.loadPrim (d := I 0) rfl rfl (.inl rfl) rfl rfl rfl) rfl ?_
  refine RA.fr XK 129 2 [13] (bt 16 16383) rfl rfl (by kernel_rfl) (Tell.of rfl) ?_
  (conv=>whnf);refine ⟨rfl,fun B=>?_⟩
  exact RA.to2 hall hf hb (ro26_14 B go26_9_1) rfl rfl (by kernel_rfl)
  refine RO.alloc (ds := [I 0, I 0, I 0, I 0, I 0, .r (.v (.slice none 0 0)), I 0, I 0, .r (.v (.slice none 0 0)), I 0, I 0, I 0, .r (.v (.slice none 0 0)), .r (.v (.slice none 0 0))]) rfl rfl rfl rfl rfl rfl fun bo26_14_1 => ?_
  exact RA.to2 hall hf hb (ro26_11 B bo26_14_1 go26_9_1) rfl rfl (by kernel_rfl)
 have ro26_4 : ∀ B, ∀ (bo26_14_1 : Nat), RA f E B all 5 (bt 16 21951) ⟨129, [(20, .obj bo26_14_1 [I 0, I 0, I 0, I 0, I 0, .r (.v (.slice none 0 0)), I 0, I 0, .r (.v (.slice none 0 0)), I 0, I 0, I 0, .r (.v (.slice none 0 0)), .r (.v (.slice none 0 0))]), (81, I id), (83, I Journal.z.term_), (85, I Journal.z.vote), (86, .pt 9 b4 2), (89, .agg [I Log.z.start, I Log.z.startTerm, .al 19 (some 5) 3 Log.z.entries.length (g25 0 2) 0]), (91, .pt 9 b4 0), (93, I lim)] ++ b0⟩ K := by
  intro B bo26_14_1
  refine RA.of2 hall hf hb (RA.stepH (L := [6, 9, 11]) (Tell.of rfl) (by kernel_rfl) (by simp) (RA.each ?_ (RA.each ?_ (RA.each ?_ (RA.each0)))))
  refine RO.v rfl rfl (V.loadPrim (d := .r (sl 1 cI (cfD d))) rfl rfl (.inr ⟨_, rfl⟩) rfl rfl rfl) rfl ?_
  exact RA.to2 hall hf hb (ro26_7 B bo26_14_1) rfl rfl (by kernel_rfl)
  refine RO.callOwn rfl rfl (impl_copyLog_fn Log.z okToLog_z) rfl (.cons (.agg (.cons (.r .r) (.cons (.r .r) (.cons (.r (.alo (k := none) (i := 19) (j := 5) (sz := 3) (V := (g25 0 2)) rfl rfl rfl nofun)) (.nil))))) (.nil)) rfl rfl fun go26_9_1 => ?_
  exact RA.to2 hall hf hb (ro26_9 B bo26_14_1 go26_9_1) rfl rfl (by kernel_rfl)
  refine RO.v rfl rfl (V.loadPrim (d := I 0) rfl rfl (.inl rfl) rfl rfl rfl) rfl ?_
  exact RA.to2 hall hf hb (ro26_10 B bo26_14_1) rfl rfl (by kernel_rfl)
 have ro26_3 : ∀ B, RA f E B all 5 (bt 16 7615) ⟨129, [(81, I id), (83, I Journal.z.term_), (85, I Journal.z.vote), (86, .pt 9 b4 2), (89, .agg [I Log.z.start, I Log.z.startTerm, .al 19 (some 5) 3 Log.z.entries.length (g25 0 2) 0]), (92, I 0), (93, I lim)] ++ b0⟩ K := by
  intro B
  refine RA.of2 hall hf hb (RA.stepH (L := [6, 9, 14]) (Tell.of rfl) (by kernel_rfl) (by simp) (RA.each ?_ (RA.each ?_ (RA.each ?_ (RA.each0)))))
  refine RO.v rfl rfl (V.loadPrim (d := .r (sl 1 cI (cfD d))) rfl rfl (.inr ⟨_, rfl⟩) rfl rfl rfl) rfl ?_
  exact RA.to2 hall hf hb (ro26_6 B) rfl rfl (by kernel_rfl)
  refine RO.callOwn rfl rfl (impl_copyLog_fn Log.z okToLog_z) rfl (.cons (.agg (.cons (.r .r) (.cons (.r .r) (.cons (.r (.alo (k := none) (i := 19) (j := 5) (sz := 3) (V := (g25 0 2)) rfl rfl rfl nofun)) (.nil))))) (.nil)) rfl rfl fun go26_9_1 => ?_
  exact RA.to2 hall hf hb (ro26_8 B go26_9_1) rfl rfl (by kernel_rfl)
  refine RO.alloc (ds := [I 0, I 0, I 0, I 0, I 0, .r (.v (.slice none 0 0)), I 0, I 0, .r (.v (.slice none 0 0)), I 0, I 0, I 0, .r (.v (.slice none 0 0)), .r (.v (.slice none 0 0))]) rfl rfl rfl rfl rfl rfl fun bo26_14_1 => ?_
  exact RA.to2 hall hf hb (ro26_10 B bo26_14_1) rfl rfl (by kernel_rfl)
 have ro26_2 : ∀ B, ∀ (go26_9_1 : Nat → Nat → Value), RA f E B all 5 (bt 16 6079) ⟨129, [(81, I id), (83, I Journal.z.term_), (85, I Journal.z.vote), (86, .pt 9 b4 2), (90, .agg [I Log.z.start, I Log.z.startTerm, .w (sl 3 Entry.c Log.z.entries) (go26_9_1 0 2)]), (91, .pt 9 b4 0), (93, I lim)] ++ b0⟩ K := by
  intro B go26_9_1
  refine RA.of2 hall hf hb (RA.stepH (L := [6, 11, 14]) (Tell.of rfl) (by kernel_rfl) (by simp) (RA.each ?_ (RA.each ?_ (RA.each ?_ (RA.each0)))))
  refine RO.v rfl rfl (V.loadPrim (d := .r (sl 1 cI (cfD d))) rfl rfl (.inr ⟨_, rfl⟩) rfl rfl rfl) rfl ?_
  exact RA.to2 hall hf hb (ro26_5 B go26_9_1) rfl rfl (by kernel_rfl)
  refine RO.v rfl rfl (V.loadPrim (d := I 0) rfl rfl (.inl rfl) rfl rfl rfl) rfl ?_
  exact RA.to2 hall hf hb (ro26_8 B go26_9_1) rfl rfl (by kernel_rfl)
  refine RO.alloc (ds := [I 0, I 0, I 0, I 0, I 0, .r (.v (.slice none 0 0)), I 0, I 0, .r (.v (.slice none 0 0)), I 0, I 0, I 0, .r (.v (.slice none 0 0)), .r (.v (.slice none 0 0))]) rfl rfl rfl rfl rfl rfl fun bo26_14_1 => ?_
  exact RA.to2 hall hf hb (ro26_9 B bo26_14_1 go26_9_1) rfl rfl (by kernel_rfl)
 have ro26_1 : ∀ B, RA f E B all 5 (bt 16 5631) ⟨129, [(81, I id), (83, I Journal.z.term_), (85, I Journal.z.vote), (87, .r (sl 1 cI (cfD d))), (89, .agg [I Log.z.start, I Log.z.startTerm, .al 19 (some 5) 3 Log.z.entries.length (g25 0 2) 0]), (91, .pt 9 b4 0), (93, I lim)] ++ b0⟩ K := by
  intro B
  refine RA.of2 hall hf hb (RA.stepH (L := [9, 11, 14]) (Tell.of rfl) (by kernel_rfl) (by simp) (RA.each ?_ (RA.each ?_ (RA.each ?_ (RA.each0)))))
  refine RO.callOwn rfl rfl (impl_copyLog_fn Log.z okToLog_z) rfl (.cons (.agg (.cons (.r .r) (.cons (.r .r) (.cons (.r (.alo (k := none) (i := 19) (j := 5) (sz := 3) (V := (g25 0 2)) rfl rfl rfl nofun)) (.nil))))) (.nil)) rfl rfl fun go26_9_1 => ?_
  exact RA.to2 hall hf hb (ro26_5 B go26_9_1) rfl rfl (by kernel_rfl)
  refine RO.v rfl rfl (V.loadPrim (d := I 0) rfl rfl (.inl rfl) rfl rfl rfl) rfl ?_
  exact RA.to2 hall hf hb (ro26_6 B) rfl rfl (by kernel_rfl)
  refine RO.alloc (ds := [I 0, I 0, I 0, I 0, I 0, .r (.v (.slice none 0 0)), I 0, I 0, .r (.v (.slice none 0 0)), I 0, I 0, I 0, .r (.v (.slice none 0 0)), .r (.v (.slice none 0 0))]) rfl rfl rfl rfl rfl rfl fun bo26_14_1 => ?_
  exact RA.to2 hall hf hb (ro26_7 B bo26_14_1) rfl rfl (by kernel_rfl)
 have ro26_0 : ∀ B, RA f E B all 6 (bt 16 5567) ⟨129, [(81, I id), (83, I Journal.z.term_), (85, I Journal.z.vote), (86, .pt 9 b4 2), (89, .agg [I Log.z.start, I Log.z.startTerm, .al 19 (some 5) 3 Log.z.entries.length (g25 0 2) 0]), (91, .pt 9 b4 0), (93, I lim)] ++ b0⟩ K := by
  intro B
  refine RA.of2 hall hf hb (RA.stepH (L := [6, 9, 11, 14]) (Tell.of rfl) (by kernel_rfl) (by simp) (RA.each ?_ (RA.each ?_ (RA.each ?_ (RA.each ?_ (RA.each0))))))
  refine RO.v rfl rfl (V.loadPrim (d := .r (sl 1 cI (cfD d))) rfl rfl (.inr ⟨_, rfl⟩) rfl rfl rfl) rfl ?_
  exact RA.to2 hall hf hb (ro26_1 B) rfl rfl (by kernel_rfl)
  refine RO.callOwn rfl rfl (impl_copyLog_fn Log.z okToLog_z) rfl (.cons (.agg (.cons (.r .r) (.cons (.r .r) (.cons (.r (.alo (k := none) (i := 19) (j := 5) (sz := 3) (V := (g25 0 2)) rfl rfl rfl nofun)) (.nil))))) (.nil)) rfl rfl fun go26_9_1 => ?_
  exact RA.to2 hall hf hb (ro26_2 B go26_9_1) rfl rfl (by kernel_rfl)
  refine RO.v rfl rfl (V.loadPrim (d := I 0) rfl rfl (.inl rfl) rfl rfl rfl) rfl ?_
  exact RA.to2 hall hf hb (ro26_3 B) rfl rfl (by kernel_rfl)
  refine RO.alloc (ds := [I 0, I 0, I 0, I 0, I 0, .r (.v (.slice none 0 0)), I 0, I 0, .r (.v (.slice none 0 0)), I 0, I 0, I 0, .r (.v (.slice none 0 0)), .r (.v (.slice none 0 0))]) rfl rfl rfl rfl rfl rfl fun bo26_14_1 => ?_
  exact RA.to2 hall hf hb (ro26_4 B bo26_14_1) rfl rfl (by kernel_rfl)
 refine RA.start (by kernel_rfl) (by kernel_rfl) (m := 16) (ls' := (bt 16 0)) ?_
 refine RA.fr XK 129 6 [0,1,2,3,4,5,7,8,10,12] (bt 16 5567) rfl rfl (by kernel_rfl) (Tell.of rfl) ?_
 (conv=>whnf);refine ⟨rfl,fun B=>?_⟩
 exact RA.to2 hall hf hb (ro26_0 B) rfl rfl (by kernel_rfl)
 rintro ⟨bo26_14_1, go26_9_1⟩
 refine CW.g XK 129 [.o 1] rfl rfl rfl ?_
 refine RW.callOwn rfl (impl_NodeOk_fn (⟨id, Journal.z.term_, Journal.z.vote, 0, 0, cfD d, Log.z, 0, 0, lim, [], []⟩ : Node) (nd0_P hfd hid hlim)) rfl (.cons (.agg (.cons (.r .r) (.cons (.r .r) (.cons (.r .r) (.cons (.r .r) (.cons (.r .r) (.cons (.r .r) (.cons (.r .r) (.cons (.r .r) (.cons (.r (.alo (k := none) (i := 20) (j := 8) (sz := 3) (V := (go26_9_1 0 2)) rfl rfl rfl nofun)) (.cons (.r .r) (.cons (.r .r) (.cons (.r .r) (.cons (.r .nil) (.cons (.r .nil) (.nil)))))))))))))))) (.nil)) rfl fun g27 => ?_
 refine RW.g XK 129 [.o 1,.p,.e [6,9,11,13,16,17,19,20,97]] rfl rfl rfl ?_
 refine CW.cond rfl (fun h28 => ?_) (fun h28 => ?_)
 exact absurd h28 (by decide)
 refine CW.g XK 129 [.p,.e [6,9,11,13,16,17,19,20],.p,.p] rfl rfl rfl ?_
 refine RW.freeze 20 (d' := .obj bo26_14_1 [I id, I Journal.z.term_, I Journal.z.vote, I 0, I 0, .r (sl 1 cI (cfD d)), I Log.z.start, I Log.z.startTerm, .r (sl 3 Entry.c Log.z.entries), I 0, I 0, I lim, .r (.v (.slice none 0 0)), .r (.v (.slice none 0 0))]) rfl rfl ?_
 refine RW.h XK 129 [.o 9,.e [6,13,16,17,19,21]] rfl ?_;(conv=>whnf);intro b29;(conv=>whnf);refine ⟨rfl,?_⟩
 refine RW.pullO (k := 21) (l := 17) (j := 14) 21 17 14 rfl rfl rfl (by decide) rfl rfl rfl rfl ?_
 refine RW.g XK 129 [.e [6,13,16,19,21],.p,.e [6,13,16,19,21],.o 4] rfl rfl rfl ?_
 refine RW.callOwn rfl (impl_sameLog_fn Log.z Journal.z.log) rfl (.cons (.agg (.cons (.r .r) (.cons (.r .r) (.cons (.r (.alo (k := none) (i := 19) (j := 5) (sz := 3) (V := (g25 0 2)) rfl rfl rfl nofun)) (.nil))))) (.cons (.agg (.cons (.r .r) (.cons (.r .r) (.cons (.r .r) (.nil))))) (.nil))) rfl fun g30 => ?_
 refine RW.g XK 129 [.p,.e [6,16,21,110]] rfl rfl rfl ?_
 refine CW.cond rfl (fun h31 => ?_) (fun h31 => ?_)
 refine CW.g XK 129 [.o 3,.e [6,16,21,112]] rfl rfl rfl ?_
 refine RW.pullO (k := 6) (l := 21) (j := 14) 6 21 14 rfl rfl rfl (by decide) rfl rfl rfl rfl ?_
 refine RW.g XK 129 [.e [6,16,112],.o 1] rfl rfl rfl ?_
 refine RW.pullS 7 16 (by decide) rfl rfl ?_
 refine RW.g XK 129 [.o 1,.p,.e [6,7,8]] rfl rfl rfl ?_
 refine CW.freeze 6 (d' := .obj b2 [I id, I Journal.z.term_, I Journal.z.vote, I 0, I 0, .r (sl 1 cI (cfD d)), I Log.z.start, I Log.z.startTerm, .r (sl 3 Entry.c Log.z.entries), I 0, I 0, I lim, .r (.v (.slice none 0 0)), .r (.v (.slice none 0 0)), .r (sl 3 File.c d.files), I Journal.z.number, I Journal.z.term_, I Journal.z.vote, I Journal.z.log.start, I Journal.z.log.startTerm, .r (sl 3 Entry.c Journal.z.log.entries), .r (sl 3 Session.c keepNew.sessions), .r (sl 3 Item.c keepNew.items), I 0, S (⟨#[]⟩), I 0, I 0]) rfl rfl ?_
 refine CW.ret ?_
 exact Post.tup (by decide) (RVs.c (RV.c (f := fun e => (Server.c e).map .r) (e' := (⟨(⟨id, Journal.z.term_, Journal.z.vote, 0, 0, cfD d, Log.z, 0, 0, lim, [], []⟩ : Node), d, Journal.z, keepNew, 0, ⟨#[]⟩, 0, 0⟩ : Server)) rfl rfl rfl rfl (DT.r (DT.r (DT.r (DT.r (DT.r (DT.r (DT.r (DT.r (DT.r (DT.r (DT.r (DT.r (DT.nr (DT.nr (DT.r (DT.r (DT.r (DT.r (DT.r (DT.r (DT.r (DT.r (DT.r (DT.r (DT.r (DT.r (DT.r DT.e))))))))))))))))))))))))))) (by rfl)) (RVs.c (RV.w rfl (by rfl)) (RVs.c (RV.i rfl (by rfl)) RVs.e))) (AOs.r (AOs.a rfl (AOs.r AOs.e)))
 exact absurd h31 (by decide)
set_option maxHeartbeats 4000000 in
theorem laws_sameInts_fn (a : List Int) (b : List Int) : Eng.Fn E.P 10 [.one (.r (sl 1 cI a)), .one (.r (sl 1 cI b))] (.one (.one (.w (.v (.bool (eqS eqI a b)))))) [.one (.r (sl 1 cI a)), .one (.r (sl 1 cI b))] := by
 refine Eng.Fn.intro (E := E) (rvs := [.tmp 4]) Tryz.func10 rfl rfl rfl (by simp [outSlots, moved, rvSlot, sl]) ?_
 intro B g bo
 refine CW.bound (x := .tmp 0) (n := a.length) (AsT.r) (fun hl0 => ?_)
 refine CW.bound (x := .tmp 1) (n := b.length) (AsT.r) (fun hl1 => ?_)
 refine CW.g XK 26 [.e [0,1],.n 1,.e [0,1],.n 1,.e [0,1,10]] rfl rfl rfl ?_
 refine CW.cond rfl (fun h1 => ?_) (fun h1 => ?_)
 refine CW.g XK 26 [.n 1,.e [4]] rfl rfl rfl ?_
 refine CW.ret ?_
 exact Post.one (RV.b rfl q8) (AOs.r (AOs.r AOs.e))
 refine CW.g XK 26 [.p,.e [0,1],.n 1,.e [0,1,5],.p] rfl rfl rfl ?_
 refine CW.loopI 26 (fun (i : Nat) => [(0, .r (sl 1 cI a)), (1, .r (sl 1 cI b)), (5, I (i : Int))]) (fun (i : Nat) => i ≤ a.length ∧ eqS eqI (a.drop i) (b.drop i) = eqS eqI a b) (fun (i : Nat) => a.length - i) 0 rfl (Le.c rfl <| Le.c rfl <| Le.c rfl <| Le.e) ⟨by omega, by simp⟩ ?_
 rintro i ⟨hb, hr⟩
 have hlen : a.length = b.length := by simp at h1; omega
 refine CW.g XK 26 [.n 1,.e [0,1,5,14]] rfl rfl rfl ?_
 refine CW.cond rfl (fun h2 => ?_) (fun h2 => ?_)
 have hii : i < a.length := by have := h2; simp at this; first | exact this | omega | (simp; done) | (simp; omega)
 obtain ⟨ei, hei⟩ : ∃ e, a[i]? = some e := ⟨_, List.getElem?_eq_getElem hii⟩
 have hdi := drop_get hei
 have hib : i < b.length := by omega
 obtain ⟨eb, heb⟩ : ∃ e, b[i]? = some e := ⟨_, List.getElem?_eq_getElem hib⟩
 have hdb := drop_get heb
 refine CW.g XK 26 [.p,.e [0,1,5],.p,.p,.p] rfl rfl rfl ?_
 refine CW.drawn (by kernel_rfl) ?_
 refine RQ.k XK 26 2 rfl ?_
 (conv=>whnf);refine ⟨rfl,?_⟩
 refine RQ.v rfl (V.indexS rfl rfl rfl rfl rfl rfl cI.len hei) ?_
 refine RQ.k XK 26 3 rfl ?_
 (conv=>whnf);refine ⟨rfl,?_⟩
 refine RQ.v rfl (V.indexS rfl rfl rfl rfl rfl rfl cI.len heb) ?_
 refine RQ.k XK 26 2 rfl ?_
 (conv=>whnf);refine ⟨rfl,?_⟩
 refine RQ.nil ?_
 refine CW.g XK 26 [.e [0,1,5,25]] rfl rfl rfl ?_
 refine CW.cond rfl (fun h3 => ?_) (fun h3 => ?_)
 refine CW.g XK 26 [.n 1,.e [4]] rfl rfl rfl ?_
 refine CW.ret ?_
 exact Post.one (RV.b rfl (by rw [← hr, hdi, hdb]; simp_all [eqS, eqI])) (AOs.r (AOs.r AOs.e))
 refine CW.g XK 26 [.p,.e [0,1,5],.o 1] rfl rfl rfl ?_
 refine RW.v rfl (V.inc rfl rfl rfl hii hl0) ?_
 refine RW.g XK 26 [.o 1,.p] rfl rfl rfl ?_
 exact ⟨i + 1, by omega, ⟨by omega, by simp_all [eqS, eqI]⟩, rfl, Le.c rfl <| Le.c rfl <| Le.c rfl <| Le.e⟩
 have hii : a.length ≤ i := by have := h2; simp at this; first | exact this | omega | (simp; done) | (simp; omega)
 have hdi : a.drop i = [] := List.drop_eq_nil_of_le hii
 refine CW.exit ?_
 refine CW.g XK 26 [.e [],.n 1,.e [4]] rfl rfl rfl ?_
 refine CW.ret ?_
 exact Post.one (RV.b rfl (by rw [← hr, hdi, List.drop_eq_nil_of_le (show b.length ≤ i by omega)]; rfl)) (AOs.r (AOs.r AOs.e))
set_option maxHeartbeats 4000000 in
theorem laws_last_fn (l : Log) : Eng.Fn E.P 11 [.agg ((Log.c l).map .r)] (.one (.one (.w (.v (.int .i64 (IntKind.i64.wrap (l.start + (l.entries.length : Int)))))))) [.agg ((Log.c l).map .r)] := by
 refine Eng.Fn.intro (E := E) (rvs := [.tmp 2]) Tryz.func11 rfl rfl rfl (by simp [outSlots, moved, rvSlot, sl]) ?_
 intro B g bo
 refine CW.h XK 9 [.e [0],.o 1] rfl ?_;(conv=>whnf);intro b1;(conv=>whnf);refine ⟨rfl,?_⟩
 refine RW.freezeB (ts := (Log.c l)) 1 rfl (DRd.r (DRd.r (DRd.r DRd.e))) ?_
 refine RW.g XK 9 [.o 1,.p,.e [1],.n 1,.e [2]] rfl rfl rfl ?_
 refine CW.ret ?_
 exact Post.one (RV.i rfl (by rfl)) (AOs.a rfl AOs.e)
set_option maxHeartbeats 4000000 in
theorem impl_entriesFrom_fn (l : Log) (a : Int) (b : Int) (hl : l = Log.z) (ha : a = 0) (hb : b = 0) : Eng.Fn E.P 47 [.agg ((Log.c l).map .r), .one (.r (.v (.int .i64 a))), .one (.r (.v (.int .i64 b)))] (.one (.one (.w (sl 3 Entry.c ([] : List Entry))))) [.agg ((Log.c l).map .r), .one (.r (.v (.int .i64 a))), .one (.r (.v (.int .i64 b)))] := by
 refine Eng.Fn.intro (E := E) (rvs := [.tmp 6]) Tryz.func47 rfl rfl rfl (by simp [outSlots, moved, rvSlot, sl]) ?_
 intro B g bo
 refine CW.g XK 20 [.e [0,1,2]] rfl rfl rfl ?_
 have hz : l.start = 0 := by rw [hl]; rfl
 have hz2 : l.entries = [] := by rw [hl]; rfl
 refine CW.h XK 20 [.o 1] rfl ?_;(conv=>whnf);intro b1;(conv=>whnf);refine ⟨rfl,?_⟩
 refine RW.freezeB (ts := (Log.c l)) 3 rfl (DRd.r (DRd.r (DRd.r DRd.e))) ?_
 refine RW.g XK 20 [.o 1,.p,.e [1,2,3],.p,.p] rfl rfl rfl ?_
 refine RW.build0 Entry.c rfl rfl rfl rfl rfl fun X2 => ?_
 refine RW.g XK 20 [.o 10] rfl rfl rfl ?_
 refine RW.v rfl (V.midS (m := 0) (q := 0) rfl rfl rfl rfl rfl rfl rfl (by rw [ha, hz]; rfl) (by rw [hb, hz]; rfl) Entry.len (Nat.zero_le _)) ?_
 refine RW.appendSR (c := Entry.c) (l1 := ([] : List Entry)) (l2 := ((l.entries.drop 0).take 0)) rfl rfl rfl rfl rfl rfl rfl rfl .r (by decide) (Nat.le_of_ble_eq_true rfl) Entry.len (fun _ => rfl) rfl (by rw [List.take_zero]; decide) (by rw [List.take_zero]; decide) fun X3 => ?_
 refine RW.assignMove rfl rfl rfl (by decide) (Nat.le_of_ble_eq_true rfl) (Nat.le_of_ble_eq_true rfl) ?_
 refine RW.g XK 20 [.p,.e [6]] rfl rfl rfl ?_
 refine CW.ret ?_
 exact Post.one (RV.w rfl (by rfl)) (AOs.a rfl (AOs.r (AOs.r AOs.e)))
set_option maxHeartbeats 4000000 in
theorem impl_copyKeep_fn (k : Keep) (hok : okToKeep k) : Eng.Fn E.P 114 [.agg ((Keep.c k).map .r)] (.one (.agg ((Keep.c k).map .w))) [.agg ((Keep.c k).map .r)] := by
 refine Eng.Fn.intro (E := E) (rvs := [.cell 2 43]) Tryz.func114 rfl rfl rfl (by simp [outSlots, moved, rvSlot, sl]) ?_
 intro B g bo
 refine CW.h XK 12 [.e [0],.o 1] rfl ?_;(conv=>whnf);intro b1;(conv=>whnf);refine ⟨rfl,?_⟩
 refine RW.freezeB (ts := (Keep.c k)) 1 rfl (DRd.r (DRd.r DRd.e)) ?_
 refine RW.h XK 12 [.o 1,.p,.e [1,2]] rfl ?_;(conv=>whnf);intro b2;(conv=>whnf);refine ⟨rfl,?_⟩
 refine CW.anyJ2 (fc := []) (L0 := []) 12 (fun (zz : Value × Value × Value × Value) => match zz with | (Xo3_0_1, Xo3_3_1, Xo3_4_1, Xo3_7_1) => [(2, .obj b2 [.w (sl 3 Session.c (([] : List Session) ++ k.sessions)) Xo3_3_1, .w (sl 3 Item.c (([] : List Item) ++ k.items)) Xo3_7_1])]) (fun all hall f hf b0 hb K hK => ?_) ?_
 have ro3_7 : ∀ B, ∀ (Xo3_0_1 : Value), ∀ (Xo3_3_1 : Value), ∀ (Xo3_4_1 : Value), ∀ (Xo3_7_1 : Value), RA f E B all 0 (bt 10 1023) ⟨12, [(2, .obj b2 [.w (sl 3 Session.c (([] : List Session) ++ k.sessions)) Xo3_3_1, .w (sl 3 Item.c (([] : List Item) ++ k.items)) Xo3_7_1])] ++ b0⟩ K := by
  intro B Xo3_0_1 Xo3_3_1 Xo3_4_1 Xo3_7_1
  exact RA.of2 hall hf hb (RA.finH (Tell.of rfl) (by kernel_rfl) (hK (Xo3_0_1, Xo3_3_1, Xo3_4_1, Xo3_7_1) _ rfl (Le.of rfl)))
 have ro3_6 : ∀ B, ∀ (Xo3_0_1 : Value), ∀ (Xo3_3_1 : Value), ∀ (Xo3_4_1 : Value), ∀ (Xo3_7_1 : Value), RA f E B all 1 (bt 10 511) ⟨12, [(2, .obj b2 [.r (.v (.slice none 0 0)), .r (.v (.slice none 0 0))]), (6, .w (sl 3 Session.c (([] : List Session) ++ k.sessions)) Xo3_3_1), (10, .w (sl 3 Item.c (([] : List Item) ++ k.items)) Xo3_7_1), (11, .agg [.al 6 none 3 ((([] : List Session) ++ k.sessions).length) Xo3_3_1 0, .al 10 none 3 ((([] : List Item) ++ k.items).length) Xo3_7_1 0])] ++ b0⟩ K := by
  intro B Xo3_0_1 Xo3_3_1 Xo3_4_1 Xo3_7_1
  refine RA.of2 hall hf hb (RA.stepH (L := [9]) (Tell.of rfl) (by kernel_rfl) (by simp) (RA.each ?_ (RA.each0)))
  refine RO.storeAgg (es := [.al 6 none 3 ((([] : List Session) ++ k.sessions).length) Xo3_3_1 0, .al 10 none 3 ((([] : List Item) ++ k.items).length) Xo3_7_1 0]) rfl rfl rfl rfl rfl rfl rfl rfl rfl rfl (Nat.le_of_ble_eq_true rfl) rfl ?_
  refine RA.keep 12 [2,6,10] rfl ?_;(conv=>whnf);refine ⟨?_⟩
  refine RA.pullT (k := 2) (l := 6) (j := 0) 2 6 0 rfl rfl rfl (by decide) rfl rfl rfl ?_
  refine RA.keep 12 [2,10] rfl ?_;(conv=>whnf);refine ⟨?_⟩
  refine RA.pullT (k := 2) (l := 10) (j := 1) 2 10 1 rfl rfl rfl (by decide) rfl rfl rfl ?_
  refine RA.keep 12 [2] rfl ?_;(conv=>whnf);refine ⟨?_⟩
  exact RA.to2 hall hf hb (ro3_7 B Xo3_0_1 Xo3_3_1 Xo3_4_1 Xo3_7_1) rfl rfl (by kernel_rfl)
 have ro3_5 : ∀ B, ∀ (Xo3_0_1 : Value), ∀ (Xo3_3_1 : Value), ∀ (Xo3_4_1 : Value), RA f E B all 3 (bt 10 127) ⟨12, [(2, .obj b2 [.r (.v (.slice none 0 0)), .r (.v (.slice none 0 0))]), (6, .w (sl 3 Session.c (([] : List Session) ++ k.sessions)) Xo3_3_1), (7, .w (sl 3 Item.c ([] : List Item)) Xo3_4_1), (9, .r (sl 3 Item.c k.items))] ++ b0⟩ K := by
  intro B Xo3_0_1 Xo3_3_1 Xo3_4_1
  refine RA.of2 hall hf hb (RA.stepH (L := [7]) (Tell.of rfl) (by kernel_rfl) (by simp) (RA.each ?_ (RA.each0)))
  refine RO.appendSR (c := Item.c) (l1 := ([] : List Item)) (l2 := k.items) rfl rfl rfl rfl rfl rfl rfl rfl rfl rfl .r (by decide) (Nat.le_of_ble_eq_true rfl) Item.len (fun _ => rfl) rfl q4 q4 fun Xo3_7_1 => ?_
  refine RA.fr XK 12 1 [8] (bt 10 511) rfl rfl (by kernel_rfl) (Tell.of rfl) ?_
  (conv=>whnf);refine ⟨rfl,fun B=>?_⟩
  exact RA.to2 hall hf hb (ro3_6 B Xo3_0_1 Xo3_3_1 Xo3_4_1 Xo3_7_1) rfl rfl (by kernel_rfl)
 have ro3_4 : ∀ B, ∀ (Xo3_0_1 : Value), ∀ (Xo3_4_1 : Value), RA f E B all 4 (bt 10 119) ⟨12, [(2, .obj b2 [.r (.v (.slice none 0 0)), .r (.v (.slice none 0 0))]), (3, .w (sl 3 Session.c ([] : List Session)) Xo3_0_1), (5, .r (sl 3 Session.c k.sessions)), (7, .w (sl 3 Item.c ([] : List Item)) Xo3_4_1), (9, .r (sl 3 Item.c k.items))] ++ b0⟩ K := by
  intro B Xo3_0_1 Xo3_4_1
  refine RA.of2 hall hf hb (RA.stepH (L := [3]) (Tell.of rfl) (by kernel_rfl) (by simp) (RA.each ?_ (RA.each0)))
  refine RO.appendSR (c := Session.c) (l1 := ([] : List Session)) (l2 := k.sessions) rfl rfl rfl rfl rfl rfl rfl rfl rfl rfl .r (by decide) (Nat.le_of_ble_eq_true rfl) Session.len (fun _ => rfl) rfl q4 q4 fun Xo3_3_1 => ?_
  exact RA.to2 hall hf hb (ro3_5 B Xo3_0_1 Xo3_3_1 Xo3_4_1) rfl rfl (by kernel_rfl)
 have ro3_3 : ∀ B, ∀ (Xo3_0_1 : Value), ∀ (Xo3_3_1 : Value), RA f E B all 4 (bt 10 111) ⟨12, [(2, .obj b2 [.r (.v (.slice none 0 0)), .r (.v (.slice none 0 0))]), (6, .w (sl 3 Session.c (([] : List Session) ++ k.sessions)) Xo3_3_1), (9, .r (sl 3 Item.c k.items))] ++ b0⟩ K := by
  intro B Xo3_0_1 Xo3_3_1
  refine RA.of2 hall hf hb (RA.stepH (L := [4]) (Tell.of rfl) (by kernel_rfl) (by simp) (RA.each ?_ (RA.each0)))
  refine RO.build0 Item.c rfl rfl rfl rfl rfl rfl rfl fun Xo3_4_1 => ?_
  exact RA.to2 hall hf hb (ro3_5 B Xo3_0_1 Xo3_3_1 Xo3_4_1) rfl rfl (by kernel_rfl)
 have ro3_2 : ∀ B, ∀ (Xo3_4_1 : Value), RA f E B all 5 (bt 10 118) ⟨12, [(2, .obj b2 [.r (.v (.slice none 0 0)), .r (.v (.slice none 0 0))]), (5, .r (sl 3 Session.c k.sessions)), (7, .w (sl 3 Item.c ([] : List Item)) Xo3_4_1), (9, .r (sl 3 Item.c k.items))] ++ b0⟩ K := by
  intro B Xo3_4_1
  refine RA.of2 hall hf hb (RA.stepH (L := [0]) (Tell.of rfl) (by kernel_rfl) (by simp) (RA.each ?_ (RA.each0)))
  refine RO.build0 Session.c rfl rfl rfl rfl rfl rfl rfl fun Xo3_0_1 => ?_
  exact RA.to2 hall hf hb (ro3_4 B Xo3_0_1 Xo3_4_1) rfl rfl (by kernel_rfl)
 have ro3_1 : ∀ B, ∀ (Xo3_0_1 : Value), RA f E B all 5 (bt 10 103) ⟨12, [(2, .obj b2 [.r (.v (.slice none 0 0)), .r (.v (.slice none 0 0))]), (3, .w (sl 3 Session.c ([] : List Session)) Xo3_0_1), (5, .r (sl 3 Session.c k.sessions)), (9, .r (sl 3 Item.c k.items))] ++ b0⟩ K := by
  intro B Xo3_0_1
  refine RA.of2 hall hf hb (RA.stepH (L := [3, 4]) (Tell.of rfl) (by kernel_rfl) (by simp) (RA.each ?_ (RA.each ?_ (RA.each0))))
  refine RO.appendSR (c := Session.c) (l1 := ([] : List Session)) (l2 := k.sessions) rfl rfl rfl rfl rfl rfl rfl rfl rfl rfl .r (by decide) (Nat.le_of_ble_eq_true rfl) Session.len (fun _ => rfl) rfl q4 q4 fun Xo3_3_1 => ?_
  exact RA.to2 hall hf hb (ro3_3 B Xo3_0_1 Xo3_3_1) rfl rfl (by kernel_rfl)
  refine RO.build0 Item.c rfl rfl rfl rfl rfl rfl rfl fun Xo3_4_1 => ?_
  exact RA.to2 hall hf hb (ro3_4 B Xo3_0_1 Xo3_4_1) rfl rfl (by kernel_rfl)
 have ro3_0 : ∀ B, RA f E B all 6 (bt 10 102) ⟨12, [(2, .obj b2 [.r (.v (.slice none 0 0)), .r (.v (.slice none 0 0))]), (5, .r (sl 3 Session.c k.sessions)), (9, .r (sl 3 Item.c k.items))] ++ b0⟩ K := by
  intro B
  refine RA.of2 hall hf hb (RA.stepH (L := [0, 4]) (Tell.of rfl) (by kernel_rfl) (by simp) (RA.each ?_ (RA.each ?_ (RA.each0))))
  refine RO.build0 Session.c rfl rfl rfl rfl rfl rfl rfl fun Xo3_0_1 => ?_
  exact RA.to2 hall hf hb (ro3_1 B Xo3_0_1) rfl rfl (by kernel_rfl)
  refine RO.build0 Item.c rfl rfl rfl rfl rfl rfl rfl fun Xo3_4_1 => ?_
  exact RA.to2 hall hf hb (ro3_2 B Xo3_4_1) rfl rfl (by kernel_rfl)
 refine RA.start (by kernel_rfl) (by kernel_rfl) (m := 10) (ls' := (bt 10 0)) ?_
 refine RA.fr XK 12 6 [1,2,5,6] (bt 10 102) rfl rfl (by kernel_rfl) (Tell.of rfl) ?_
 (conv=>whnf);refine ⟨rfl,fun B=>?_⟩
 exact RA.to2 hall hf hb (ro3_0 B) rfl rfl (by kernel_rfl)
 rintro ⟨Xo3_0_1, Xo3_3_1, Xo3_4_1, Xo3_7_1⟩
 refine CW.ret ?_
 exact Post.one (RV.c (f := fun e => (Keep.c e).map .w) (e' := (⟨(([] : List Session) ++ k.sessions), (([] : List Item) ++ k.items)⟩ : Keep)) rfl rfl rfl rfl (DT.w (DT.w DT.e)) (by rfl)) (AOs.a rfl AOs.e)
set_option maxHeartbeats 4000000 in
theorem impl_Fold_fn (k : Keep) (l : List Entry) (from0 : Int) (hl : l = []) (hok : okToKeep k) : Eng.Fn E.P 46 [.agg ((Keep.c k).map .r), .one (.r (sl 3 Entry.c l)), .one (.r (.v (.int .i64 from0)))] (.tup [.agg ((Keep.c k).map .r), .one (.w (sl 1 cS ([] : List ByteArray)))]) [.agg ((Keep.c k).map .r), .one (.r (sl 3 Entry.c l)), .one (.r (.v (.int .i64 from0)))] := by
 refine Eng.Fn.intro (E := E) (rvs := [.cell 6 43, .tmp 7]) Tryz.func46 rfl rfl rfl (by simp [outSlots, moved, rvSlot, sl]) ?_
 intro B g bo
 refine CW.bound (x := .tmp 1) (n := l.length) (AsT.r) (fun hl1 => ?_)
 refine CW.h XK 60 [.e [0,1,2],.o 1] rfl ?_;(conv=>whnf);intro b1;(conv=>whnf);refine ⟨rfl,?_⟩
 refine RW.freezeB (ts := (Keep.c k)) 3 rfl (DRd.r (DRd.r DRd.e)) ?_
 refine RW.h XK 60 [.o 2,.p,.e [1,2,3,6],.o 1] rfl ?_;(conv=>whnf);intro b2;(conv=>whnf);refine ⟨rfl,?_⟩
 refine RW.call rfl (impl_copyKeep_fn k hok) rfl (.cons (.agg (.cons (.r .r) (.cons (.r .r) (.nil)))) (.nil)) fun g3 => ?_
 refine RW.h XK 60 [.o 2,.e [1,2,6,8,19]] rfl ?_;(conv=>whnf);intro b4;(conv=>whnf);refine ⟨rfl,?_⟩
 refine RW.pullA (k := 8) (l := 19) (j := 0) 8 19 0 rfl rfl rfl (by decide) rfl rfl rfl rfl ?_
 refine RW.g XK 60 [.e [1,2,6,8,19]] rfl rfl rfl ?_
 refine RW.pullA (k := 8) (l := 19) (j := 1) 8 19 1 rfl rfl rfl (by decide) rfl rfl rfl rfl ?_
 refine RW.g XK 60 [.e [1,2,6,8],.p,.e [1,2,6,8],.p,.p] rfl rfl rfl ?_
 refine RW.build0 cS rfl rfl rfl rfl rfl fun X5 => ?_
 refine RW.assignMove rfl rfl rfl (by decide) (Nat.le_of_ble_eq_true rfl) (Nat.le_of_ble_eq_true rfl) ?_
 refine RW.g XK 60 [.p,.e [1,2,6,8,9],.n 1,.e [2,6,8,9,21,22,23],.p] rfl rfl rfl ?_
 refine CW.loopI 60 (fun (i : Nat) => [(2, I from0), (6, .obj b2 [.r (.v (.slice none 0 0)), .r (.v (.slice none 0 0))]), (8, .obj b4 [.w (sl 3 Session.c k.sessions) (g3 0 0), .w (sl 3 Item.c k.items) (g3 0 1)]), (9, .w (sl 1 cS ([] : List ByteArray)) X5), (21, .r (sl 3 Entry.c l)), (22, I (l.length : Int)), (23, I (i : Int))]) (fun (i : Nat) => i = 0) (fun (i : Nat) => 0) 0 rfl (Le.c rfl <| Le.c rfl <| Le.c rfl <| Le.c rfl <| Le.c rfl <| Le.c rfl <| Le.c rfl <| Le.e) rfl ?_
 rintro i hi0
 refine CW.g XK 60 [.n 1,.e [2,6,8,9,21,22,23,24],.p] rfl rfl rfl ?_
 refine CW.cond rfl (fun h6 => ?_) (fun h6 => ?_)
 exact absurd (of_decide_eq_true h6) (by rw [hl]; show ¬ (i : Int) < ((0 : Nat) : Int); omega)
 refine CW.exit ?_
 refine CW.g XK 60 [.e [6,8,9],.o 3,.e [6,8,9,59]] rfl rfl rfl ?_
 refine RW.pullO (k := 6) (l := 8) (j := 0) 6 8 0 rfl rfl rfl (by decide) rfl rfl rfl rfl ?_
 refine RW.g XK 60 [.e [6,8,9,59]] rfl rfl rfl ?_
 refine RW.pullO (k := 6) (l := 8) (j := 1) 6 8 1 rfl rfl rfl (by decide) rfl rfl rfl rfl ?_
 refine RW.g XK 60 [.e [6,9,59],.o 1] rfl rfl rfl ?_
 refine RW.pullS 7 9 (by decide) rfl rfl ?_
 refine RW.g XK 60 [.p,.e [6,7]] rfl rfl rfl ?_
 refine CW.freeze 6 (d' := .obj b2 ((Keep.c k).map .r)) rfl rfl ?_
 refine CW.ret ?_
 exact Post.tup (by decide) (RVs.c (RV.c (f := fun e => (Keep.c e).map .r) (e' := k) rfl rfl rfl rfl (DT.r (DT.r DT.e)) (by rfl)) (RVs.c (RV.w rfl (by rfl)) RVs.e)) (AOs.a rfl (AOs.r (AOs.r AOs.e)))
set_option maxHeartbeats 4000000 in
theorem impl_Session__fn (a : List Session) (b : List Session) : Eng.Fn E.P 117 [.one (.r (sl 3 Session.c a)), .one (.r (sl 3 Session.c b))] (.one (.one (.w (.v (.bool (eqS eqSession a b)))))) [.one (.r (sl 3 Session.c a)), .one (.r (sl 3 Session.c b))] := by
 refine Eng.Fn.intro (E := E) (rvs := [.tmp 4]) Tryz.func117 rfl rfl rfl (by simp [outSlots, moved, rvSlot, sl]) ?_
 intro B g bo
 refine CW.bound (x := .tmp 0) (n := a.length) (AsT.r) (fun hl0 => ?_)
 refine CW.bound (x := .tmp 1) (n := b.length) (AsT.r) (fun hl1 => ?_)
 refine CW.g XK 26 [.e [0,1],.n 1,.e [0,1],.n 1,.e [0,1,10]] rfl rfl rfl ?_
 refine CW.cond rfl (fun h1 => ?_) (fun h1 => ?_)
 refine CW.g XK 26 [.n 1,.e [4]] rfl rfl rfl ?_
 refine CW.ret ?_
 exact Post.one (RV.b rfl q8) (AOs.r (AOs.r AOs.e))
 refine CW.g XK 26 [.p,.e [0,1],.n 1,.e [0,1,12,13],.p] rfl rfl rfl ?_
 refine CW.loopI 26 (fun (i : Nat) => [(0, .r (sl 3 Session.c a)), (1, .r (sl 3 Session.c b)), (12, I (a.length : Int)), (13, I (i : Int))]) (fun (i : Nat) => i ≤ a.length ∧ eqS eqSession (a.drop i) (b.drop i) = eqS eqSession a b) (fun (i : Nat) => a.length - i) 0 rfl (Le.c rfl <| Le.c rfl <| Le.c rfl <| Le.c rfl <| Le.e) ⟨by omega, by simp⟩ ?_
 rintro i ⟨hb, hr⟩
 have hlen : a.length = b.length := by simp at h1; omega
 refine CW.g XK 26 [.n 1,.e [0,1,12,13,14],.p] rfl rfl rfl ?_
 refine CW.cond rfl (fun h2 => ?_) (fun h2 => ?_)
 have hii : i < a.length := by have := h2; simp at this; first | exact this | omega | (simp; done) | (simp; omega)
 obtain ⟨ei, hei⟩ : ∃ e, a[i]? = some e := ⟨_, List.getElem?_eq_getElem hii⟩
 have hdi := drop_get hei
 have hib : i < b.length := by omega
 obtain ⟨eb, heb⟩ : ∃ e, b[i]? = some e := ⟨_, List.getElem?_eq_getElem hib⟩
 refine CW.g XK 26 [.p,.e [0,1,12,13],.n 1,.e [0,1,5,12,13],.p] rfl rfl rfl ?_
 refine CW.drawn (by kernel_rfl) ?_
 refine RQ.k XK 26 2 rfl ?_
 (conv=>whnf);refine ⟨rfl,?_⟩
 refine RQ.v rfl (V.indexS rfl rfl rfl rfl rfl rfl Session.len hei) ?_
 refine RQ.k XK 26 3 rfl ?_
 (conv=>whnf);refine ⟨rfl,?_⟩
 refine RQ.v rfl (V.indexS rfl rfl rfl rfl rfl rfl Session.len heb) ?_
 refine RQ.k XK 26 1 rfl ?_
 (conv=>whnf);refine ⟨rfl,?_⟩
 refine RQ.v rfl (V.eqAgg (xs := Session.vs ei) (ys := Session.vs eb) rfl rfl rfl (by kernel_rfl) (eq136 ei eb) (.inr ⟨rfl, rfl⟩)) ?_
 refine RQ.nil ?_
 refine CW.g XK 26 [.e [0,1,12,13,24]] rfl rfl rfl ?_
 refine CW.cond rfl (fun h3 => ?_) (fun h3 => ?_)
 have he9 := h3
 refine CW.g XK 26 [.n 1,.e [4]] rfl rfl rfl ?_
 refine CW.ret ?_
 exact Post.one (RV.b rfl q10) (AOs.r (AOs.r AOs.e))
 have he9 := h3
 refine CW.g XK 26 [.p,.e [0,1,12,13],.p] rfl rfl rfl ?_
 refine RW.v rfl (V.inc rfl rfl rfl hii hl0) ?_
 refine RW.g XK 26 [.o 1,.p] rfl rfl rfl ?_
 exact ⟨i + 1, by omega, ⟨by omega, by rw [← hr, eqS_step hei heb, if_pos (by simpa using he9)]⟩, rfl, Le.c rfl <| Le.c rfl <| Le.c rfl <| Le.c rfl <| Le.e⟩
 have hii : a.length ≤ i := by have := h2; simp at this; first | exact this | omega | (simp; done) | (simp; omega)
 have hdi : a.drop i = [] := List.drop_eq_nil_of_le hii
 refine CW.exit ?_
 refine CW.g XK 26 [.e [],.n 1,.e [4]] rfl rfl rfl ?_
 refine CW.ret ?_
 exact Post.one (RV.b rfl (by rw [← hr]; exact (eqS_end hii hlen).symm)) (AOs.r (AOs.r AOs.e))
end Go.Proofs.YtaneihnomaagoaaGreatDoor.Y
