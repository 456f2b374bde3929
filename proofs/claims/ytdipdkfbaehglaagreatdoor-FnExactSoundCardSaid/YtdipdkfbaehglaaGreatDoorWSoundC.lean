import Derived.Test.YtdipdkfbaehglaaGreatDoorWSoundB
namespace Go.Proofs.YtdipdkfbaehglaaGreatDoor.Y
open Go Go.RowKit Go.Eng Go.Proofs
set_option maxRecDepth 10000
set_option maxHeartbeats 4000000 in
theorem spec_Entries_fn (a : List Applied) (hm : a.length ≤ 1048576) : Eng.Fn E.P 22 [.one (.r (sl 6 Applied.c a))] (.tup [.one (.r (sl 3 Entry.c (ents a))), .one (.w (.v (.bool (pairs badApplied [] a))))]) [.one (.r (sl 6 Applied.c a))] := by
 refine Eng.Fn.intro (E := E) (rvs := [.tmp 2, .tmp 3]) Tryz.func22 rfl rfl rfl (by simp [outSlots, moved, rvSlot, sl]) ?_
 intro B g bo
 refine CW.bound (x := .tmp 0) (n := a.length) (AsT.r) (fun hl0 => ?_)
 refine CW.g XK 41 [.e [0],.n 1,.e [0],.p,.p] rfl rfl rfl ?_
 refine RW.build0 Entry.c rfl rfl rfl rfl rfl fun X1 => ?_
 refine RW.assignMove rfl rfl rfl (by decide) (Nat.le_of_ble_eq_true rfl) (Nat.le_of_ble_eq_true rfl) ?_
 refine RW.g XK 41 [.p,.e [0,4],.o 1] rfl rfl rfl ?_
 refine RW.call rfl (spec_SameApplied_fn a) rfl (.cons (.one (.r .r)) (.nil)) fun g2 => ?_
 refine RW.g XK 41 [.o 1,.p,.e [0,4,10]] rfl rfl rfl ?_
 refine CW.cond rfl (fun h3 => ?_) (fun h3 => ?_)
 refine CW.g XK 41 [.o 2] rfl rfl rfl ?_
 refine RW.pullS 2 4 (by decide) rfl rfl ?_
 refine RW.g XK 41 [.o 1,.p,.e [2,3]] rfl rfl rfl ?_
 refine CW.freeze 2 (d' := .r (sl 3 Entry.c ([] : List Entry))) rfl rfl ?_
 refine CW.ret ?_
 exact Post.tup (by decide) (RVs.c (RV.r rfl (by exact (ents_no (by simpa using h3)).symm)) (RVs.c (RV.b rfl (by simp_all)) RVs.e)) (AOs.r AOs.e)
 refine CW.g XK 41 [.p,.e [0,4],.n 1,.e [0,4,5],.p,.p] rfl rfl rfl ?_
 refine CW.loopI 41 (fun (zz : Bool × List Entry × Value) => match zz with | (f, out, X) => [(0, .r (sl 6 Applied.c a)), (4, .w (sl 3 Entry.c out) X), (5, Bo f)]) (fun (zz : Bool × List Entry × Value) => match zz with | (f, out, X) => GoodE a out ∧ (f = false → FinE a out)) (fun (zz : Bool × List Entry × Value) => match zz with | (f, out, X) => 2 * (a.length - out.length) + (if f = true then 1 else 0)) (true, [], _) rfl (Le.c rfl <| Le.c rfl <| Le.c rfl <| Le.e) ⟨good_nil a, by simp⟩ ?_
 rintro ⟨f, out, X⟩ ⟨hg, hfin⟩
 have hol := good_len hg
 refine CW.g XK 41 [.n 1,.e [0,4,12]] rfl rfl rfl ?_
 refine CW.cond rfl (fun h4 => ?_) (fun h4 => ?_)
 refine CW.g XK 41 [.p,.e [0,4],.n 2,.e [0,4,5,6],.p] rfl rfl rfl ?_
 refine CW.loopI 41 (fun (zz : Nat × Bool × List Entry × Value) => match zz with | (k, f2, out2, X2) => [(0, .r (sl 6 Applied.c a)), (4, .w (sl 3 Entry.c out2) X2), (5, Bo f2), (6, I (k : Int))]) (fun (zz : Nat × Bool × List Entry × Value) => match zz with | (k, f2, out2, X2) => EntP a out k f2 out2) (fun (zz : Nat × Bool × List Entry × Value) => match zz with | (k, f2, out2, X2) => a.length - k) (0, false, _, _) rfl (Le.c rfl <| Le.c rfl <| Le.c rfl <| Le.c rfl <| Le.e) (EntP.init hg) ?_
 rintro ⟨k, f2, out2, X2⟩ hP
 have hb := hP.1
 refine CW.g XK 41 [.p] rfl rfl rfl ?_
 refine CW.seqJ 41 (fun (v5 : Bool) => [(0, .r (sl 6 Applied.c a)), (4, .w (sl 3 Entry.c out2) X2), (5, Bo f2), (6, I (k : Int)), (20, Bo v5)]) (fun v5 => v5 = (decide ((k : Int) < (a.length : Int)) && (!f2))) ?_ ?_
 refine CW.g XK 41 [.o 5] rfl rfl rfl ?_
 refine RW.gv rfl rfl rfl rfl (fun h6 => V.mv (d := Bo f2) rfl rfl) (fun h6 => ?_) (fun h6 => ?_)
 refine RW.g XK 41 [.o 2,.p] rfl rfl rfl ?_
 exact ⟨_, by first | rfl | (simp_all; done) | (simp_all; omega) | grind, rfl, Le.of rfl⟩
 refine RW.g XK 41 [.o 2,.p] rfl rfl rfl ?_
 exact ⟨_, by first | rfl | (simp_all; done) | (simp_all; omega) | grind, rfl, Le.of rfl⟩
 intro v5 hv7
 refine CW.cond rfl (fun h8 => ?_) (fun h8 => ?_)
 have hik : k < a.length := by subst hv7; simp at h8; omega
 obtain ⟨ek, hek⟩ : ∃ e, a[k]? = some e := ⟨_, List.getElem?_eq_getElem hik⟩
 refine CW.g XK 41 [.p,.e [0,4,5,6],.o 2] rfl rfl rfl ?_
 refine RW.v rfl (V.indexS rfl rfl rfl rfl rfl rfl Applied.len hek) ?_
 refine RW.g XK 41 [.o 6,.p,.e [0,4,5,6,31]] rfl rfl rfl ?_
 refine CW.cond rfl (fun h9 => ?_) (fun h9 => ?_)
 refine CW.g XK 41 [.o 3] rfl rfl rfl ?_
 refine RW.v rfl (V.indexS rfl rfl rfl rfl rfl rfl Applied.len hek) ?_
 refine RW.g XK 41 [.o 2] rfl rfl rfl ?_
 refine RW.build1 (c := Entry.c) (v := ek.entry) rfl rfl rfl rfl rfl rfl (DW.v (DW.v (DW.v DW.e))) Entry.len (by decide) (by decide) fun X10 => ?_
 refine RW.appendSR (c := Entry.c) (l1 := out2) (l2 := [ek.entry]) rfl rfl rfl rfl rfl rfl rfl rfl (.al (k := none) (i := 38) (sz := 3) (V := X10) rfl rfl nofun) (by decide) (Nat.le_of_ble_eq_true rfl) Entry.len (fun _ => rfl) rfl q31 q31 fun X11 => ?_
 refine RW.assignMove rfl rfl rfl (by decide) (Nat.le_of_ble_eq_true rfl) (Nat.le_of_ble_eq_true rfl) ?_
 refine RW.g XK 41 [.p,.e [0,4,6],.o 1,.p,.e [0,4,5,6],.o 1] rfl rfl rfl ?_
 refine RW.v rfl (V.inc rfl rfl rfl hik hl0) ?_
 refine RW.g XK 41 [.o 1,.p] rfl rfl rfl ?_
 exact ⟨(k + 1, true, (out2 ++ ([ek.entry])), _), by simp only []; omega, (by first | exact hP.yes hm hek h9 | exact hP.no hm hek h9), rfl, Le.c rfl <| Le.c rfl <| Le.c rfl <| Le.c rfl <| Le.e⟩
 refine CW.g XK 41 [.p,.e [0,4,5,6],.o 1] rfl rfl rfl ?_
 refine RW.v rfl (V.inc rfl rfl rfl hik hl0) ?_
 refine RW.g XK 41 [.o 1,.p] rfl rfl rfl ?_
 exact ⟨(k + 1, f2, out2, _), by simp only []; omega, (by first | exact hP.yes hm hek h9 | exact hP.no hm hek h9), rfl, Le.c rfl <| Le.c rfl <| Le.c rfl <| Le.c rfl <| Le.e⟩
 refine CW.exit ?_
 exact ⟨(f2, out2, _), hP.dec hol h4, ⟨hP.2.1, hP.fin2 hv7 h8⟩, rfl, Le.c rfl <| Le.c rfl <| Le.c rfl <| Le.e⟩
 refine CW.exit ?_
 refine CW.g XK 41 [.e [4],.o 2] rfl rfl rfl ?_
 refine RW.pullS 2 4 (by decide) rfl rfl ?_
 refine RW.g XK 41 [.o 1,.p,.e [2,3]] rfl rfl rfl ?_
 refine CW.freeze 2 (d' := .r (sl 3 Entry.c out)) rfl rfl ?_
 refine CW.ret ?_
 exact Post.tup (by decide) (RVs.c (RV.r rfl (by exact ents_eq (by simpa using h3) hg (hfin h4))) (RVs.c (RV.b rfl (by simp_all)) RVs.e)) (AOs.r AOs.e)
set_option maxHeartbeats 4000000 in
theorem spec_KeepNew_fn  : Eng.Fn E.P 23 [] (.one (.agg ((Keep.c keepNew).map .w))) [] := by
 refine Eng.Fn.intro (E := E) (rvs := [.cell 0 59]) Tryz.func23 rfl rfl rfl (by simp [outSlots, moved, rvSlot, sl]) ?_
 intro B g bo
 refine CW.h XK 4 [.e [],.n 1,.e [0],.o 1] rfl ?_;(conv=>whnf);intro b1;(conv=>whnf);refine ⟨rfl,?_⟩
 refine RW.build1 (c := Item.c) (v := (⟨(⟨#[114, 111, 111, 116]⟩ : ByteArray), ⟨#[]⟩, 1⟩ : Item)) rfl rfl rfl rfl rfl rfl (DW.v (DW.v (DW.v DW.e))) Item.len (by decide) (by decide) fun X2 => ?_
 refine RW.g XK 4 [.o 2,.e [0,2]] rfl rfl rfl ?_
 refine RW.pullT (k := 0) (l := 2) (j := 1) 0 2 1 rfl rfl rfl (by decide) rfl rfl rfl ?_
 refine RW.g XK 4 [.e [0],.p,.e [0]] rfl rfl rfl ?_
 refine CW.ret ?_
 exact Post.one (RV.c (f := fun e => (Keep.c e).map .w) (e' := (⟨[], [(⟨(⟨#[114, 111, 111, 116]⟩ : ByteArray), ⟨#[]⟩, 1⟩ : Item)]⟩ : Keep)) rfl rfl rfl rfl (DT.n (DT.w DT.e)) (by rfl)) AOs.e
set_option maxHeartbeats 4000000 in
theorem spec_l01In_fn (n : Int) (x : Int) (y : Int) : Eng.Fn E.P 46 [.one (.r (.v (.int .i64 n))), .one (.r (.v (.int .i64 x))), .one (.r (.v (.int .i64 y)))] (.one (.one (.w (.v (.bool (inR n x y)))))) [.one (.r (.v (.int .i64 n))), .one (.r (.v (.int .i64 x))), .one (.r (.v (.int .i64 y)))] := by
 refine Eng.Fn.intro (E := E) (rvs := [.tmp 6]) Tryz.func46 rfl rfl rfl (by simp [outSlots, moved, rvSlot, sl]) ?_
 intro B g bo
 refine CW.g XK 15 [.e [0,1,2],.n 1,.e [0,1,2]] rfl rfl rfl ?_
 refine CW.seqJ 15 (fun (v1 : Bool) => [(6, Bo v1)]) (fun v1 => v1 = (decide (n ≥ x) && decide (n ≤ y))) ?_ ?_
 refine CW.g XK 15 [.o 4] rfl rfl rfl ?_
 refine RW.gv rfl rfl rfl rfl (fun h2 => V.mv (d := I n) rfl rfl) (fun h2 => ?_) (fun h2 => ?_)
 refine RW.g XK 15 [.o 4,.p] rfl rfl rfl ?_
 exact ⟨_, by first | rfl | (simp_all; done) | (simp_all; omega) | grind, rfl, Le.of rfl⟩
 refine RW.g XK 15 [.o 4,.p] rfl rfl rfl ?_
 exact ⟨_, by first | rfl | (simp_all; done) | (simp_all; omega) | grind, rfl, Le.of rfl⟩
 intro v1 hv3
 refine CW.ret ?_
 exact Post.one (RV.b rfl (by simp_all [inR])) (AOs.r (AOs.r (AOs.r AOs.e)))
set_option maxHeartbeats 4000000 in
theorem spec_l01Var_fn (n : Int) (hn : 0 ≤ n ∧ n ≤ 9223372036854775807) : Eng.Fn E.P 103 [.one (.r (.v (.int .i64 n)))] (.one (.one (.w (.v (.string (varB n.toNat)))))) [.one (.r (.v (.int .i64 n)))] := by
 refine Eng.Fn.intro (E := E) (rvs := [.tmp 2]) Tryz.func103 rfl rfl rfl (by simp [outSlots, moved, rvSlot, sl]) ?_
 intro B g bo
 refine CW.g XK 22 [.e [0],.n 1,.e [0],.p,.p] rfl rfl rfl ?_
 refine RW.build0 cU rfl rfl rfl rfl rfl fun X1 => ?_
 refine RW.assignMove rfl rfl rfl (by decide) (Nat.le_of_ble_eq_true rfl) (Nat.le_of_ble_eq_true rfl) ?_
 refine RW.g XK 22 [.p,.e [0,3],.p,.p] rfl rfl rfl ?_
 refine CW.loopI 22 (fun (zz : Int × List Int × Value) => match zz with | (m, l, X) => [(0, I m), (3, .w (sl 1 cU l) X)]) (fun (zz : Int × List Int × Value) => match zz with | (m, l, X) => VbP n m l) (fun (zz : Int × List Int × Value) => match zz with | (m, l, X) => m.toNat) (_, [], _) rfl (Le.c rfl <| Le.c rfl <| Le.e) (VbP.init hn) ?_
 rintro ⟨m, l, X⟩ hP
 refine CW.g XK 22 [.n 1,.e [0,3,6]] rfl rfl rfl ?_
 refine CW.cond rfl (fun h2 => ?_) (fun h2 => ?_)
 have hgt := h2
 refine CW.g XK 22 [.p,.e [0,3],.o 5] rfl rfl rfl ?_
 refine RW.build1c (c := cU) (v := (IntKind.u8.wrap (IntKind.i64.wrap ((Int.tmod m 128) + 128)))) (u := .v (.int .u8 (IntKind.u8.wrap (IntKind.i64.wrap ((Int.tmod m 128) + 128))))) rfl rfl rfl rfl rfl rfl (.inl rfl) rfl rfl fun X3 => ?_
 refine RW.appendSR (c := cU) (l1 := l) (l2 := [(IntKind.u8.wrap (IntKind.i64.wrap ((Int.tmod m 128) + 128)))]) rfl rfl rfl rfl rfl rfl rfl rfl (.al (k := none) (i := 12) (sz := 1) (V := X3) rfl rfl nofun) (by decide) (Nat.le_of_ble_eq_true rfl) cU.len (fun _ => rfl) rfl q33 q33 fun X4 => ?_
 refine RW.assignMove rfl rfl rfl (by decide) (Nat.le_of_ble_eq_true rfl) (Nat.le_of_ble_eq_true rfl) ?_
 refine RW.g XK 22 [.p,.e [0,3],.o 3,.p] rfl rfl rfl ?_
 exact ⟨(_, _, _), (hP.step hgt).2, (hP.step hgt).1, rfl, Le.c rfl <| Le.c rfl <| Le.e⟩
 have hgt := h2
 refine CW.exit ?_
 refine CW.g XK 22 [.e [0,3],.o 3] rfl rfl rfl ?_
 refine RW.build1c (c := cU) (v := (IntKind.u8.wrap m)) (u := .v (.int .u8 (IntKind.u8.wrap m))) rfl rfl rfl rfl rfl rfl (.inl rfl) rfl rfl fun X5 => ?_
 refine RW.appendSR (c := cU) (l1 := l) (l2 := [(IntKind.u8.wrap m)]) rfl rfl rfl rfl rfl rfl rfl rfl (.al (k := none) (i := 19) (sz := 1) (V := X5) rfl rfl nofun) (by decide) (Nat.le_of_ble_eq_true rfl) cU.len (fun _ => rfl) rfl q33 q33 fun X6 => ?_
 refine RW.v rfl (V.bytesStr (l := (l ++ ([(IntKind.u8.wrap m)]))) rfl rfl rfl (by kernel_rfl) (by kernel_rfl) (.al (k := none) (i := 20) (sz := 1) (V := X6) rfl rfl nofun)) ?_
 refine RW.g XK 22 [.o 1,.p,.e [2]] rfl rfl rfl ?_
 refine CW.ret ?_
 exact Post.one (RV.s rfl (by exact hP.fin hgt)) (AOs.r AOs.e)
set_option maxHeartbeats 4000000 in
theorem spec_ReadVar_fn (t : ByteArray) (a : Int) (ht : t.size ≤ 1048576) : Eng.Fn E.P 101 [.one (.r (.v (.string t))), .one (.r (.v (.int .i64 a)))] (.tup [.one (.w (.v (.int .i64 ((rdVar t a).1)))), .one (.w (.v (.int .i64 ((rdVar t a).2.1)))), .one (.w (.v (.bool ((rdVar t a).2.2))))]) [.one (.r (.v (.string t))), .one (.r (.v (.int .i64 a)))] := by
 refine Eng.Fn.intro (E := E) (rvs := [.tmp 4, .tmp 5, .tmp 6]) Tryz.func101 rfl rfl rfl (by simp [outSlots, moved, rvSlot, sl]) ?_
 intro B g bo
 refine CW.g XK 58 [.e [0,1]] rfl rfl rfl ?_
 have hsz : t.size ≤ 4611686018427387904 := by omega
 refine CW.g XK 58 [.n 1,.e [0,1],.o 3] rfl rfl rfl ?_
 refine RW.call rfl (spec_l01In_fn a 0 (t.size : Int)) rfl (.cons (.one (.r .r)) (.cons (.one (.r .r)) (.cons (.one (.r .r)) (.nil)))) fun g1 => ?_
 refine RW.g XK 58 [.o 1,.p,.e [0,1,14]] rfl rfl rfl ?_
 refine CW.cond rfl (fun h2 => ?_) (fun h2 => ?_)
 refine CW.g XK 58 [.n 1,.e [4,5,6]] rfl rfl rfl ?_
 refine CW.ret ?_
 exact Post.tup (by decide) (RVs.c (RV.i rfl (by rw [rdVar_out (nT (by assumption))])) (RVs.c (RV.i rfl (by rw [rdVar_out (nT (by assumption))])) (RVs.c (RV.b rfl (by rw [rdVar_out (nT (by assumption))])) RVs.e))) (AOs.r (AOs.r AOs.e))
 have hin := nF h2
 refine CW.g XK 58 [.p,.e [0,1],.n 2,.e [0,1,7,8],.n 1,.e [0,1,7,8,9],.p] rfl rfl rfl ?_
 refine CW.loopI 58 (fun (zz : Nat × Int) => match zz with | (j, n) => [(0, S t), (1, I a), (7, I n), (8, I ((128 ^ j : Nat) : Int)), (9, I (a + (j : Int)))]) (fun (zz : Nat × Int) => match zz with | (j, n) => RvP t a j n) (fun (zz : Nat × Int) => match zz with | (j, n) => 5 - j) (0, 0) rfl (Le.c rfl <| Le.c rfl <| Le.c rfl <| Le.c (congrArg I (by simp)) <| Le.c (congrArg I (by omega)) <| Le.e) (RvP.init hin hsz) ?_
 rintro ⟨j, n⟩ hP
 refine CW.g XK 58 [.p] rfl rfl rfl ?_
 refine CW.seqJ 58 (fun (v3 : Bool) => [(0, S t), (1, I a), (7, I n), (8, I ((128 ^ j : Nat) : Int)), (9, I (a + (j : Int))), (25, Bo v3)]) (fun v3 => v3 = (decide ((a + (j : Int)) < (t.size : Int)) && decide ((a + (j : Int)) < (IntKind.i64.wrap (a + 5))))) ?_ ?_
 refine CW.g XK 58 [.o 5] rfl rfl rfl ?_
 refine RW.gv rfl rfl rfl rfl (fun h4 => V.mv (d := I (a + (j : Int))) rfl rfl) (fun h4 => ?_) (fun h4 => ?_)
 refine RW.g XK 58 [.o 4,.p] rfl rfl rfl ?_
 exact ⟨_, by first | rfl | (simp_all; done) | (simp_all; omega) | grind, rfl, Le.of rfl⟩
 refine RW.g XK 58 [.o 4,.p] rfl rfl rfl ?_
 exact ⟨_, by first | rfl | (simp_all; done) | (simp_all; omega) | grind, rfl, Le.of rfl⟩
 intro v3 hv5
 refine CW.cond rfl (fun h6 => ?_) (fun h6 => ?_)
 have hvv := hv5.symm.trans h6
 simp only [Bool.and_eq_true, decide_eq_true_eq] at hvv
 have h5 : j < 5 := by have h9 := hP.a0; have h8 := hP.sz; rw [wrap_small (x := a + 5) (by omega) (by omega)] at hvv; omega
 have hlt : a.toNat + j < t.size := by have h9 := hP.a0; omega
 obtain ⟨c, hb⟩ := hP.byte hlt
 refine CW.g XK 58 [.p,.e [0,1,7,8,9],.o 3] rfl rfl rfl ?_
 refine RW.v rfl (V.idxStrZ (m := (a.toNat + j)) rfl (by kernel_rfl) rfl rfl (by have h9 := hP.a0; omega) hlt) ?_
 refine RW.g XK 58 [.o 6,.p,.e [0,1,7,8,9],.n 1,.e [0,1,7,8,9],.o 2] rfl rfl rfl ?_
 refine RW.v rfl (V.idxStrZ (m := (a.toNat + j)) rfl (by kernel_rfl) rfl rfl (by have h9 := hP.a0; omega) hlt) ?_
 refine RW.g XK 58 [.o 1,.p,.e [0,1,7,8,9,42]] rfl rfl rfl ?_
 refine CW.cond rfl (fun h7 => ?_) (fun h7 => ?_)
 have hc : (c.toNat : Int) ≤ 127 := by have h9 := of_decide_eq_true h7; rw [hb.bt] at h9; omega
 refine CW.g XK 58 [.p] rfl rfl rfl ?_
 refine CW.anyP (fc := []) 58 (fun (v8 : Bool) => [(7, I (IntKind.i64.wrap (n + (IntKind.i64.wrap ((Int.tmod (IntKind.i64.wrap (bat t (a.toNat + j))) 128) * ((128 ^ j : Nat) : Int)))))), (9, I (a + (j : Int))), (54, Bo v8)]) (fun (v8 : Bool) => v8 = (decide ((IntKind.i64.wrap (n + (IntKind.i64.wrap ((Int.tmod (IntKind.i64.wrap (bat t (a.toNat + j))) 128) * ((128 ^ j : Nat) : Int))))) > 1000000000) || (!((varB (IntKind.i64.wrap (n + (IntKind.i64.wrap ((Int.tmod (IntKind.i64.wrap (bat t (a.toNat + j))) 128) * ((128 ^ j : Nat) : Int))))).toNat).toList == (t.extract a.toNat (IntKind.i64.wrap ((a + (j : Int)) + 1)).toNat).toList)))) (fun K hK => ?_) ?_
 refine RA.start (m := 12) (ls' := (bt 12 0)) (by kernel_rfl) (by kernel_rfl) ?_
 refine RA.keep 58 [0,1,7,9] rfl ?_;(conv=>whnf);refine ⟨?_⟩
 refine RA.fr XK 58 9 [0,1,2] (bt 12 7) rfl rfl (by kernel_rfl) (Tell.of rfl) ?_
 (conv=>whnf);refine ⟨rfl,fun B=>?_⟩
 refine RA.keep 58 [0,1,7,9,45] rfl ?_;(conv=>whnf);refine ⟨?_⟩
 refine RA.bool 45 rfl (fun h9 => ?_) (fun h9 => ?_)
 refine RA.firstF (i := 3) (ls' := (bt 12 15)) (Tell.of rfl) (by kernel_rfl) rfl rfl rfl rfl rfl (.inl rfl) ?_
 refine RA.firstF (i := 4) (ls' := (bt 12 31)) (Tell.of rfl) (by kernel_rfl) rfl rfl rfl rfl rfl (.inl rfl) ?_
 refine RA.firstF (i := 5) (ls' := (bt 12 63)) (Tell.of rfl) (by kernel_rfl) rfl rfl rfl rfl rfl (.inl rfl) ?_
 refine RA.firstF (i := 6) (ls' := (bt 12 127)) (Tell.of rfl) (by kernel_rfl) rfl rfl rfl rfl rfl (.inl rfl) ?_
 refine RA.firstF (i := 7) (ls' := (bt 12 255)) (Tell.of rfl) (by kernel_rfl) rfl rfl rfl rfl rfl (.inl rfl) ?_
 refine RA.firstF (i := 8) (ls' := (bt 12 511)) (Tell.of rfl) (by kernel_rfl) rfl rfl rfl rfl rfl (.inl rfl) ?_
 refine RA.firstF (i := 9) (ls' := (bt 12 1023)) (Tell.of rfl) (by kernel_rfl) rfl rfl rfl rfl rfl (.inl rfl) ?_
 refine RA.firstF (i := 10) (ls' := (bt 12 2047)) (Tell.of rfl) (by kernel_rfl) rfl rfl rfl rfl rfl (.inl rfl) ?_
 refine RA.keep 58 [7,9,45,53] rfl ?_;(conv=>whnf);refine ⟨?_⟩
 refine RA.fr XK 58 0 [11] (bt 12 4095) rfl rfl (by kernel_rfl) (Tell.of rfl) ?_
 (conv=>whnf);refine ⟨rfl,fun B=>?_⟩
 exact RA.finH (Tell.of rfl) (by kernel_rfl) (hK _ _ (by first | rfl | (simp_all; done) | grind) rfl (Le.of rfl))
 refine RA.firstT (i := 3) (ls' := (bt 12 15)) (Tell.of rfl) (by kernel_rfl) rfl rfl rfl rfl rfl rfl (VF.p (V.mv (d := I (IntKind.i64.wrap (n + (IntKind.i64.wrap ((Int.tmod (IntKind.i64.wrap (bat t (a.toNat + j))) 128) * ((128 ^ j : Nat) : Int)))))) rfl rfl)) ?_
 refine RA.firstT (i := 5) (ls' := (bt 12 47)) (Tell.of rfl) (by kernel_rfl) rfl rfl rfl rfl rfl rfl (VF.p (V.mv (d := S t) rfl rfl)) ?_
 refine RA.firstT (i := 6) (ls' := (bt 12 111)) (Tell.of rfl) (by kernel_rfl) rfl rfl rfl rfl rfl rfl (VF.p (V.mv (d := I a) rfl rfl)) ?_
 refine RA.firstT (i := 7) (ls' := (bt 12 239)) (Tell.of rfl) (by kernel_rfl) rfl rfl rfl rfl rfl rfl (VF.p (V.mv (d := I (a + (j : Int))) rfl rfl)) ?_
 refine RA.firstT (i := 8) (ls' := (bt 12 495)) (Tell.of rfl) (by kernel_rfl) rfl rfl rfl rfl rfl rfl (VF.p (V.arInt rfl rfl rfl rfl)) ?_
 refine RA.firstT (i := 9) (ls' := (bt 12 1007)) (Tell.of rfl) (by kernel_rfl) rfl rfl rfl rfl rfl rfl (VF.p (V.strSlice (l := a) (h := (IntKind.i64.wrap ((a + (j : Int)) + 1))) rfl (by kernel_rfl) rfl (.inr ⟨_, _, rfl, rfl⟩) (.inr ⟨_, _, rfl, rfl⟩) (by have h9 := hP.a0; have h8 := hP.sz; rw [wrap_small (by omega) (by omega)]; omega))) ?_
 refine RA.keep 58 [7,9,45,46,52] rfl ?_;(conv=>whnf);refine ⟨?_⟩
 refine RA.oneCall (i := 4) (ls' := (bt 12 1023)) (Tell.of rfl) (by kernel_rfl) rfl rfl rfl rfl rfl rfl (spec_l01Var_fn (IntKind.i64.wrap (n + (IntKind.i64.wrap ((Int.tmod (IntKind.i64.wrap (bat t (a.toNat + j))) 128) * ((128 ^ j : Nat) : Int))))) (by rw [hP.nS hb h5]; have h9 := (hP.more hb h5).2; have h8 := (hP.more hb h5).1; omega)) rfl (.cons (.one (.r .r)) (.nil)) fun g10 => ?_
 refine RA.firstT (i := 10) (ls' := (bt 12 2047)) (Tell.of rfl) (by kernel_rfl) rfl rfl rfl rfl rfl rfl (VF.p (V.strCmp rfl rfl rfl rfl)) ?_
 refine RA.fr XK 58 0 [11] (bt 12 4095) rfl rfl (by kernel_rfl) (Tell.of rfl) ?_
 (conv=>whnf);refine ⟨rfl,fun B=>?_⟩
 exact RA.finH (Tell.of rfl) (by kernel_rfl) (hK _ _ (by first | rfl | (simp_all; done) | grind) rfl (Le.of rfl))
 rintro v8 hv11
 refine CW.cond rfl (fun h12 => ?_) (fun h12 => ?_)
 have hz := (hP.specT hb h5 hc hlt hv11).1 h12
 refine CW.g XK 58 [.n 1,.e [4,5,6]] rfl rfl rfl ?_
 refine CW.ret ?_
 exact Post.tup (by decide) (RVs.c (RV.i rfl (by rw [hP.badZ hb h5 hc hz])) (RVs.c (RV.i rfl (by rw [hP.badZ hb h5 hc hz])) (RVs.c (RV.b rfl (by rw [hP.badZ hb h5 hc hz])) RVs.e))) (AOs.r (AOs.r AOs.e))
 have hz := (hP.specT hb h5 hc hlt hv11).2 h12
 refine CW.g XK 58 [.p,.e [7,9],.n 1,.e [4,5,6]] rfl rfl rfl ?_
 refine CW.ret ?_
 exact Post.tup (by decide) (RVs.c (RV.i rfl (by rw [hP.goodZ hb h5 hc hz]; exact hP.nS hb h5)) (RVs.c (RV.i rfl (by rw [hP.goodZ hb h5 hc hz]; have h9 := hP.a0; have h8 := hP.sz; rw [wrap_small (by omega) (by omega)]; show _ = a + ((j + 1 : Nat) : Int); omega)) (RVs.c (RV.b rfl (by rw [hP.goodZ hb h5 hc hz])) RVs.e))) (AOs.r (AOs.r AOs.e))
 have hc : (c.toNat : Int) > 127 := by have h9 := of_decide_eq_false h7; rw [hb.bt] at h9; omega
 refine CW.g XK 58 [.p,.e [0,1,7,8,9],.o 3,.p] rfl rfl rfl ?_
 exact ⟨(j + 1, (IntKind.i64.wrap (n + (IntKind.i64.wrap ((Int.tmod (IntKind.i64.wrap (bat t (a.toNat + j))) 128) * ((128 ^ j : Nat) : Int)))))), by simp only []; omega, (hP.next hb h5 hlt hc (hP.nS hb h5)), rfl, Le.c rfl <| Le.c rfl <| Le.c rfl <| Le.c (congrArg I (pow_next h5)) <| Le.c (congrArg I (by have h9 := hP.a0; have h8 := hP.sz; rw [wrap_small (by omega) (by omega)]; omega)) <| Le.e⟩
 have hen := hP.end_ (by have hvv := hv5.symm.trans h6; simp only [Bool.and_eq_false_iff, decide_eq_false_iff_not] at hvv; have h9 := hP.a0; have h8 := hP.sz; have h7 := hP.j5; rw [wrap_small (x := a + 5) (by omega) (by omega)] at hvv; omega)
 refine CW.exit ?_
 refine CW.g XK 58 [.e [],.n 1,.e [4,5,6]] rfl rfl rfl ?_
 refine CW.ret ?_
 exact Post.tup (by decide) (RVs.c (RV.i rfl (by rw [hen])) (RVs.c (RV.i rfl (by rw [hen])) (RVs.c (RV.b rfl (by rw [hen])) RVs.e))) (AOs.r (AOs.r AOs.e))
set_option maxHeartbeats 4000000 in
theorem spec_l16Var_fn (c : l16Cur) (hs : c.sc.ok) : Eng.Fn E.P 64 [.ob ((l16Cur.c c).map .r)] (.one (.one (.w (.v (.int .i64 (numW c)))))) [.ob ((l16Cur.c (numC c)).map .r)] := by
 refine Eng.Fn.intro (E := E) (rvs := [.tmp 2]) Tryz.func64 rfl rfl rfl (by simp [outSlots, moved, rvSlot, sl]) ?_
 intro B g bo
 refine CW.g XK 35 [.e [0],.n 1,.e [0]] rfl rfl rfl ?_
 refine CW.anyJ2 (fc := [(0, (bo 0), [.string c.text, .int .i64 c.at_, .bool c.bad])]) (L0 := [(0, .obj (bo 0) ((l16Cur.c c).map .r))]) 35 (fun (go1_8_1 : (Nat → Nat → Value)) => [(3, I ((rdVar c.text c.at_).1)), (4, I ((rdVar c.text c.at_).2.1)), (5, Bo ((rdVar c.text c.at_).2.2))]) (fun all hall f hf b0 hb K hK => ?_) ?_
 have ro1_9 : ∀ B, ∀ (go1_8_1 : Nat → Nat → Value), RA f E B all 0 (bt 16 65535) ⟨35, [(3, I ((rdVar c.text c.at_).1)), (4, I ((rdVar c.text c.at_).2.1)), (5, Bo ((rdVar c.text c.at_).2.2))] ++ b0⟩ K := by
  intro B go1_8_1
  exact RA.of2 hall hf hb (RA.finH (Tell.of rfl) (by kernel_rfl) (hK go1_8_1 _ rfl (Le.of rfl)))
 have ro1_8 : ∀ B, ∀ (go1_8_1 : Nat → Nat → Value), RA f E B all 2 (bt 16 28671) ⟨35, [(3, I ((rdVar c.text c.at_).1)), (4, I ((rdVar c.text c.at_).2.1)), (6, .tup [.u, .u, Bo ((rdVar c.text c.at_).2.2)])] ++ b0⟩ K := by
  intro B go1_8_1
  refine RA.of2 hall hf hb (RA.stepH (L := [12]) (Tell.of rfl) (by kernel_rfl) (by simp) (RA.each ?_ (RA.each0)))
  refine RO.extract (d := Bo ((rdVar c.text c.at_).2.2)) rfl rfl rfl rfl rfl (by decide) (Nat.le_of_ble_eq_true rfl) rfl rfl ?_
  refine RA.fr XK 35 0 [15] (bt 16 65535) rfl rfl (by kernel_rfl) (Tell.of rfl) ?_
  (conv=>whnf);refine ⟨rfl,fun B=>?_⟩
  exact RA.to2 hall hf hb (ro1_9 B go1_8_1) rfl rfl (by kernel_rfl)
 have ro1_7 : ∀ B, ∀ (go1_8_1 : Nat → Nat → Value), RA f E B all 3 (bt 16 14335) ⟨35, [(3, I ((rdVar c.text c.at_).1)), (6, .tup [.u, I ((rdVar c.text c.at_).2.1), .u]), (18, Bo ((rdVar c.text c.at_).2.2))] ++ b0⟩ K := by
  intro B go1_8_1
  refine RA.of2 hall hf hb (RA.stepH (L := [11]) (Tell.of rfl) (by kernel_rfl) (by simp) (RA.each ?_ (RA.each0)))
  refine RO.extract (d := I ((rdVar c.text c.at_).2.1)) rfl rfl rfl rfl rfl (by decide) (Nat.le_of_ble_eq_true rfl) rfl rfl ?_
  refine RA.fr XK 35 0 [14,15] (bt 16 65535) rfl rfl (by kernel_rfl) (Tell.of rfl) ?_
  (conv=>whnf);refine ⟨rfl,fun B=>?_⟩
  exact RA.to2 hall hf hb (ro1_9 B go1_8_1) rfl rfl (by kernel_rfl)
 have ro1_6 : ∀ B, ∀ (go1_8_1 : Nat → Nat → Value), RA f E B all 4 (bt 16 7167) ⟨35, [(6, .tup [I ((rdVar c.text c.at_).1), .u, .u]), (17, I ((rdVar c.text c.at_).2.1)), (18, Bo ((rdVar c.text c.at_).2.2))] ++ b0⟩ K := by
  intro B go1_8_1
  refine RA.of2 hall hf hb (RA.stepH (L := [10]) (Tell.of rfl) (by kernel_rfl) (by simp) (RA.each ?_ (RA.each0)))
  refine RO.extract (d := I ((rdVar c.text c.at_).1)) rfl rfl rfl rfl rfl (by decide) (Nat.le_of_ble_eq_true rfl) rfl rfl ?_
  refine RA.fr XK 35 0 [13,14,15] (bt 16 65535) rfl rfl (by kernel_rfl) (Tell.of rfl) ?_
  (conv=>whnf);refine ⟨rfl,fun B=>?_⟩
  exact RA.to2 hall hf hb (ro1_9 B go1_8_1) rfl rfl (by kernel_rfl)
 have ro1_5 : ∀ B, ∀ (go1_8_1 : Nat → Nat → Value), RA f E B all 4 (bt 16 10239) ⟨35, [(3, I ((rdVar c.text c.at_).1)), (6, .tup [.u, I ((rdVar c.text c.at_).2.1), Bo ((rdVar c.text c.at_).2.2)])] ++ b0⟩ K := by
  intro B go1_8_1
  refine RA.of2 hall hf hb (RA.stepH (L := [11, 12]) (Tell.of rfl) (by kernel_rfl) (by simp) (RA.each ?_ (RA.each ?_ (RA.each0))))
  refine RO.extract (d := I ((rdVar c.text c.at_).2.1)) rfl rfl rfl rfl rfl (by decide) (Nat.le_of_ble_eq_true rfl) rfl rfl ?_
  refine RA.fr XK 35 2 [14] (bt 16 28671) rfl rfl (by kernel_rfl) (Tell.of rfl) ?_
  (conv=>whnf);refine ⟨rfl,fun B=>?_⟩
  exact RA.to2 hall hf hb (ro1_8 B go1_8_1) rfl rfl (by kernel_rfl)
  refine RO.extract (d := Bo ((rdVar c.text c.at_).2.2)) rfl rfl rfl rfl rfl (by decide) (Nat.le_of_ble_eq_true rfl) rfl rfl ?_
  exact RA.to2 hall hf hb (ro1_7 B go1_8_1) rfl rfl (by kernel_rfl)
 have ro1_4 : ∀ B, ∀ (go1_8_1 : Nat → Nat → Value), RA f E B all 5 (bt 16 5119) ⟨35, [(6, .tup [I ((rdVar c.text c.at_).1), I ((rdVar c.text c.at_).2.1), .u]), (18, Bo ((rdVar c.text c.at_).2.2))] ++ b0⟩ K := by
  intro B go1_8_1
  refine RA.of2 hall hf hb (RA.stepH (L := [10, 11]) (Tell.of rfl) (by kernel_rfl) (by simp) (RA.each ?_ (RA.each ?_ (RA.each0))))
  refine RO.extract (d := I ((rdVar c.text c.at_).1)) rfl rfl rfl rfl rfl (by decide) (Nat.le_of_ble_eq_true rfl) rfl rfl ?_
  refine RA.fr XK 35 3 [13] (bt 16 14335) rfl rfl (by kernel_rfl) (Tell.of rfl) ?_
  (conv=>whnf);refine ⟨rfl,fun B=>?_⟩
  exact RA.to2 hall hf hb (ro1_7 B go1_8_1) rfl rfl (by kernel_rfl)
  refine RO.extract (d := I ((rdVar c.text c.at_).2.1)) rfl rfl rfl rfl rfl (by decide) (Nat.le_of_ble_eq_true rfl) rfl rfl ?_
  exact RA.to2 hall hf hb (ro1_6 B go1_8_1) rfl rfl (by kernel_rfl)
 have ro1_3 : ∀ B, ∀ (go1_8_1 : Nat → Nat → Value), RA f E B all 5 (bt 16 3071) ⟨35, [(6, .tup [I ((rdVar c.text c.at_).1), .u, Bo ((rdVar c.text c.at_).2.2)]), (17, I ((rdVar c.text c.at_).2.1))] ++ b0⟩ K := by
  intro B go1_8_1
  refine RA.of2 hall hf hb (RA.stepH (L := [10, 12]) (Tell.of rfl) (by kernel_rfl) (by simp) (RA.each ?_ (RA.each ?_ (RA.each0))))
  refine RO.extract (d := I ((rdVar c.text c.at_).1)) rfl rfl rfl rfl rfl (by decide) (Nat.le_of_ble_eq_true rfl) rfl rfl ?_
  refine RA.fr XK 35 2 [13,14] (bt 16 28671) rfl rfl (by kernel_rfl) (Tell.of rfl) ?_
  (conv=>whnf);refine ⟨rfl,fun B=>?_⟩
  exact RA.to2 hall hf hb (ro1_8 B go1_8_1) rfl rfl (by kernel_rfl)
  refine RO.extract (d := Bo ((rdVar c.text c.at_).2.2)) rfl rfl rfl rfl rfl (by decide) (Nat.le_of_ble_eq_true rfl) rfl rfl ?_
  exact RA.to2 hall hf hb (ro1_6 B go1_8_1) rfl rfl (by kernel_rfl)
 have ro1_2 : ∀ B, ∀ (go1_8_1 : Nat → Nat → Value), RA f E B all 6 (bt 16 1023) ⟨35, [(6, .tup [I ((rdVar c.text c.at_).1), I ((rdVar c.text c.at_).2.1), Bo ((rdVar c.text c.at_).2.2)])] ++ b0⟩ K := by
  intro B go1_8_1
  refine RA.of2 hall hf hb (RA.stepH (L := [10, 11, 12]) (Tell.of rfl) (by kernel_rfl) (by simp) (RA.each ?_ (RA.each ?_ (RA.each ?_ (RA.each0)))))
  refine RO.extract (d := I ((rdVar c.text c.at_).1)) rfl rfl rfl rfl rfl (by decide) (Nat.le_of_ble_eq_true rfl) rfl rfl ?_
  refine RA.fr XK 35 4 [13] (bt 16 10239) rfl rfl (by kernel_rfl) (Tell.of rfl) ?_
  (conv=>whnf);refine ⟨rfl,fun B=>?_⟩
  exact RA.to2 hall hf hb (ro1_5 B go1_8_1) rfl rfl (by kernel_rfl)
  refine RO.extract (d := I ((rdVar c.text c.at_).2.1)) rfl rfl rfl rfl rfl (by decide) (Nat.le_of_ble_eq_true rfl) rfl rfl ?_
  exact RA.to2 hall hf hb (ro1_3 B go1_8_1) rfl rfl (by kernel_rfl)
  refine RO.extract (d := Bo ((rdVar c.text c.at_).2.2)) rfl rfl rfl rfl rfl (by decide) (Nat.le_of_ble_eq_true rfl) rfl rfl ?_
  exact RA.to2 hall hf hb (ro1_4 B go1_8_1) rfl rfl (by kernel_rfl)
 have ro1_1 : ∀ B, ∀ (go1_8_1 : Nat → Nat → Value), RA f E B all 7 (bt 16 511) ⟨35, [(15, .tup [I ((rdVar c.text c.at_).1), I ((rdVar c.text c.at_).2.1), Bo ((rdVar c.text c.at_).2.2)])] ++ b0⟩ K := by
  intro B go1_8_1
  refine RA.of2 hall hf hb (RA.stepH (L := [9]) (Tell.of rfl) (by kernel_rfl) (by simp) (RA.each ?_ (RA.each0)))
  refine RO.moveMove rfl rfl rfl rfl rfl (by decide) (Nat.le_of_ble_eq_true rfl) (Nat.le_of_ble_eq_true rfl) ?_
  exact RA.to2 hall hf hb (ro1_2 B go1_8_1) rfl rfl (by kernel_rfl)
 have ro1_0 : ∀ B, RA f E B all 8 (bt 16 255) ⟨35, [(10, S c.text), (14, I c.at_)] ++ b0⟩ K := by
  intro B
  refine RA.of2 hall hf hb (RA.stepH (L := [8]) (Tell.of rfl) (by kernel_rfl) (by simp) (RA.each ?_ (RA.each0)))
  refine RO.call rfl rfl (spec_ReadVar_fn c.text c.at_ hs.2.2) rfl (.cons (.one (.r .r)) (.cons (.one (.r .r)) (.nil))) rfl fun go1_8_1 => ?_
  exact RA.to2 hall hf hb (ro1_1 B go1_8_1) rfl rfl (by kernel_rfl)
 refine RA.start (by kernel_rfl) (by kernel_rfl) (m := 16) (ls' := (bt 16 0)) ?_
 refine RA.fr XK 35 8 [0,1,2,3,4,5,6,7] (bt 16 255) rfl rfl (by kernel_rfl) (Tell.of rfl) ?_
 (conv=>whnf);refine ⟨rfl,fun B=>?_⟩
 exact RA.to2 hall hf hb (ro1_0 B) rfl rfl (by kernel_rfl)
 rintro go1_8_1
 refine CW.g XK 35 [.p] rfl rfl rfl ?_
 refine CW.seqJ 35 (fun (v2 : Bool) => [(0, .obj (bo 0) ((l16Cur.c c).map .r)), (3, I ((rdVar c.text c.at_).1)), (4, I ((rdVar c.text c.at_).2.1)), (26, Bo v2)]) (fun v2 => v2 = (c.bad || (!((rdVar c.text c.at_).2.2)))) ?_ ?_
 refine CW.g XK 35 [.o 5] rfl rfl rfl ?_
 refine RW.gv rfl rfl rfl rfl (fun h3 => V.mv (d := Bo ((rdVar c.text c.at_).2.2)) rfl rfl) (fun h3 => ?_) (fun h3 => ?_)
 refine RW.g XK 35 [.o 2,.p] rfl rfl rfl ?_
 exact ⟨_, by first | rfl | (simp_all; done) | (simp_all; omega) | grind, rfl, Le.of rfl⟩
 refine RW.g XK 35 [.o 2,.p] rfl rfl rfl ?_
 exact ⟨_, by first | rfl | (simp_all; done) | (simp_all; omega) | grind, rfl, Le.of rfl⟩
 intro v2 hv4
 refine CW.cond rfl (fun h5 => ?_) (fun h5 => ?_)
 have hvv := hv4.symm.trans h5
 refine CW.g XK 35 [.n 2,.e [0,2]] rfl rfl rfl ?_
 refine CW.ret ?_
 exact Post.one (RV.i rfl (by simp only [numW, numV, numS, shV, shS, l16Cur.sc]; rw [scNum, if_pos hvv])) (AOs.obE (f := fun e => (l16Cur.c e).map .r) (e' := (⟨c.text, c.at_, true⟩ : l16Cur)) rfl (DT.r (DT.r (DT.r DT.e))) (by simp only [numC, numV, numS, shV, shS, l16Cur.sc]; rw [scNum, if_pos hvv]) AOs.e)
 have hvv := hv4.symm.trans h5
 refine CW.g XK 35 [.p,.e [0,3,4],.n 2,.e [0,2]] rfl rfl rfl ?_
 refine CW.ret ?_
 exact Post.one (RV.i rfl (by simp only [numW, numV, numS, shV, shS, l16Cur.sc]; rw [scNum, if_neg (by rw [hvv]; simp)])) (AOs.obE (f := fun e => (l16Cur.c e).map .r) (e' := (⟨c.text, ((rdVar c.text c.at_).2.1), c.bad⟩ : l16Cur)) rfl (DT.r (DT.r (DT.r DT.e))) (by simp only [numC, numV, numS, shV, shS, l16Cur.sc]; rw [scNum, if_neg (by rw [hvv]; simp), (Bool.or_eq_false_iff.1 hvv).1]) AOs.e)
set_option maxHeartbeats 4000000 in
theorem spec_ReadShort_fn (t : ByteArray) (a : Int) (ht : t.size ≤ 1048576) : Eng.Fn E.P 102 [.one (.r (.v (.string t))), .one (.r (.v (.int .i64 a)))] (.tup [.one (.w (.v (.string ((rdShort t a).1)))), .one (.w (.v (.int .i64 ((rdShort t a).2.1)))), .one (.w (.v (.bool ((rdShort t a).2.2))))]) [.one (.r (.v (.string t))), .one (.r (.v (.int .i64 a)))] := by
 refine Eng.Fn.intro (E := E) (rvs := [.tmp 4, .tmp 5, .tmp 6]) Tryz.func102 rfl rfl rfl (by simp [outSlots, moved, rvSlot, sl]) ?_
 intro B g bo
 refine CW.g XK 40 [.e [0,1],.n 1,.e [0,1],.o 2] rfl rfl rfl ?_
 refine RW.call rfl (spec_ReadVar_fn t a ht) rfl (.cons (.one (.r .r)) (.cons (.one (.r .r)) (.nil))) fun g1 => ?_
 refine RW.g XK 40 [.o 7,.p,.e [0,7,8,9],.p] rfl rfl rfl ?_
 refine CW.seqJ 40 (fun (v2 : Bool) => [(0, S t), (7, I ((rdVar t a).1)), (8, I ((rdVar t a).2.1)), (30, Bo v2)]) (fun v2 => v2 = (((!((rdVar t a).2.2)) || decide (((rdVar t a).1) > 20000)) || decide (((rdVar t a).1) > (IntKind.i64.wrap ((t.size : Int) - ((rdVar t a).2.1)))))) ?_ ?_
 refine CW.g XK 40 [.o 3] rfl rfl rfl ?_
 refine RW.gv rfl rfl rfl rfl (fun h3 => V.mv (d := I ((rdVar t a).1)) rfl rfl) (fun h3 => ?_) (fun h3 => ?_)
 refine RW.g XK 40 [.o 3] rfl rfl rfl ?_
 refine RW.gv rfl rfl rfl rfl (fun h4 => V.mv (d := I ((rdVar t a).1)) rfl rfl) (fun h4 => ?_) (fun h4 => ?_)
 refine RW.g XK 40 [.o 6,.p] rfl rfl rfl ?_
 exact ⟨_, by first | rfl | (simp_all; done) | (simp_all; omega) | grind, rfl, Le.of rfl⟩
 refine RW.g XK 40 [.o 6,.p] rfl rfl rfl ?_
 exact ⟨_, by first | rfl | (simp_all; done) | (simp_all; omega) | grind, rfl, Le.of rfl⟩
 refine RW.g XK 40 [.o 10,.p] rfl rfl rfl ?_
 exact ⟨_, by first | rfl | (simp_all; done) | (simp_all; omega) | grind, rfl, Le.of rfl⟩
 intro v2 hv5
 refine CW.cond rfl (fun h6 => ?_) (fun h6 => ?_)
 have hvv := hv5.symm.trans h6
 refine CW.g XK 40 [.n 1,.e [4,5,6]] rfl rfl rfl ?_
 refine CW.ret ?_
 exact Post.tup (by decide) (RVs.c (RV.s rfl (by rw [rdS_no hvv ht])) (RVs.c (RV.i rfl (by rw [rdS_no hvv ht])) (RVs.c (RV.b rfl (by rw [rdS_no hvv ht])) RVs.e))) (AOs.r (AOs.r AOs.e))
 have hvv := hv5.symm.trans h6
 refine CW.g XK 40 [.p,.e [0,7,8],.o 5] rfl rfl rfl ?_
 refine RW.v rfl (V.strSlice (l := ((rdVar t a).2.1)) (h := (IntKind.i64.wrap (((rdVar t a).2.1) + ((rdVar t a).1)))) rfl (by kernel_rfl) rfl (.inr ⟨_, _, rfl, rfl⟩) (.inr ⟨_, _, rfl, rfl⟩) (rdS_yes hvv ht).2) ?_
 refine RW.g XK 40 [.o 6,.p,.e [4,5,6]] rfl rfl rfl ?_
 refine CW.ret ?_
 exact Post.tup (by decide) (RVs.c (RV.s rfl (by rw [(rdS_yes hvv ht).1])) (RVs.c (RV.i rfl (by rw [(rdS_yes hvv ht).1])) (RVs.c (RV.b rfl (by rw [(rdS_yes hvv ht).1])) RVs.e))) (AOs.r (AOs.r AOs.e))
set_option maxHeartbeats 4000000 in
theorem spec_l16ReadShort_fn (c : l16Cur) (hs : c.sc.ok) : Eng.Fn E.P 65 [.ob ((l16Cur.c c).map .r)] (.one (.one (.w (.v (.string (shW c)))))) [.ob ((l16Cur.c (shC c)).map .r)] := by
 refine Eng.Fn.intro (E := E) (rvs := [.tmp 2]) Tryz.func65 rfl rfl rfl (by simp [outSlots, moved, rvSlot, sl]) ?_
 intro B g bo
 refine CW.g XK 35 [.e [0],.n 1,.e [0]] rfl rfl rfl ?_
 refine CW.anyJ2 (fc := [(0, (bo 0), [.string c.text, .int .i64 c.at_, .bool c.bad])]) (L0 := [(0, .obj (bo 0) ((l16Cur.c c).map .r))]) 35 (fun (go1_8_1 : (Nat → Nat → Value)) => [(3, S ((rdShort c.text c.at_).1)), (4, I ((rdShort c.text c.at_).2.1)), (5, Bo ((rdShort c.text c.at_).2.2))]) (fun all hall f hf b0 hb K hK => ?_) ?_
 have ro1_9 : ∀ B, ∀ (go1_8_1 : Nat → Nat → Value), RA f E B all 0 (bt 16 65535) ⟨35, [(3, S ((rdShort c.text c.at_).1)), (4, I ((rdShort c.text c.at_).2.1)), (5, Bo ((rdShort c.text c.at_).2.2))] ++ b0⟩ K := by
  intro B go1_8_1
  exact RA.of2 hall hf hb (RA.finH (Tell.of rfl) (by kernel_rfl) (hK go1_8_1 _ rfl (Le.of rfl)))
 have ro1_8 : ∀ B, ∀ (go1_8_1 : Nat → Nat → Value), RA f E B all 2 (bt 16 28671) ⟨35, [(3, S ((rdShort c.text c.at_).1)), (4, I ((rdShort c.text c.at_).2.1)), (6, .tup [.u, .u, Bo ((rdShort c.text c.at_).2.2)])] ++ b0⟩ K := by
  intro B go1_8_1
  refine RA.of2 hall hf hb (RA.stepH (L := [12]) (Tell.of rfl) (by kernel_rfl) (by simp) (RA.each ?_ (RA.each0)))
  refine RO.extract (d := Bo ((rdShort c.text c.at_).2.2)) rfl rfl rfl rfl rfl (by decide) (Nat.le_of_ble_eq_true rfl) rfl rfl ?_
  refine RA.fr XK 35 0 [15] (bt 16 65535) rfl rfl (by kernel_rfl) (Tell.of rfl) ?_
  (conv=>whnf);refine ⟨rfl,fun B=>?_⟩
  exact RA.to2 hall hf hb (ro1_9 B go1_8_1) rfl rfl (by kernel_rfl)
 have ro1_7 : ∀ B, ∀ (go1_8_1 : Nat → Nat → Value), RA f E B all 3 (bt 16 14335) ⟨35, [(3, S ((rdShort c.text c.at_).1)), (6, .tup [.u, I ((rdShort c.text c.at_).2.1), .u]), (18, Bo ((rdShort c.text c.at_).2.2))] ++ b0⟩ K := by
  intro B go1_8_1
  refine RA.of2 hall hf hb (RA.stepH (L := [11]) (Tell.of rfl) (by kernel_rfl) (by simp) (RA.each ?_ (RA.each0)))
  refine RO.extract (d := I ((rdShort c.text c.at_).2.1)) rfl rfl rfl rfl rfl (by decide) (Nat.le_of_ble_eq_true rfl) rfl rfl ?_
  refine RA.fr XK 35 0 [14,15] (bt 16 65535) rfl rfl (by kernel_rfl) (Tell.of rfl) ?_
  (conv=>whnf);refine ⟨rfl,fun B=>?_⟩
  exact RA.to2 hall hf hb (ro1_9 B go1_8_1) rfl rfl (by kernel_rfl)
 have ro1_6 : ∀ B, ∀ (go1_8_1 : Nat → Nat → Value), RA f E B all 4 (bt 16 7167) ⟨35, [(6, .tup [S ((rdShort c.text c.at_).1), .u, .u]), (17, I ((rdShort c.text c.at_).2.1)), (18, Bo ((rdShort c.text c.at_).2.2))] ++ b0⟩ K := by
  intro B go1_8_1
  refine RA.of2 hall hf hb (RA.stepH (L := [10]) (Tell.of rfl) (by kernel_rfl) (by simp) (RA.each ?_ (RA.each0)))
  refine RO.extract (d := S ((rdShort c.text c.at_).1)) rfl rfl rfl rfl rfl (by decide) (Nat.le_of_ble_eq_true rfl) rfl rfl ?_
  refine RA.fr XK 35 0 [13,14,15] (bt 16 65535) rfl rfl (by kernel_rfl) (Tell.of rfl) ?_
  (conv=>whnf);refine ⟨rfl,fun B=>?_⟩
  exact RA.to2 hall hf hb (ro1_9 B go1_8_1) rfl rfl (by kernel_rfl)
 have ro1_5 : ∀ B, ∀ (go1_8_1 : Nat → Nat → Value), RA f E B all 4 (bt 16 10239) ⟨35, [(3, S ((rdShort c.text c.at_).1)), (6, .tup [.u, I ((rdShort c.text c.at_).2.1), Bo ((rdShort c.text c.at_).2.2)])] ++ b0⟩ K := by
  intro B go1_8_1
  refine RA.of2 hall hf hb (RA.stepH (L := [11, 12]) (Tell.of rfl) (by kernel_rfl) (by simp) (RA.each ?_ (RA.each ?_ (RA.each0))))
  refine RO.extract (d := I ((rdShort c.text c.at_).2.1)) rfl rfl rfl rfl rfl (by decide) (Nat.le_of_ble_eq_true rfl) rfl rfl ?_
  refine RA.fr XK 35 2 [14] (bt 16 28671) rfl rfl (by kernel_rfl) (Tell.of rfl) ?_
  (conv=>whnf);refine ⟨rfl,fun B=>?_⟩
  exact RA.to2 hall hf hb (ro1_8 B go1_8_1) rfl rfl (by kernel_rfl)
  refine RO.extract (d := Bo ((rdShort c.text c.at_).2.2)) rfl rfl rfl rfl rfl (by decide) (Nat.le_of_ble_eq_true rfl) rfl rfl ?_
  exact RA.to2 hall hf hb (ro1_7 B go1_8_1) rfl rfl (by kernel_rfl)
 have ro1_4 : ∀ B, ∀ (go1_8_1 : Nat → Nat → Value), RA f E B all 5 (bt 16 5119) ⟨35, [(6, .tup [S ((rdShort c.text c.at_).1), I ((rdShort c.text c.at_).2.1), .u]), (18, Bo ((rdShort c.text c.at_).2.2))] ++ b0⟩ K := by
  intro B go1_8_1
  refine RA.of2 hall hf hb (RA.stepH (L := [10, 11]) (Tell.of rfl) (by kernel_rfl) (by simp) (RA.each ?_ (RA.each ?_ (RA.each0))))
  refine RO.extract (d := S ((rdShort c.text c.at_).1)) rfl rfl rfl rfl rfl (by decide) (Nat.le_of_ble_eq_true rfl) rfl rfl ?_
  refine RA.fr XK 35 3 [13] (bt 16 14335) rfl rfl (by kernel_rfl) (Tell.of rfl) ?_
  (conv=>whnf);refine ⟨rfl,fun B=>?_⟩
  exact RA.to2 hall hf hb (ro1_7 B go1_8_1) rfl rfl (by kernel_rfl)
  refine RO.extract (d := I ((rdShort c.text c.at_).2.1)) rfl rfl rfl rfl rfl (by decide) (Nat.le_of_ble_eq_true rfl) rfl rfl ?_
  exact RA.to2 hall hf hb (ro1_6 B go1_8_1) rfl rfl (by kernel_rfl)
 have ro1_3 : ∀ B, ∀ (go1_8_1 : Nat → Nat → Value), RA f E B all 5 (bt 16 3071) ⟨35, [(6, .tup [S ((rdShort c.text c.at_).1), .u, Bo ((rdShort c.text c.at_).2.2)]), (17, I ((rdShort c.text c.at_).2.1))] ++ b0⟩ K := by
  intro B go1_8_1
  refine RA.of2 hall hf hb (RA.stepH (L := [10, 12]) (Tell.of rfl) (by kernel_rfl) (by simp) (RA.each ?_ (RA.each ?_ (RA.each0))))
  refine RO.extract (d := S ((rdShort c.text c.at_).1)) rfl rfl rfl rfl rfl (by decide) (Nat.le_of_ble_eq_true rfl) rfl rfl ?_
  refine RA.fr XK 35 2 [13,14] (bt 16 28671) rfl rfl (by kernel_rfl) (Tell.of rfl) ?_
  (conv=>whnf);refine ⟨rfl,fun B=>?_⟩
  exact RA.to2 hall hf hb (ro1_8 B go1_8_1) rfl rfl (by kernel_rfl)
  refine RO.extract (d := Bo ((rdShort c.text c.at_).2.2)) rfl rfl rfl rfl rfl (by decide) (Nat.le_of_ble_eq_true rfl) rfl rfl ?_
  exact RA.to2 hall hf hb (ro1_6 B go1_8_1) rfl rfl (by kernel_rfl)
 have ro1_2 : ∀ B, ∀ (go1_8_1 : Nat → Nat → Value), RA f E B all 6 (bt 16 1023) ⟨35, [(6, .tup [S ((rdShort c.text c.at_).1), I ((rdShort c.text c.at_).2.1), Bo ((rdShort c.text c.at_).2.2)])] ++ b0⟩ K := by
  intro B go1_8_1
  refine RA.of2 hall hf hb (RA.stepH (L := [10, 11, 12]) (Tell.of rfl) (by kernel_rfl) (by simp) (RA.each ?_ (RA.each ?_ (RA.each ?_ (RA.each0)))))
  refine RO.extract (d := S ((rdShort c.text c.at_).1)) rfl rfl rfl rfl rfl (by decide) (Nat.le_of_ble_eq_true rfl) rfl rfl ?_
  refine RA.fr XK 35 4 [13] (bt 16 10239) rfl rfl (by kernel_rfl) (Tell.of rfl) ?_
  (conv=>whnf);refine ⟨rfl,fun B=>?_⟩
  exact RA.to2 hall hf hb (ro1_5 B go1_8_1) rfl rfl (by kernel_rfl)
  refine RO.extract (d := I ((rdShort c.text c.at_).2.1)) rfl rfl rfl rfl rfl (by decide) (Nat.le_of_ble_eq_true rfl) rfl rfl ?_
  exact RA.to2 hall hf hb (ro1_3 B go1_8_1) rfl rfl (by kernel_rfl)
  refine RO.extract (d := Bo ((rdShort c.text c.at_).2.2)) rfl rfl rfl rfl rfl (by decide) (Nat.le_of_ble_eq_true rfl) rfl rfl ?_
  exact RA.to2 hall hf hb (ro1_4 B go1_8_1) rfl rfl (by kernel_rfl)
 have ro1_1 : ∀ B, ∀ (go1_8_1 : Nat → Nat → Value), RA f E B all 7 (bt 16 511) ⟨35, [(15, .tup [S ((rdShort c.text c.at_).1), I ((rdShort c.text c.at_).2.1), Bo ((rdShort c.text c.at_).2.2)])] ++ b0⟩ K := by
  intro B go1_8_1
  refine RA.of2 hall hf hb (RA.stepH (L := [9]) (Tell.of rfl) (by kernel_rfl) (by simp) (RA.each ?_ (RA.each0)))
  refine RO.moveMove rfl rfl rfl rfl rfl (by decide) (Nat.le_of_ble_eq_true rfl) (Nat.le_of_ble_eq_true rfl) ?_
  exact RA.to2 hall hf hb (ro1_2 B go1_8_1) rfl rfl (by kernel_rfl)
 have ro1_0 : ∀ B, RA f E B all 8 (bt 16 255) ⟨35, [(10, S c.text), (14, I c.at_)] ++ b0⟩ K := by
  intro B
  refine RA.of2 hall hf hb (RA.stepH (L := [8]) (Tell.of rfl) (by kernel_rfl) (by simp) (RA.each ?_ (RA.each0)))
  refine RO.call rfl rfl (spec_ReadShort_fn c.text c.at_ hs.2.2) rfl (.cons (.one (.r .r)) (.cons (.one (.r .r)) (.nil))) rfl fun go1_8_1 => ?_
  exact RA.to2 hall hf hb (ro1_1 B go1_8_1) rfl rfl (by kernel_rfl)
 refine RA.start (by kernel_rfl) (by kernel_rfl) (m := 16) (ls' := (bt 16 0)) ?_
 refine RA.fr XK 35 8 [0,1,2,3,4,5,6,7] (bt 16 255) rfl rfl (by kernel_rfl) (Tell.of rfl) ?_
 (conv=>whnf);refine ⟨rfl,fun B=>?_⟩
 exact RA.to2 hall hf hb (ro1_0 B) rfl rfl (by kernel_rfl)
 rintro go1_8_1
 refine CW.g XK 35 [.p] rfl rfl rfl ?_
 refine CW.seqJ 35 (fun (v2 : Bool) => [(0, .obj (bo 0) ((l16Cur.c c).map .r)), (3, S ((rdShort c.text c.at_).1)), (4, I ((rdShort c.text c.at_).2.1)), (26, Bo v2)]) (fun v2 => v2 = (c.bad || (!((rdShort c.text c.at_).2.2)))) ?_ ?_
 refine CW.g XK 35 [.o 5] rfl rfl rfl ?_
 refine RW.gv rfl rfl rfl rfl (fun h3 => V.mv (d := Bo ((rdShort c.text c.at_).2.2)) rfl rfl) (fun h3 => ?_) (fun h3 => ?_)
 refine RW.g XK 35 [.o 2,.p] rfl rfl rfl ?_
 exact ⟨_, by first | rfl | (simp_all; done) | (simp_all; omega) | grind, rfl, Le.of rfl⟩
 refine RW.g XK 35 [.o 2,.p] rfl rfl rfl ?_
 exact ⟨_, by first | rfl | (simp_all; done) | (simp_all; omega) | grind, rfl, Le.of rfl⟩
 intro v2 hv4
 refine CW.cond rfl (fun h5 => ?_) (fun h5 => ?_)
 have hvv := hv4.symm.trans h5
 refine CW.g XK 35 [.n 2,.e [0,2]] rfl rfl rfl ?_
 refine CW.ret ?_
 exact Post.one (RV.s rfl (by simp only [shW, numV, numS, shV, shS, l16Cur.sc]; rw [scShort, if_pos hvv])) (AOs.obE (f := fun e => (l16Cur.c e).map .r) (e' := (⟨c.text, c.at_, true⟩ : l16Cur)) rfl (DT.r (DT.r (DT.r DT.e))) (by simp only [shC, numV, numS, shV, shS, l16Cur.sc]; rw [scShort, if_pos hvv]) AOs.e)
 have hvv := hv4.symm.trans h5
 refine CW.g XK 35 [.p,.e [0,3,4],.n 2,.e [0,2]] rfl rfl rfl ?_
 refine CW.ret ?_
 exact Post.one (RV.s rfl (by simp only [shW, numV, numS, shV, shS, l16Cur.sc]; rw [scShort, if_neg (by rw [hvv]; simp)])) (AOs.obE (f := fun e => (l16Cur.c e).map .r) (e' := (⟨c.text, ((rdShort c.text c.at_).2.1), c.bad⟩ : l16Cur)) rfl (DT.r (DT.r (DT.r DT.e))) (by simp only [shC, numV, numS, shV, shS, l16Cur.sc]; rw [scShort, if_neg (by rw [hvv]; simp), (Bool.or_eq_false_iff.1 hvv).1]) AOs.e)
set_option maxHeartbeats 4000000 in
theorem spec_CommandOk_fn (x : Command) : Eng.Fn E.P 68 [.agg ((Command.c x).map .r)] (.one (.one (.w (.v (.bool (cmdOk x)))))) [.agg ((Command.c x).map .r)] := by
 refine Eng.Fn.intro (E := E) (rvs := [.tmp 2]) Tryz.func68 rfl rfl rfl (by simp [outSlots, moved, rvSlot, sl]) ?_
 intro B g bo
 refine CW.h XK 76 [.e [0],.o 1] rfl ?_;(conv=>whnf);intro b1;(conv=>whnf);refine ⟨rfl,?_⟩
 refine RW.freezeB (ts := (Command.c x)) 1 rfl (DRd.r (DRd.r (DRd.r (DRd.r (DRd.r (DRd.r DRd.e)))))) ?_
 refine RW.g XK 76 [.o 1,.p,.e [1],.p] rfl rfl rfl ?_
 refine CW.seqJ 76 (fun (v2 : Bool) => [(1, .rp (Command.c x)), (18, Bo v2)]) (fun v2 => v2 = (((!(inR x.token 0 1000000)) || (!(inR x.seq 0 1000000))) || (!(inR x.op 1 5)))) ?_ ?_
 refine CW.g XK 76 [.o 2] rfl rfl rfl ?_
 refine RW.call rfl (spec_l01In_fn x.token 0 1000000) rfl (.cons (.one (.r .r)) (.cons (.one (.r .r)) (.cons (.one (.r .r)) (.nil)))) fun g3 => ?_
 refine RW.g XK 76 [.o 2] rfl rfl rfl ?_
 refine RW.gv rfl rfl rfl rfl (fun h4 => V.fieldR rfl rfl rfl rfl (by decide) rfl (Nat.le_of_ble_eq_true rfl)) (fun h4 => ?_) (fun h4 => ?_)
 refine RW.g XK 76 [.o 1] rfl rfl rfl ?_
 refine RW.gcall rfl rfl rfl rfl (spec_l01In_fn x.seq 0 1000000) rfl (.cons (.one (.r .r)) (.cons (.one (.r .r)) (.cons (.one (.r .r)) (.nil)))) fun g5 => ?_
 refine RW.g XK 76 [.o 3] rfl rfl rfl ?_
 refine RW.gv rfl rfl rfl rfl (fun h6 => V.fieldR rfl rfl rfl rfl (by decide) rfl (Nat.le_of_ble_eq_true rfl)) (fun h6 => ?_) (fun h6 => ?_)
 refine RW.g XK 76 [.o 1] rfl rfl rfl ?_
 refine RW.gcall rfl rfl rfl rfl (spec_l01In_fn x.op 1 5) rfl (.cons (.one (.r .r)) (.cons (.one (.r .r)) (.cons (.one (.r .r)) (.nil)))) fun g7 => ?_
 refine RW.g XK 76 [.o 2,.p] rfl rfl rfl ?_
 exact ⟨_, by first | rfl | (simp_all; done) | (simp_all; omega) | grind, rfl, Le.of rfl⟩
 refine RW.g XK 76 [.o 4,.p] rfl rfl rfl ?_
 exact ⟨_, by first | rfl | (simp_all; done) | (simp_all; omega) | grind, rfl, Le.of rfl⟩
 refine RW.g XK 76 [.o 10,.p] rfl rfl rfl ?_
 exact ⟨_, by first | rfl | (simp_all; done) | (simp_all; omega) | grind, rfl, Le.of rfl⟩
 intro v2 hv8
 refine CW.cond rfl (fun h9 => ?_) (fun h9 => ?_)
 refine CW.g XK 76 [.n 1,.e [2]] rfl rfl rfl ?_
 refine CW.ret ?_
 exact Post.one (RV.b rfl q10) (AOs.a rfl AOs.e)
 refine CW.g XK 76 [.p,.e [1],.n 1,.e [1,21]] rfl rfl rfl ?_
 refine CW.cond rfl (fun h10 => ?_) (fun h10 => ?_)
 refine CW.seqJ 76 (fun (v11 : Bool) => [(2, Bo v11)]) (fun v11 => v11 = (((((x.token == 0) && (x.seq == 0)) && (x.key.toList == (⟨#[]⟩ : ByteArray).toList)) && (x.val.toList == (⟨#[]⟩ : ByteArray).toList)) && (x.ver == 0))) ?_ ?_
 refine CW.g XK 76 [.o 4] rfl rfl rfl ?_
 refine RW.gv rfl rfl rfl rfl (fun h12 => V.fieldR rfl rfl rfl rfl (by decide) rfl (Nat.le_of_ble_eq_true rfl)) (fun h12 => ?_) (fun h12 => ?_)
 refine RW.g XK 76 [.o 4] rfl rfl rfl ?_
 refine RW.gv rfl rfl rfl rfl (fun h13 => V.fieldR rfl rfl rfl rfl (by decide) rfl (Nat.le_of_ble_eq_true rfl)) (fun h13 => ?_) (fun h13 => ?_)
 refine RW.g XK 76 [.o 4] rfl rfl rfl ?_
 refine RW.gv rfl rfl rfl rfl (fun h14 => V.fieldR rfl rfl rfl rfl (by decide) rfl (Nat.le_of_ble_eq_true rfl)) (fun h14 => ?_) (fun h14 => ?_)
 refine RW.g XK 76 [.o 4] rfl rfl rfl ?_
 refine RW.gv rfl rfl rfl rfl (fun h15 => V.fieldR rfl rfl rfl rfl (by decide) rfl (Nat.le_of_ble_eq_true rfl)) (fun h15 => ?_) (fun h15 => ?_)
 refine RW.g XK 76 [.o 4,.p] rfl rfl rfl ?_
 exact ⟨_, by first | rfl | (simp_all; done) | (simp_all; omega) | grind, rfl, Le.of rfl⟩
 refine RW.g XK 76 [.o 4,.p] rfl rfl rfl ?_
 exact ⟨_, by first | rfl | (simp_all; done) | (simp_all; omega) | grind, rfl, Le.of rfl⟩
 refine RW.g XK 76 [.o 9,.p] rfl rfl rfl ?_
 exact ⟨_, by first | rfl | (simp_all; done) | (simp_all; omega) | grind, rfl, Le.of rfl⟩
 refine RW.g XK 76 [.o 14,.p] rfl rfl rfl ?_
 exact ⟨_, by first | rfl | (simp_all; done) | (simp_all; omega) | grind, rfl, Le.of rfl⟩
 refine RW.g XK 76 [.o 19,.p] rfl rfl rfl ?_
 exact ⟨_, by first | rfl | (simp_all; done) | (simp_all; omega) | grind, rfl, Le.of rfl⟩
 intro v11 hv16
 refine CW.ret ?_
 exact Post.one (RV.b rfl q10) (AOs.a rfl AOs.e)
 refine CW.g XK 76 [.p,.e [1],.p] rfl rfl rfl ?_
 refine CW.seqJ 76 (fun (v17 : Bool) => [(1, .rp (Command.c x)), (55, Bo v17)]) (fun v17 => v17 = ((!(inR (x.key.size : Int) 1 8)) || decide ((x.val.size : Int) > 20))) ?_ ?_
 refine CW.g XK 76 [.o 3] rfl rfl rfl ?_
 refine RW.call rfl (spec_l01In_fn (x.key.size : Int) 1 8) rfl (.cons (.one (.r .r)) (.cons (.one (.r .r)) (.cons (.one (.r .r)) (.nil)))) fun g18 => ?_
 refine RW.g XK 76 [.o 2] rfl rfl rfl ?_
 refine RW.gv rfl rfl rfl rfl (fun h19 => V.fieldR rfl rfl rfl rfl (by decide) rfl (Nat.le_of_ble_eq_true rfl)) (fun h19 => ?_) (fun h19 => ?_)
 refine RW.g XK 76 [.o 4,.p] rfl rfl rfl ?_
 exact ⟨_, by first | rfl | (simp_all; done) | (simp_all; omega) | grind, rfl, Le.of rfl⟩
 refine RW.g XK 76 [.o 4,.p] rfl rfl rfl ?_
 exact ⟨_, by first | rfl | (simp_all; done) | (simp_all; omega) | grind, rfl, Le.of rfl⟩
 intro v17 hv20
 refine CW.cond rfl (fun h21 => ?_) (fun h21 => ?_)
 refine CW.g XK 76 [.n 1,.e [2]] rfl rfl rfl ?_
 refine CW.ret ?_
 exact Post.one (RV.b rfl q10) (AOs.a rfl AOs.e)
 refine CW.g XK 76 [.p,.e [1],.n 1,.e [1,57],.n 1,.e [1,57,58]] rfl rfl rfl ?_
 refine CW.cond rfl (fun h22 => ?_) (fun h22 => ?_)
 refine CW.g XK 76 [.n 1,.e [2]] rfl rfl rfl ?_
 refine CW.ret ?_
 exact Post.one (RV.b rfl q10) (AOs.a rfl AOs.e)
 refine CW.g XK 76 [.n 1,.e [1,63]] rfl rfl rfl ?_
 refine CW.cond rfl (fun h23 => ?_) (fun h23 => ?_)
 refine CW.g XK 76 [.o 2] rfl rfl rfl ?_
 refine RW.call rfl (spec_l01In_fn x.ver 1 1000000000) rfl (.cons (.one (.r .r)) (.cons (.one (.r .r)) (.cons (.one (.r .r)) (.nil)))) fun g24 => ?_
 refine RW.g XK 76 [.o 1,.p,.e [2]] rfl rfl rfl ?_
 refine CW.ret ?_
 exact Post.one (RV.b rfl q10) (AOs.a rfl AOs.e)
 refine CW.g XK 76 [.p,.e [1]] rfl rfl rfl ?_
 refine CW.seqJ 76 (fun (v25 : Bool) => [(2, Bo v25)]) (fun v25 => v25 = ((x.val.toList == (⟨#[]⟩ : ByteArray).toList) && (x.ver == 0))) ?_ ?_
 refine CW.g XK 76 [.o 4] rfl rfl rfl ?_
 refine RW.gv rfl rfl rfl rfl (fun h26 => V.fieldR rfl rfl rfl rfl (by decide) rfl (Nat.le_of_ble_eq_true rfl)) (fun h26 => ?_) (fun h26 => ?_)
 refine RW.g XK 76 [.o 4,.p] rfl rfl rfl ?_
 exact ⟨_, by first | rfl | (simp_all; done) | (simp_all; omega) | grind, rfl, Le.of rfl⟩
 refine RW.g XK 76 [.o 4,.p] rfl rfl rfl ?_
 exact ⟨_, by first | rfl | (simp_all; done) | (simp_all; omega) | grind, rfl, Le.of rfl⟩
 intro v25 hv27
 refine CW.ret ?_
 exact Post.one (RV.b rfl q10) (AOs.a rfl AOs.e)
end Go.Proofs.YtdipdkfbaehglaaGreatDoor.Y
