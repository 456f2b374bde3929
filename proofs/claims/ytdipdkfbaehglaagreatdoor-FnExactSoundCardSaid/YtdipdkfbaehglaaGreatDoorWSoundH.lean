import Derived.Test.YtdipdkfbaehglaaGreatDoorWSoundG
namespace Go.Proofs.YtdipdkfbaehglaaGreatDoor.Y
open Go Go.RowKit Go.Eng Go.Proofs
set_option maxRecDepth 10000
set_option maxHeartbeats 4000000 in
theorem spec_Perform_fn (k : Keep) (n : Int) (x : Command) (hok : okToKeep k) : Eng.Fn E.P 25 [.agg ((Keep.c k).map .r), .one (.r (.v (.int .i64 n))), .agg ((Command.c x).map .r)] (.tup [.agg ((Keep.c ((perfK k n x).1)).map .r), .one (.w (.v (.string ((perfK k n x).2.1)))), .one (.w (.v (.bool ((perfK k n x).2.2))))]) [.agg ((Keep.c k).map .r), .one (.r (.v (.int .i64 n))), .agg ((Command.c x).map .r)] := by
 refine Eng.Fn.intro (E := E) (rvs := [.cell 6 59, .tmp 7, .tmp 8]) Tryz.func25 rfl rfl rfl (by simp [outSlots, moved, rvSlot, sl]) ?_
 intro B g bo
 refine CW.g XK 120 [.e [0,1,2]] rfl rfl rfl ?_
 have hl1 : k.sessions.length ≤ maxLen := by have := hok.1.1; simp only [maxLen]; omega
 have hl2 : k.items.length ≤ maxLen := by have := hok.2.1; simp only [maxLen]; omega
 refine CW.h XK 120 [.o 1] rfl ?_;(conv=>whnf);intro b1;(conv=>whnf);refine ⟨rfl,?_⟩
 refine RW.freezeB (ts := (Keep.c k)) 3 rfl (DRd.r (DRd.r DRd.e)) ?_
 refine RW.h XK 120 [.o 1] rfl ?_;(conv=>whnf);intro b2;(conv=>whnf);refine ⟨rfl,?_⟩
 refine RW.freezeB (ts := (Command.c x)) 5 rfl (DRd.r (DRd.r (DRd.r (DRd.r (DRd.r (DRd.r DRd.e)))))) ?_
 refine RW.h XK 120 [.o 3,.p,.e [1,3,5,6],.p] rfl ?_;(conv=>whnf);intro b3;(conv=>whnf);refine ⟨rfl,?_⟩
 refine CW.seqJ 120 (fun (v4 : Bool) => [(1, I n), (3, .rp (Keep.c k)), (5, .rp (Command.c x)), (6, .obj b3 [.r (.v (.slice none 0 0)), .r (.v (.slice none 0 0))]), (32, Bo v4)]) (fun v4 => v4 = ((((!(keepOk k)) || (!(inR n 1 1000000))) || decide (n > 400000)) || (!(cmdOk x)))) ?_ ?_
 refine CW.g XK 120 [.o 1] rfl rfl rfl ?_
 refine RW.call rfl (spec_KeepOk_fn k hok) rfl (.cons (.agg (.cons (.r .r) (.cons (.r .r) (.nil)))) (.nil)) fun g5 => ?_
 refine RW.g XK 120 [.o 2] rfl rfl rfl ?_
 refine RW.gv rfl rfl rfl rfl (fun h6 => V.mv (d := I n) rfl rfl) (fun h6 => ?_) (fun h6 => ?_)
 refine RW.gcall rfl rfl rfl rfl (spec_l01In_fn n 1 1000000) rfl (.cons (.one (.r .r)) (.cons (.one (.r .r)) (.cons (.one (.r .r)) (.nil)))) fun g7 => ?_
 refine RW.g XK 120 [.o 3] rfl rfl rfl ?_
 refine RW.gv rfl rfl rfl rfl (fun h8 => V.mv (d := I n) rfl rfl) (fun h8 => ?_) (fun h8 => ?_)
 refine RW.g XK 120 [.o 3] rfl rfl rfl ?_
 refine RW.gv rfl rfl rfl rfl (fun h9 => V.loadAggR rfl rfl rfl rfl (Nat.le_of_ble_eq_true rfl)) (fun h9 => ?_) (fun h9 => ?_)
 refine RW.gcall rfl rfl rfl rfl (spec_CommandOk_fn x) rfl (.cons (.agg (.cons (.r .r) (.cons (.r .r) (.cons (.r .r) (.cons (.r .r) (.cons (.r .r) (.cons (.r .r) (.nil)))))))) (.nil)) fun g10 => ?_
 refine RW.g XK 120 [.o 2,.p] rfl rfl rfl ?_
 exact ⟨_, by first | rfl | (simp_all; done) | (simp_all; omega) | grind, rfl, Le.of rfl⟩
 refine RW.g XK 120 [.o 3,.p] rfl rfl rfl ?_
 exact ⟨_, by first | rfl | (simp_all; done) | (simp_all; omega) | grind, rfl, Le.of rfl⟩
 refine RW.g XK 120 [.o 7,.p] rfl rfl rfl ?_
 exact ⟨_, by first | rfl | (simp_all; done) | (simp_all; omega) | grind, rfl, Le.of rfl⟩
 refine RW.g XK 120 [.o 12,.p] rfl rfl rfl ?_
 exact ⟨_, by first | rfl | (simp_all; done) | (simp_all; omega) | grind, rfl, Le.of rfl⟩
 intro v4 hv11
 refine CW.cond rfl (fun h12 => ?_) (fun h12 => ?_)
 refine CW.g XK 120 [.n 1,.e [6,7,8]] rfl rfl rfl ?_
 refine CW.ret ?_
 exact Post.tup (by decide) (RVs.c (RV.c (f := fun e => (Keep.c e).map .r) (e' := (⟨[], []⟩ : Keep)) rfl rfl rfl rfl (DT.nr (DT.nr DT.e)) q34) (RVs.c (RV.s rfl q34) (RVs.c (RV.b rfl q34) RVs.e))) (AOs.a rfl (AOs.r (AOs.a rfl AOs.e)))
 have hpf : PfOk k n x := PfOk.of (by rw [hv11, pfS] at h12; simpa using h12)
 refine CW.g XK 120 [.p,.e [1,3,5,6],.n 1,.e [1,3,5,6,36]] rfl rfl rfl ?_
 refine CW.cond rfl (fun h13 => ?_) (fun h13 => ?_)
 refine CW.g XK 120 [.o 2] rfl rfl rfl ?_
 refine RW.call rfl (spec_l15Open_fn k n hok hpf.k hpf.n) rfl (.cons (.agg (.cons (.r .r) (.cons (.r .r) (.nil)))) (.cons (.one (.r .r)) (.nil))) fun g14 => ?_
 refine RW.h XK 120 [.o 5,.e [6,9,41,42]] rfl ?_;(conv=>whnf);intro b15;(conv=>whnf);refine ⟨rfl,?_⟩
 refine RW.pullA (k := 9) (l := 41) (j := 0) 9 41 0 rfl rfl rfl (by decide) rfl rfl rfl rfl ?_
 refine RW.g XK 120 [.e [6,9,41,42]] rfl rfl rfl ?_
 refine RW.pullA (k := 9) (l := 41) (j := 1) 9 41 1 rfl rfl rfl (by decide) rfl rfl rfl rfl ?_
 refine RW.g XK 120 [.e [6,9,42],.o 1,.p,.e [6,9,10],.o 3,.e [6,9,44]] rfl rfl rfl ?_
 refine RW.pullO (k := 6) (l := 9) (j := 0) 6 9 0 rfl rfl rfl (by decide) rfl rfl rfl rfl ?_
 refine RW.g XK 120 [.e [6,9,44]] rfl rfl rfl ?_
 refine RW.pullO (k := 6) (l := 9) (j := 1) 6 9 1 rfl rfl rfl (by decide) rfl rfl rfl rfl ?_
 refine RW.g XK 120 [.e [6,44],.o 2,.p,.e [6,7,8]] rfl rfl rfl ?_
 refine CW.freeze 6 (d' := .obj b3 ((Keep.c (openK k n)).map .r)) rfl rfl ?_
 refine CW.ret ?_
 exact Post.tup (by decide) (RVs.c (RV.c (f := fun e => (Keep.c e).map .r) (e' := (openK k n)) rfl rfl rfl rfl (DT.r (DT.r DT.e)) (by rw [perf_open hpf h13] <;> rfl)) (RVs.c (RV.s rfl (by rw [perf_open hpf h13] <;> rfl)) (RVs.c (RV.b rfl (by rw [perf_open hpf h13] <;> rfl)) RVs.e))) (AOs.a rfl (AOs.r (AOs.a rfl AOs.e)))
 refine CW.g XK 120 [.p,.e [1,3,5,6],.n 1,.e [1,3,5,6,11],.n 1,.e [1,3,5,6,11,12],.p] rfl rfl rfl ?_
 refine CW.loopI 120 (fun (zz : Nat × Int) => match zz with | (i, a) => [(1, I n), (3, .rp (Keep.c k)), (5, .rp (Command.c x)), (6, .obj b3 [.r (.v (.slice none 0 0)), .r (.v (.slice none 0 0))]), (11, I a), (12, I (i : Int))]) (fun (zz : Nat × Int) => match zz with | (i, a) => SP k x i a) (fun (zz : Nat × Int) => match zz with | (i, a) => k.sessions.length - i) (0, _) rfl (Le.c rfl <| Le.c rfl <| Le.c rfl <| Le.c rfl <| Le.c rfl <| Le.c rfl <| Le.e) (SP.init _ _) ?_
 rintro ⟨i, a⟩ hP
 have hPe := hP.le
 refine CW.g XK 120 [.n 1,.e [1,3,5,6,11,12,49]] rfl rfl rfl ?_
 refine CW.cond rfl (fun h16 => ?_) (fun h16 => ?_)
 have hii : i < k.sessions.length := by have := h16; simp at this; first | exact this | omega | (simp; done) | (simp; omega)
 obtain ⟨ei, hei⟩ : ∃ e, k.sessions[i]? = some e := ⟨_, List.getElem?_eq_getElem hii⟩
 have hdi := drop_get hei
 refine CW.g XK 120 [.p,.e [1,3,5,6,11,12],.p,.p,.p] rfl rfl rfl ?_
 refine CW.drawn (by kernel_rfl) ?_
 refine RQ.k XK 120 3 rfl ?_
 (conv=>whnf);refine ⟨rfl,?_⟩
 refine RQ.v rfl (V.indexS rfl rfl rfl rfl rfl rfl Session.len hei) ?_
 refine RQ.k XK 120 5 rfl ?_
 (conv=>whnf);refine ⟨rfl,?_⟩
 refine RQ.nil ?_
 refine CW.g XK 120 [.e [1,3,5,6,11,12,60]] rfl rfl rfl ?_
 refine CW.cond rfl (fun h17 => ?_) (fun h17 => ?_)
 refine CW.g XK 120 [.o 2,.p,.e [1,3,5,6,11,12],.o 1] rfl rfl rfl ?_
 refine RW.v rfl (V.inc rfl rfl rfl hii hl1) ?_
 refine RW.g XK 120 [.o 1,.p] rfl rfl rfl ?_
 exact ⟨(i + 1, (i : Int)), by simp only []; omega, (by first | exact hP.hit hpf.k hei (by assumption) | exact hP.miss hei (by assumption)), rfl, Le.c rfl <| Le.c rfl <| Le.c rfl <| Le.c rfl <| Le.c rfl <| Le.c rfl <| Le.e⟩
 refine CW.g XK 120 [.p,.e [1,3,5,6,11,12],.o 1] rfl rfl rfl ?_
 refine RW.v rfl (V.inc rfl rfl rfl hii hl1) ?_
 refine RW.g XK 120 [.o 1,.p] rfl rfl rfl ?_
 exact ⟨(i + 1, a), by simp only []; omega, (by first | exact hP.hit hpf.k hei (by assumption) | exact hP.miss hei (by assumption)), rfl, Le.c rfl <| Le.c rfl <| Le.c rfl <| Le.c rfl <| Le.c rfl <| Le.c rfl <| Le.e⟩
 have hii : k.sessions.length ≤ i := by have := h16; simp at this; first | exact this | omega | (simp; done) | (simp; omega)
 have hdi : k.sessions.drop i = [] := List.drop_eq_nil_of_le hii
 refine CW.exit ?_
 refine CW.g XK 120 [.e [1,3,5,6,11],.n 1,.e [1,3,5,6,11,63]] rfl rfl rfl ?_
 refine CW.cond rfl (fun h18 => ?_) (fun h18 => ?_)
 have hno := hP.none h18
 refine CW.g XK 120 [.o 1] rfl rfl rfl ?_
 refine RW.call rfl (spec_l15Copy_fn k hok) rfl (.cons (.agg (.cons (.r .r) (.cons (.r .r) (.nil)))) (.nil)) fun g19 => ?_
 refine RW.g XK 120 [.o 1,.e [6,65]] rfl rfl rfl ?_
 refine RW.pullA (k := 6) (l := 65) (j := 0) 6 65 0 rfl rfl rfl (by decide) rfl rfl rfl rfl ?_
 refine RW.g XK 120 [.e [6,65]] rfl rfl rfl ?_
 refine RW.pullA (k := 6) (l := 65) (j := 1) 6 65 1 rfl rfl rfl (by decide) rfl rfl rfl rfl ?_
 refine RW.g XK 120 [.e [6],.o 2,.p,.e [6,7,8]] rfl rfl rfl ?_
 refine CW.freeze 6 (d' := .obj b3 ((Keep.c k).map .r)) rfl rfl ?_
 refine CW.ret ?_
 exact Post.tup (by decide) (RVs.c (RV.c (f := fun e => (Keep.c e).map .r) (e' := k) rfl rfl rfl rfl (DT.r (DT.r DT.e)) (by rw [perf_none hpf h13 hno hii] <;> rfl)) (RVs.c (RV.s rfl (by rw [perf_none hpf h13 hno hii] <;> rfl)) (RVs.c (RV.b rfl (by rw [perf_none hpf h13 hno hii] <;> rfl)) RVs.e))) (AOs.a rfl (AOs.r (AOs.a rfl AOs.e)))
 obtain ⟨m, es, rfl, hat⟩ := hP.some h18
 refine CW.g XK 120 [.p,.e [1,3,5,6,11],.o 3] rfl rfl rfl ?_
 refine RW.v rfl (V.indexS rfl rfl rfl rfl rfl rfl Session.len hat.fs) ?_
 refine RW.h XK 120 [.o 3] rfl ?_;(conv=>whnf);intro b20;(conv=>whnf);refine ⟨rfl,?_⟩
 refine RW.freezeB (ts := (Session.c es)) 13 rfl (DRd.r (DRd.r (DRd.r DRd.e))) ?_
 refine RW.g XK 120 [.p,.e [1,3,5,6,11,13],.p] rfl rfl rfl ?_
 refine CW.seqJ 120 (fun (v21 : Bool) => [(1, I n), (3, .rp (Keep.c k)), (5, .rp (Command.c x)), (6, .obj b3 [.r (.v (.slice none 0 0)), .r (.v (.slice none 0 0))]), (11, I (m : Int)), (13, .rp (Session.c es)), (80, Bo v21)]) (fun v21 => v21 = ((x.seq == 0) || decide (x.seq < es.last))) ?_ ?_
 refine CW.g XK 120 [.o 4] rfl rfl rfl ?_
 refine RW.gv rfl rfl rfl rfl (fun h22 => V.fieldR rfl rfl rfl rfl (by decide) rfl (Nat.le_of_ble_eq_true rfl)) (fun h22 => ?_) (fun h22 => ?_)
 refine RW.g XK 120 [.o 5,.p] rfl rfl rfl ?_
 exact ⟨_, by first | rfl | (simp_all; done) | (simp_all; omega) | grind, rfl, Le.of rfl⟩
 refine RW.g XK 120 [.o 5,.p] rfl rfl rfl ?_
 exact ⟨_, by first | rfl | (simp_all; done) | (simp_all; omega) | grind, rfl, Le.of rfl⟩
 intro v21 hv23
 refine CW.cond rfl (fun h24 => ?_) (fun h24 => ?_)
 refine CW.g XK 120 [.o 1] rfl rfl rfl ?_
 refine RW.call rfl (spec_l15Copy_fn k hok) rfl (.cons (.agg (.cons (.r .r) (.cons (.r .r) (.nil)))) (.nil)) fun g25 => ?_
 refine RW.g XK 120 [.o 1,.e [6,82]] rfl rfl rfl ?_
 refine RW.pullA (k := 6) (l := 82) (j := 0) 6 82 0 rfl rfl rfl (by decide) rfl rfl rfl rfl ?_
 refine RW.g XK 120 [.e [6,82]] rfl rfl rfl ?_
 refine RW.pullA (k := 6) (l := 82) (j := 1) 6 82 1 rfl rfl rfl (by decide) rfl rfl rfl rfl ?_
 refine RW.g XK 120 [.e [6],.o 2,.p,.e [6,7,8]] rfl rfl rfl ?_
 refine CW.freeze 6 (d' := .obj b3 ((Keep.c k).map .r)) rfl rfl ?_
 refine CW.ret ?_
 exact Post.tup (by decide) (RVs.c (RV.c (f := fun e => (Keep.c e).map .r) (e' := k) rfl rfl rfl rfl (DT.r (DT.r DT.e)) q47) (RVs.c (RV.s rfl q47) (RVs.c (RV.b rfl q47) RVs.e))) (AOs.a rfl (AOs.r (AOs.a rfl AOs.e)))
 refine CW.g XK 120 [.p,.e [1,3,5,6,11,13],.n 1,.e [1,3,5,6,11,13,87]] rfl rfl rfl ?_
 refine CW.cond rfl (fun h26 => ?_) (fun h26 => ?_)
 refine CW.anyJ2 (fc := []) (L0 := []) 120 (fun (go27_1_1 : (Nat → Nat → Value)) => [(6, .obj b3 [.w (sl 3 Session.c k.sessions) (go27_1_1 0 0), .w (sl 3 Item.c k.items) (go27_1_1 0 1)]), (7, S es.reply), (8, Bo true)]) (fun all hall f hf b0 hb K hK => ?_) ?_
 have ro27_2 : ∀ B, ∀ (go27_1_1 : Nat → Nat → Value), RA f E B all 0 (bt 7 127) ⟨120, [(6, .obj b3 [.w (sl 3 Session.c k.sessions) (go27_1_1 0 0), .w (sl 3 Item.c k.items) (go27_1_1 0 1)]), (7, S es.reply), (8, Bo true)] ++ b0⟩ K := by
  intro B go27_1_1
  exact RA.of2 hall hf hb (RA.finH (Tell.of rfl) (by kernel_rfl) (hK go27_1_1 _ rfl (Le.of rfl)))
 have ro27_1 : ∀ B, ∀ (go27_1_1 : Nat → Nat → Value), RA f E B all 3 (bt 7 15) ⟨120, [(6, .obj b3 [.r (.v (.slice none 0 0)), .r (.v (.slice none 0 0))]), (89, .agg [.w (sl 3 Session.c k.sessions) (go27_1_1 0 0), .w (sl 3 Item.c k.items) (go27_1_1 0 1)]), (91, S es.reply)] ++ b0⟩ K := by
  intro B go27_1_1
  refine RA.of2 hall hf hb (RA.stepH (L := [4]) (Tell.of rfl) (by kernel_rfl) (by simp) (RA.each ?_ (RA.each0)))
  refine RO.storeAgg (es := [.al 89 (some 0) 3 k.sessions.length (go27_1_1 0 0) 0, .al 89 (some 1) 3 k.items.length (go27_1_1 0 1) 0]) rfl rfl rfl rfl rfl rfl rfl rfl rfl rfl (Nat.le_of_ble_eq_true rfl) rfl ?_
  refine RA.keep 120 [6,89,91] rfl ?_;(conv=>whnf);refine ⟨?_⟩
  refine RA.pullA (k := 6) (l := 89) (j := 0) 6 89 0 rfl rfl rfl (by decide) rfl rfl rfl rfl ?_
  refine RA.keep 120 [6,89,91] rfl ?_;(conv=>whnf);refine ⟨?_⟩
  refine RA.pullA (k := 6) (l := 89) (j := 1) 6 89 1 rfl rfl rfl (by decide) rfl rfl rfl rfl ?_
  refine RA.keep 120 [6,91] rfl ?_;(conv=>whnf);refine ⟨?_⟩
  refine RA.fr XK 120 0 [5,6] (bt 7 127) rfl rfl (by kernel_rfl) (Tell.of rfl) ?_
  (conv=>whnf);refine ⟨rfl,fun B=>?_⟩
  exact RA.to2 hall hf hb (ro27_2 B go27_1_1) rfl rfl (by kernel_rfl)
 have ro27_0 : ∀ B, RA f E B all 4 (bt 7 13) ⟨120, [(6, .obj b3 [.r (.v (.slice none 0 0)), .r (.v (.slice none 0 0))]), (88, .agg ((Keep.c k).map .r)), (91, S es.reply)] ++ b0⟩ K := by
  intro B
  refine RA.of2 hall hf hb (RA.stepH (L := [1]) (Tell.of rfl) (by kernel_rfl) (by simp) (RA.each ?_ (RA.each0)))
  refine RO.call rfl rfl (spec_l15Copy_fn k hok) rfl (.cons (.agg (.cons (.r .r) (.cons (.r .r) (.nil)))) (.nil)) rfl fun go27_1_1 => ?_
  exact RA.to2 hall hf hb (ro27_1 B go27_1_1) rfl rfl (by kernel_rfl)
 refine RA.start (by kernel_rfl) (by kernel_rfl) (m := 7) (ls' := (bt 7 0)) ?_
 refine RA.fr XK 120 4 [0,2,3] (bt 7 13) rfl rfl (by kernel_rfl) (Tell.of rfl) ?_
 (conv=>whnf);refine ⟨rfl,fun B=>?_⟩
 exact RA.to2 hall hf hb (ro27_0 B) rfl rfl (by kernel_rfl)
 rintro go27_1_1
 refine CW.freeze 6 (d' := .obj b3 ((Keep.c k).map .r)) rfl rfl ?_
 refine CW.ret ?_
 exact Post.tup (by decide) (RVs.c (RV.c (f := fun e => (Keep.c e).map .r) (e' := k) rfl rfl rfl rfl (DT.r (DT.r DT.e)) q45) (RVs.c (RV.s rfl q45) (RVs.c (RV.b rfl q45) RVs.e))) (AOs.a rfl (AOs.r (AOs.a rfl AOs.e)))
 refine CW.g XK 120 [.p,.e [1,3,5,6,11,13],.n 1,.e [1,3,5,6,11,97]] rfl rfl rfl ?_
 refine CW.cond rfl (fun h28 => ?_) (fun h28 => ?_)
 refine CW.g XK 120 [.o 1] rfl rfl rfl ?_
 refine RW.call rfl (spec_l15Copy_fn k hok) rfl (.cons (.agg (.cons (.r .r) (.cons (.r .r) (.nil)))) (.nil)) fun g29 => ?_
 refine RW.g XK 120 [.o 1,.e [6,99]] rfl rfl rfl ?_
 refine RW.pullA (k := 6) (l := 99) (j := 0) 6 99 0 rfl rfl rfl (by decide) rfl rfl rfl rfl ?_
 refine RW.g XK 120 [.e [6,99]] rfl rfl rfl ?_
 refine RW.pullA (k := 6) (l := 99) (j := 1) 6 99 1 rfl rfl rfl (by decide) rfl rfl rfl rfl ?_
 refine RW.g XK 120 [.e [6],.o 2,.p,.e [6,7,8]] rfl rfl rfl ?_
 refine CW.freeze 6 (d' := .obj b3 ((Keep.c k).map .r)) rfl rfl ?_
 refine CW.ret ?_
 exact Post.tup (by decide) (RVs.c (RV.c (f := fun e => (Keep.c e).map .r) (e' := k) rfl rfl rfl rfl (DT.r (DT.r DT.e)) (by rw [perfS_gap hpf h13 hat h28] <;> rfl)) (RVs.c (RV.s rfl (by rw [perfS_gap hpf h13 hat h28] <;> rfl)) (RVs.c (RV.b rfl (by rw [perfS_gap hpf h13 hat h28] <;> rfl)) RVs.e))) (AOs.a rfl (AOs.r (AOs.a rfl AOs.e)))
 refine CW.g XK 120 [.p,.e [1,3,5,6,11],.o 1] rfl rfl rfl ?_
 refine RW.call rfl (spec_l15Copy_fn k hok) rfl (.cons (.agg (.cons (.r .r) (.cons (.r .r) (.nil)))) (.nil)) fun g30 => ?_
 refine RW.h XK 120 [.o 2,.e [1,5,6,11,14,101]] rfl ?_;(conv=>whnf);intro b31;(conv=>whnf);refine ⟨rfl,?_⟩
 refine RW.pullA (k := 14) (l := 101) (j := 0) 14 101 0 rfl rfl rfl (by decide) rfl rfl rfl rfl ?_
 refine RW.g XK 120 [.e [1,5,6,11,14,101]] rfl rfl rfl ?_
 refine RW.pullA (k := 14) (l := 101) (j := 1) 14 101 1 rfl rfl rfl (by decide) rfl rfl rfl rfl ?_
 refine RW.g XK 120 [.e [1,5,6,11,14],.p,.e [1,5,6,11,14],.o 2] rfl rfl rfl ?_
 refine RW.callW (k := 14) (spec_l15Do_fn k n x hok hpf.k hpf.n) rfl rfl (Nat.le_of_ble_eq_true rfl) (by decide) (.here (AsW.ob (DT.w (DT.w DT.e)) rfl) (.cons (.one (.r .r)) (.cons (.agg (.cons (.r .r) (.cons (.r .r) (.cons (.r .r) (.cons (.r .r) (.cons (.r .r) (.cons (.r .r) (.nil)))))))) (.nil)))) rfl fun g32 q33 => ?_
 refine RW.g XK 120 [.o 1,.p,.e [5,6,11,14,15],.o 5] rfl rfl rfl ?_
 refine RW.swapO 106 14 0 (by decide) rfl rfl rfl ?_
 refine RW.v rfl (V.indexW rfl rfl rfl rfl rfl rfl rfl (by have hm := (List.getElem?_eq_some_iff.1 hat.fs).1; first | exact hm | (rw [do_sess]; exact hm) | (rw [List.length_set]; exact hm) | (rw [List.length_set, do_sess]; exact hm))) ?_
 refine RW.g XK 120 [.o 1] rfl rfl rfl ?_
 refine RW.storeF (m := m) (off := 1) (v := es) (v' := (⟨es.token, x.seq, es.reply⟩ : Session)) (u := .v (.int .i64 x.seq)) (c := Session.c) rfl rfl rfl rfl rfl rfl rfl (.inl rfl) Session.len (by first | exact hat.fs | (rw [do_sess]; exact hat.fs)) (by decide) rfl rfl ?_
 refine RW.pullN (k := 14) (l := 106) (j := 0) 14 106 0 rfl rfl rfl (by decide) rfl rfl rfl (by simp) ?_
 refine RW.g XK 120 [.p,.e [6,11,14,15],.o 4] rfl rfl rfl ?_
 refine RW.swapO 113 14 0 (by decide) rfl rfl rfl ?_
 refine RW.v rfl (V.indexW rfl rfl rfl rfl rfl rfl rfl (by have hm := (List.getElem?_eq_some_iff.1 hat.fs).1; first | exact hm | (rw [do_sess]; exact hm) | (rw [List.length_set]; exact hm) | (rw [List.length_set, do_sess]; exact hm))) ?_
 refine RW.g XK 120 [.o 1] rfl rfl rfl ?_
 refine RW.storeF (m := m) (off := 2) (v := (⟨es.token, x.seq, es.reply⟩ : Session)) (v' := (⟨(⟨es.token, x.seq, es.reply⟩ : Session).token, (⟨es.token, x.seq, es.reply⟩ : Session).last, ((doK k n x).2)⟩ : Session)) (u := .v (.string ((doK k n x).2))) (c := Session.c) rfl rfl rfl rfl rfl rfl rfl (.inl rfl) Session.len (List.getElem?_set_self (by have hm := (List.getElem?_eq_some_iff.1 hat.fs).1; first | exact hm | (rw [do_sess]; exact hm))) (by decide) rfl rfl ?_
 refine RW.pullN (k := 14) (l := 113) (j := 0) 14 113 0 rfl rfl rfl (by decide) rfl rfl rfl (by simp) ?_
 refine RW.g XK 120 [.p,.e [6,14,15],.o 3,.e [6,14,119]] rfl rfl rfl ?_
 refine RW.pullO (k := 6) (l := 14) (j := 0) 6 14 0 rfl rfl rfl (by decide) rfl rfl rfl rfl ?_
 refine RW.g XK 120 [.e [6,14,119]] rfl rfl rfl ?_
 refine RW.pullO (k := 6) (l := 14) (j := 1) 6 14 1 rfl rfl rfl (by decide) rfl rfl rfl rfl ?_
 refine RW.g XK 120 [.e [6,119],.o 2,.p,.e [6,7,8]] rfl rfl rfl ?_
 refine CW.freeze 6 (d' := .obj b3 [.r (sl 3 Session.c (((((doK k n x).1).sessions).set m (⟨es.token, x.seq, es.reply⟩ : Session)).set m (⟨(⟨es.token, x.seq, es.reply⟩ : Session).token, (⟨es.token, x.seq, es.reply⟩ : Session).last, ((doK k n x).2)⟩ : Session))), .r (sl 3 Item.c (((doK k n x).1).items))]) rfl rfl ?_
 refine CW.ret ?_
 exact Post.tup (by decide) (RVs.c (RV.c (f := fun e => (Keep.c e).map .r) (e' := (⟨(((((doK k n x).1).sessions).set m (⟨es.token, x.seq, es.reply⟩ : Session)).set m (⟨(⟨es.token, x.seq, es.reply⟩ : Session).token, (⟨es.token, x.seq, es.reply⟩ : Session).last, ((doK k n x).2)⟩ : Session)), ((doK k n x).1).items⟩ : Keep)) rfl rfl rfl rfl (DT.r (DT.r DT.e)) (by rw [perfS_do hpf h13 hat (hv23.symm.trans h24) h26 h28]; simp [do_sess, List.set_set])) (RVs.c (RV.s rfl (by rw [perfS_do hpf h13 hat (hv23.symm.trans h24) h26 h28] <;> rfl)) (RVs.c (RV.b rfl (by rw [perfS_do hpf h13 hat (hv23.symm.trans h24) h26 h28] <;> rfl)) RVs.e))) (AOs.a rfl (AOs.r (AOs.a rfl AOs.e)))
set_option maxHeartbeats 4000000 in
theorem spec_l05In_fn (a : List Int) (n : Int) : Eng.Fn E.P 27 [.one (.r (sl 1 cI a)), .one (.r (.v (.int .i64 n)))] (.one (.one (.w (.v (.bool (hasI a n)))))) [.one (.r (sl 1 cI a)), .one (.r (.v (.int .i64 n)))] := by
 refine Eng.Fn.intro (E := E) (rvs := [.tmp 4]) Tryz.func27 rfl rfl rfl (by simp [outSlots, moved, rvSlot, sl]) ?_
 intro B g bo
 refine CW.bound (x := .tmp 0) (n := a.length) (AsT.r) (fun hl0 => ?_)
 refine CW.g XK 18 [.e [0,1],.n 1,.e [0,1],.n 1,.e [0,1,5],.p] rfl rfl rfl ?_
 refine CW.loopI 18 (fun (i : Nat) => [(0, .r (sl 1 cI a)), (1, I n), (5, I (i : Int))]) (fun (i : Nat) => i ≤ a.length ∧ (a.take i).any (fun y => y == n) = false) (fun (i : Nat) => a.length - i) 0 rfl (Le.c rfl <| Le.c rfl <| Le.c rfl <| Le.e) ⟨by omega, by simp⟩ ?_
 rintro i ⟨hb, hr⟩
 refine CW.g XK 18 [.n 1,.e [0,1,5,9]] rfl rfl rfl ?_
 refine CW.cond rfl (fun h1 => ?_) (fun h1 => ?_)
 have hii : i < a.length := by have := h1; simp at this; first | exact this | omega | (simp; done) | (simp; omega)
 obtain ⟨ei, hei⟩ : ∃ e, a[i]? = some e := ⟨_, List.getElem?_eq_getElem hii⟩
 have hdi := drop_get hei
 refine CW.g XK 18 [.p,.e [0,1,5],.o 2] rfl rfl rfl ?_
 refine RW.v rfl (V.indexS rfl rfl rfl rfl rfl rfl cI.len hei) ?_
 refine RW.g XK 18 [.o 3,.p,.e [0,1,5,17]] rfl rfl rfl ?_
 refine CW.cond rfl (fun h2 => ?_) (fun h2 => ?_)
 refine CW.g XK 18 [.n 1,.e [4]] rfl rfl rfl ?_
 refine CW.ret ?_
 exact Post.one (RV.b rfl (by exact (hasI_at hei h2).symm)) (AOs.r (AOs.r AOs.e))
 refine CW.g XK 18 [.p,.e [0,1,5],.o 1] rfl rfl rfl ?_
 refine RW.v rfl (V.inc rfl rfl rfl hii hl0) ?_
 refine RW.g XK 18 [.o 1,.p] rfl rfl rfl ?_
 exact ⟨i + 1, by omega, ⟨by omega, any_snoc hr hei h2⟩, rfl, Le.c rfl <| Le.c rfl <| Le.c rfl <| Le.e⟩
 have hii : a.length ≤ i := by have := h1; simp at this; first | exact this | omega | (simp; done) | (simp; omega)
 have hdi : a.drop i = [] := List.drop_eq_nil_of_le hii
 refine CW.exit ?_
 refine CW.g XK 18 [.e [],.n 1,.e [4]] rfl rfl rfl ?_
 refine CW.ret ?_
 exact Post.one (RV.b rfl (by exact (hasI_no hr hii).symm)) (AOs.r (AOs.r AOs.e))
set_option maxHeartbeats 4000000 in
theorem spec_Versions_fn (w : World) (hok : okToWorld w) : Eng.Fn E.P 7 [.agg ((World.c w).map .r)] (.one (.one (.w (.v (.bool (pairs badApplied [] w.applied)))))) [.agg ((World.c w).map .r)] := by
 refine Eng.Fn.intro (E := E) (rvs := [.tmp 2]) Tryz.func7 rfl rfl rfl (by simp [outSlots, moved, rvSlot, sl]) ?_
 intro B g bo
 refine CW.g XK 103 [.e [0]] rfl rfl rfl ?_
 have hS : okSl okToServer w.servers := hok.2.1
 have hA : okSl okToApplied w.applied := hok.2.2.2.2.2.1
 have hEl : (ents w.applied).length ≤ 1048576 := Nat.le_trans (ents_len w.applied) hA.1
 have hLS : w.servers.length ≤ maxLen := by have := hS.1; simp only [maxLen]; omega
 refine CW.h XK 103 [.o 1] rfl ?_;(conv=>whnf);intro b1;(conv=>whnf);refine ⟨rfl,?_⟩
 refine RW.freezeB (ts := (World.c w)) 1 rfl (DRd.r (DRd.r (DRd.r (DRd.r (DRd.r (DRd.r (DRd.r DRd.e))))))) ?_
 refine RW.g XK 103 [.o 1,.p,.e [1],.o 2] rfl rfl rfl ?_
 refine RW.call rfl (spec_Entries_fn w.applied hA.1) rfl (.cons (.one (.r .r)) (.nil)) fun g2 => ?_
 refine RW.g XK 103 [.o 5,.p,.e [3,4],.n 1,.e [3,24]] rfl rfl rfl ?_
 refine CW.cond rfl (fun h3 => ?_) (fun h3 => ?_)
 have hno := nT h3
 refine CW.g XK 103 [.n 1,.e [2]] rfl rfl rfl ?_
 refine CW.ret ?_
 exact Post.one (RV.b rfl (by exact hno.symm)) (AOs.a rfl AOs.e)
 have hyes := nF h3
 refine CW.g XK 103 [.p,.e [3],.p,.p] rfl rfl rfl ?_
 refine RW.call rfl (spec_KeepNew_fn ) rfl (.nil) fun g4 => ?_
 refine RW.h XK 103 [.o 2,.e [3,5,25]] rfl ?_;(conv=>whnf);intro b5;(conv=>whnf);refine ⟨rfl,?_⟩
 refine RW.pullA (k := 5) (l := 25) (j := 0) 5 25 0 rfl rfl rfl (by decide) rfl rfl rfl rfl ?_
 refine RW.g XK 103 [.e [3,5,25]] rfl rfl rfl ?_
 refine RW.pullA (k := 5) (l := 25) (j := 1) 5 25 1 rfl rfl rfl (by decide) rfl rfl rfl rfl ?_
 refine RW.g XK 103 [.e [3,5],.p,.e [3,5],.p,.p] rfl rfl rfl ?_
 refine RW.build1c (c := cI) (v := 1) (u := .v (.int .i64 1)) rfl rfl rfl rfl rfl rfl (.inl rfl) rfl rfl fun X6 => ?_
 refine RW.assignMove rfl rfl rfl (by decide) (Nat.le_of_ble_eq_true rfl) (Nat.le_of_ble_eq_true rfl) ?_
 refine RW.g XK 103 [.p,.e [3,5,6],.n 1,.e [3,5,6,7],.p] rfl rfl rfl ?_
 refine CW.freeze 5 (d' := .obj b5 ((Keep.c keepNew).map .r)) rfl rfl ?_
 refine CW.loopI 103 (fun (zz : Nat × Keep × List Int × Value) => match zz with | (i, k, idx, X) => [(3, .r (sl 3 Entry.c (ents w.applied))), (5, .obj b5 ((Keep.c k).map .r)), (6, .w (sl 1 cI idx) X), (7, I (i : Int))]) (fun (zz : Nat × Keep × List Int × Value) => match zz with | (i, k, idx, X) => VsP (ents w.applied) i k idx) (fun (zz : Nat × Keep × List Int × Value) => match zz with | (i, k, idx, X) => (ents w.applied).length - i) (0, keepNew, [1], _) rfl (Le.c rfl <| Le.c rfl <| Le.c rfl <| Le.c rfl <| Le.e) (VsP.init _) ?_
 rintro ⟨i, k, idx, X⟩ hP
 have hb := hP.le
 have hel9 : (ents w.applied).length ≤ maxLen := by simp only [maxLen]; omega
 refine CW.g XK 103 [.n 1,.e [3,5,6,7,30]] rfl rfl rfl ?_
 refine CW.cond rfl (fun h7 => ?_) (fun h7 => ?_)
 have hii : i < (ents w.applied).length := by have := h7; simp at this; first | exact this | omega | (simp; done) | (simp; omega)
 obtain ⟨ei, hei⟩ : ∃ e, (ents w.applied)[i]? = some e := ⟨_, List.getElem?_eq_getElem hii⟩
 have hdi := drop_get hei
 have hw1 : IntKind.i64.wrap ((i : Int) + 1) = (i : Int) + 1 := by rw [IntKind.wrap_i64]; omega
 refine CW.g XK 103 [.p,.e [3,5,6,7],.o 2] rfl rfl rfl ?_
 refine RW.v rfl (V.indexS rfl rfl rfl rfl rfl rfl Entry.len hei) ?_
 refine RW.g XK 103 [.o 2] rfl rfl rfl ?_
 refine RW.call rfl (spec_ReadCommand_fn ei.data (ents_in hA ei (List.mem_of_getElem? hei))) rfl (.cons (.one (.r .r)) (.nil)) fun g8 => ?_
 refine RW.h XK 103 [.o 5] rfl ?_;(conv=>whnf);intro b9;(conv=>whnf);refine ⟨rfl,?_⟩
 refine RW.freezeB (ts := (Command.c ((rdCmd ei.data).1))) 8 rfl (DRd.r (DRd.r (DRd.r (DRd.r (DRd.r (DRd.r DRd.e)))))) ?_
 refine RW.g XK 103 [.o 1,.p,.e [3,5,6,7,8,9],.p] rfl rfl rfl ?_
 refine CW.seqJ 103 (fun (v10 : Bool) => [(3, .r (sl 3 Entry.c (ents w.applied))), (5, .obj b5 ((Keep.c k).map .r)), (6, .w (sl 1 cI idx) X), (7, I (i : Int)), (8, .rp (Command.c ((rdCmd ei.data).1))), (51, Bo v10)]) (fun v10 => v10 = ((ei.kind != 3) || (!((rdCmd ei.data).2)))) ?_ ?_
 refine CW.g XK 103 [.o 2] rfl rfl rfl ?_
 refine RW.v rfl (V.indexS rfl rfl rfl rfl rfl rfl Entry.len hei) ?_
 refine RW.g XK 103 [.o 4] rfl rfl rfl ?_
 refine RW.gv rfl rfl rfl rfl (fun h11 => V.mv (d := Bo ((rdCmd ei.data).2)) rfl rfl) (fun h11 => ?_) (fun h11 => ?_)
 refine RW.g XK 103 [.o 2,.p] rfl rfl rfl ?_
 exact ⟨_, by first | rfl | (simp_all; done) | (simp_all; omega) | grind, rfl, Le.of rfl⟩
 refine RW.g XK 103 [.o 2,.p] rfl rfl rfl ?_
 exact ⟨_, by first | rfl | (simp_all; done) | (simp_all; omega) | grind, rfl, Le.of rfl⟩
 intro v10 hv12
 refine CW.cond rfl (fun h13 => ?_) (fun h13 => ?_)
 have hvv := hv12.symm.trans h13
 refine CW.exit ?_
 refine CW.g XK 103 [.e [3,5,6,7],.o 1] rfl rfl rfl ?_
 refine RW.v rfl (V.inc rfl rfl rfl hii hel9) ?_
 refine RW.g XK 103 [.o 1,.p] rfl rfl rfl ?_
 exact ⟨(i + 1, k, idx, _), by simp only []; omega, q44, rfl, Le.c rfl <| Le.c rfl <| Le.c rfl <| Le.c rfl <| Le.e⟩
 have hvv := hv12.symm.trans h13
 refine CW.g XK 103 [.p,.e [3,5,6,7,8],.o 2] rfl rfl rfl ?_
 refine RW.v rfl (V.inc rfl rfl rfl hii hel9) ?_
 refine RW.g XK 103 [.o 1] rfl rfl rfl ?_
 refine RW.call rfl (spec_Perform_fn k ((i + 1 : Nat) : Int) ((rdCmd ei.data).1) hP.ok.okTo) rfl (.cons (.agg (.cons (.r .r) (.cons (.r .r) (.nil)))) (.cons (.one (.r .r)) (.cons (.agg (.cons (.r .r) (.cons (.r .r) (.cons (.r .r) (.cons (.r .r) (.cons (.r .r) (.cons (.r .r) (.nil)))))))) (.nil)))) fun g14 => ?_
 refine RW.h XK 103 [.o 6] rfl ?_;(conv=>whnf);intro b15;(conv=>whnf);refine ⟨rfl,?_⟩
 refine RW.freezeB (ts := (Keep.c ((perfK k ((i + 1 : Nat) : Int) ((rdCmd ei.data).1)).1))) 10 rfl (DRd.r (DRd.r DRd.e)) ?_
 refine RW.g XK 103 [.o 2,.p,.e [3,5,6,7,10,12],.n 1,.e [3,5,6,7,10,62]] rfl rfl rfl ?_
 refine CW.cond rfl (fun h16 => ?_) (fun h16 => ?_)
 have hgd0 := h16
 refine CW.exit ?_
 refine CW.g XK 103 [.e [3,5,6,7],.o 1] rfl rfl rfl ?_
 refine RW.v rfl (V.inc rfl rfl rfl hii hel9) ?_
 refine RW.g XK 103 [.o 1,.p] rfl rfl rfl ?_
 exact ⟨(i + 1, k, idx, _), by simp only []; omega, q44, rfl, Le.c rfl <| Le.c rfl <| Le.c rfl <| Le.c rfl <| Le.e⟩
 have hgd := nF h16
 refine CW.g XK 103 [.p,.e [3,5,6,7,10],.o 2] rfl rfl rfl ?_
 refine RW.v rfl (V.inc rfl rfl rfl hii hel9) ?_
 refine RW.build1c (c := cI) (v := ((i + 1 : Nat) : Int)) (u := .v (.int .i64 ((i + 1 : Nat) : Int))) rfl rfl rfl rfl rfl rfl (.inl rfl) rfl rfl fun X17 => ?_
 refine RW.appendSR (c := cI) (l1 := idx) (l2 := [((i + 1 : Nat) : Int)]) rfl rfl rfl rfl rfl rfl rfl rfl (.al (k := none) (i := 66) (sz := 1) (V := X17) rfl rfl nofun) (by decide) (Nat.le_of_ble_eq_true rfl) cI.len (fun _ => rfl) rfl (by have h9 := hP.ln; simp only [maxLen, List.length_singleton]; omega) (by have h9 := hP.ln; simp only [maxLen, List.length_singleton]; omega) fun X18 => ?_
 refine RW.assignMove rfl rfl rfl (by decide) (Nat.le_of_ble_eq_true rfl) (Nat.le_of_ble_eq_true rfl) ?_
 refine RW.g XK 103 [.p,.e [3,5,6,7,10],.n 1,.e [3,5,6,7,10,13],.p] rfl rfl rfl ?_
 refine CW.loopI 103 (fun (j : Nat) => [(3, .r (sl 3 Entry.c (ents w.applied))), (5, .obj b5 ((Keep.c k).map .r)), (6, .w (sl 1 cI (idx ++ ([((i + 1 : Nat) : Int)]))) X18), (7, I (i : Int)), (10, .rp (Keep.c ((perfK k ((i + 1 : Nat) : Int) ((rdCmd ei.data).1)).1))), (13, I (j : Int))]) (fun (j : Nat) => j ≤ (perfK k ((i + 1 : Nat) : Int) (rdCmd ei.data).1).1.items.length) (fun (j : Nat) => (perfK k ((i + 1 : Nat) : Int) (rdCmd ei.data).1).1.items.length - j) 0 rfl (Le.c rfl <| Le.c rfl <| Le.c rfl <| Le.c rfl <| Le.c rfl <| Le.c rfl <| Le.e) (by omega) ?_
 rintro j hbj
 refine CW.g XK 103 [.n 1,.e [3,5,6,7,10,13,72]] rfl rfl rfl ?_
 refine CW.cond rfl (fun h19 => ?_) (fun h19 => ?_)
 have hij : j < (perfK k ((i + 1 : Nat) : Int) (rdCmd ei.data).1).1.items.length := by have h9 := of_decide_eq_true h19; omega
 obtain ⟨ej, hej⟩ : ∃ e, (perfK k ((i + 1 : Nat) : Int) (rdCmd ei.data).1).1.items[j]? = some e := ⟨_, List.getElem?_eq_getElem hij⟩
 refine CW.g XK 103 [.p,.e [3,5,6,7,10,13],.o 3] rfl rfl rfl ?_
 refine RW.v rfl (V.indexS rfl rfl rfl rfl rfl rfl Item.len hej) ?_
 refine RW.h XK 103 [.o 3] rfl ?_;(conv=>whnf);intro b20;(conv=>whnf);refine ⟨rfl,?_⟩
 refine RW.freezeB (ts := (Item.c ej)) 14 rfl (DRd.r (DRd.r (DRd.r DRd.e))) ?_
 refine RW.g XK 103 [.p,.e [3,5,6,7,10,13,14],.o 3] rfl rfl rfl ?_
 refine RW.call rfl (spec_ItemOf_fn k ej.key hP.ok.okTo) rfl (.cons (.agg (.cons (.r .r) (.cons (.r .r) (.nil)))) (.cons (.one (.r .r)) (.nil))) fun g21 => ?_
 refine RW.h XK 103 [.o 5] rfl ?_;(conv=>whnf);intro b22;(conv=>whnf);refine ⟨rfl,?_⟩
 refine RW.freezeB (ts := (Item.c ((itemOf k ej.key).1))) 15 rfl (DRd.r (DRd.r (DRd.r DRd.e))) ?_
 refine RW.g XK 103 [.o 1,.p,.e [3,5,6,7,10,13,14,15,16]] rfl rfl rfl ?_
 refine CW.seqJ 103 (fun (v23 : Bool) => [(3, .r (sl 3 Entry.c (ents w.applied))), (5, .obj b5 ((Keep.c k).map .r)), (6, .w (sl 1 cI (idx ++ ([((i + 1 : Nat) : Int)]))) X18), (7, I (i : Int)), (10, .rp (Keep.c ((perfK k ((i + 1 : Nat) : Int) ((rdCmd ei.data).1)).1))), (13, I (j : Int)), (101, Bo v23)]) (fun v23 => v23 = ((((itemOf k ej.key).2) && decide (((itemOf k ej.key).1).ver > ej.ver)) || (!(hasI (idx ++ ([((i + 1 : Nat) : Int)])) ej.ver)))) ?_ ?_
 refine CW.g XK 103 [.o 2] rfl rfl rfl ?_
 refine RW.gv rfl rfl rfl rfl (fun h24 => V.fieldR rfl rfl rfl rfl (by decide) rfl (Nat.le_of_ble_eq_true rfl)) (fun h24 => ?_) (fun h24 => ?_)
 refine RW.g XK 103 [.o 6] rfl rfl rfl ?_
 refine RW.gv rfl rfl rfl rfl (fun h25 => V.mv (d := .al 6 none 1 ((idx ++ ([((i + 1 : Nat) : Int)])).length) X18 0) rfl rfl) (fun h25 => ?_) (fun h25 => ?_)
 refine RW.g XK 103 [.o 2] rfl rfl rfl ?_
 refine RW.gcallOwn rfl rfl rfl rfl (spec_l05In_fn (idx ++ ([((i + 1 : Nat) : Int)])) ej.ver) rfl (.cons (.one (.r (.al (k := none) (i := 6) (sz := 1) (V := X18) rfl rfl nofun))) (.cons (.one (.r .r)) (.nil))) rfl fun g26 => ?_
 refine RW.g XK 103 [.o 2,.p] rfl rfl rfl ?_
 exact ⟨_, by first | rfl | (simp_all; done) | (simp_all; omega) | grind, rfl, Le.of rfl⟩
 refine RW.g XK 103 [.o 5,.p] rfl rfl rfl ?_
 exact ⟨_, by first | rfl | (simp_all; done) | (simp_all; omega) | grind, rfl, Le.of rfl⟩
 refine RW.g XK 103 [.o 9] rfl rfl rfl ?_
 refine RW.gcallOwn rfl rfl rfl rfl (spec_l05In_fn (idx ++ ([((i + 1 : Nat) : Int)])) ej.ver) rfl (.cons (.one (.r (.al (k := none) (i := 6) (sz := 1) (V := X18) rfl rfl nofun))) (.cons (.one (.r .r)) (.nil))) rfl fun g27 => ?_
 refine RW.g XK 103 [.o 2,.p] rfl rfl rfl ?_
 exact ⟨_, by first | rfl | (simp_all; done) | (simp_all; omega) | grind, rfl, Le.of rfl⟩
 intro v23 hv28
 refine CW.cond rfl (fun h29 => ?_) (fun h29 => ?_)
 have hvv := hv28.symm.trans h29
 refine CW.g XK 103 [.n 1,.e [2]] rfl rfl rfl ?_
 refine CW.ret ?_
 exact Post.one (RV.b rfl (by exfalso; exact vs_bad hP hii (by omega) hgd (List.mem_of_getElem? hej) hvv)) (AOs.a rfl AOs.e)
 have hvv := hv28.symm.trans h29
 refine CW.g XK 103 [.p,.e [3,5,6,7,10,13],.o 1] rfl rfl rfl ?_
 refine RW.v rfl (V.inc rfl rfl rfl hij (by have h9 := (perf_kok hgd).il; simp only [maxLen]; omega)) ?_
 refine RW.g XK 103 [.o 1,.p] rfl rfl rfl ?_
 exact ⟨j + 1, by omega, (by omega), rfl, Le.c rfl <| Le.c rfl <| Le.c rfl <| Le.c rfl <| Le.c rfl <| Le.c rfl <| Le.e⟩
 refine CW.exit ?_
 refine CW.g XK 103 [.e [3,5,6,7,10],.o 2,.p,.e [3,5,6,7],.o 1] rfl rfl rfl ?_
 refine RW.v rfl (V.inc rfl rfl rfl hii hel9) ?_
 refine RW.g XK 103 [.o 1,.p] rfl rfl rfl ?_
 exact ⟨(i + 1, ((perfK k ((i + 1 : Nat) : Int) ((rdCmd ei.data).1)).1), (idx ++ ([((i + 1 : Nat) : Int)])), _), by simp only []; omega, q44, rfl, Le.c rfl <| Le.c rfl <| Le.c rfl <| Le.c rfl <| Le.e⟩
 have hii : (ents w.applied).length ≤ i := by have := h7; simp at this; first | exact this | omega | (simp; done) | (simp; omega)
 have hdi : (ents w.applied).drop i = [] := List.drop_eq_nil_of_le hii
 refine CW.exit ?_
 refine CW.g XK 103 [.e [],.n 1,.e [2]] rfl rfl rfl ?_
 refine CW.ret ?_
 exact Post.one (RV.b rfl (by exact hyes.symm)) (AOs.a rfl AOs.e)
set_option maxHeartbeats 4000000 in
theorem laws_toBoolS_fn (a : List Bool) (hm : a.length ≤ 1048576) : Eng.Fn E.P 28 [.one (.r (sl 1 cB a))] (.one (.one (.w (sl 1 cB a)))) [.one (.r (sl 1 cB a))] := by
 refine Eng.Fn.intro (E := E) (rvs := [.tmp 2]) Tryz.func28 rfl rfl rfl (by simp [outSlots, moved, rvSlot, sl]) ?_
 intro B g bo
 refine CW.bound (x := .tmp 0) (n := a.length) (AsT.r) (fun hl0 => ?_)
 refine CW.g XK 22 [.e [0],.n 1,.e [0],.o 2] rfl rfl rfl ?_
 refine RW.makeS (n := a.length) (c := cB) false rfl rfl rfl rfl rfl rfl rfl rfl (ZT.v ZT.e) (by show 1 * a.length ≤ 281474976710656; omega) (by simp only [maxLen]; omega) fun X1 => ?_
 refine RW.assignMove rfl rfl rfl (by decide) (Nat.le_of_ble_eq_true rfl) (Nat.le_of_ble_eq_true rfl) ?_
 refine RW.g XK 22 [.p,.e [0,3],.n 1,.e [0,3,4],.p] rfl rfl rfl ?_
 refine CW.loopI 22 (fun (i : Nat) => [(0, .r (sl 1 cB a)), (3, .w (sl 1 cB (a.take i ++ List.replicate (a.length - i) false)) X1), (4, I (i : Int))]) (fun (i : Nat) => i ≤ a.length) (fun (i : Nat) => a.length - i) 0 rfl (Le.c rfl <| Le.c rfl <| Le.c rfl <| Le.e) (by omega) ?_
 rintro i hb
 refine CW.g XK 22 [.n 1,.e [0,3,4,11]] rfl rfl rfl ?_
 refine CW.cond rfl (fun h2 => ?_) (fun h2 => ?_)
 have hii : i < a.length := by have := h2; simp at this; first | exact this | omega | (simp; done) | (simp; omega)
 obtain ⟨ei, hei⟩ : ∃ e, a[i]? = some e := ⟨_, List.getElem?_eq_getElem hii⟩
 have hdi := drop_get hei
 refine CW.g XK 22 [.p,.e [0,3,4],.o 4] rfl rfl rfl ?_
 refine RW.v rfl (V.indexS rfl rfl rfl rfl rfl rfl cB.len hei) ?_
 refine RW.g XK 22 [.o 1] rfl rfl rfl ?_
 refine RW.v rfl (V.indexW rfl rfl rfl rfl rfl rfl rfl (by simp; omega)) ?_
 refine RW.storeS1 (v := ei) (c := cB) (u := .v (.bool ei)) rfl rfl rfl rfl rfl rfl rfl (.inl rfl) rfl cB.len (by simp; omega) rfl ?_
 refine RW.g XK 22 [.p,.e [0,3,4],.o 1] rfl rfl rfl ?_
 refine RW.v rfl (V.inc rfl rfl rfl hii hl0) ?_
 refine RW.g XK 22 [.o 1,.p] rfl rfl rfl ?_
 exact ⟨i + 1, by omega, by omega, rfl, Le.c rfl <| Le.c (congrArg (fun l => D.w (sl _ cB l) X1) (take_set hei)) <| Le.c rfl <| Le.e⟩
 have hii : a.length ≤ i := by have := h2; simp at this; first | exact this | omega | (simp; done) | (simp; omega)
 have hdi : a.drop i = [] := List.drop_eq_nil_of_le hii
 refine CW.exit ?_
 refine CW.g XK 22 [.e [3],.o 2] rfl rfl rfl ?_
 refine RW.pullS 2 3 (by decide) rfl rfl ?_
 refine RW.g XK 22 [.p,.e [2]] rfl rfl rfl ?_
 refine CW.ret ?_
 exact Post.one (RV.w rfl q14) (AOs.r AOs.e)
set_option maxHeartbeats 4000000 in
theorem laws_toIntS_fn (a : List Int) (hm : a.length ≤ 1048576) : Eng.Fn E.P 113 [.one (.r (sl 1 cI a))] (.one (.one (.w (sl 1 cI a)))) [.one (.r (sl 1 cI a))] := by
 refine Eng.Fn.intro (E := E) (rvs := [.tmp 2]) Tryz.func113 rfl rfl rfl (by simp [outSlots, moved, rvSlot, sl]) ?_
 intro B g bo
 refine CW.bound (x := .tmp 0) (n := a.length) (AsT.r) (fun hl0 => ?_)
 refine CW.g XK 22 [.e [0],.n 1,.e [0],.o 2] rfl rfl rfl ?_
 refine RW.makeS (n := a.length) (c := cI) 0 rfl rfl rfl rfl rfl rfl rfl rfl (ZT.v ZT.e) (by show 8 * a.length ≤ 281474976710656; omega) (by simp only [maxLen]; omega) fun X1 => ?_
 refine RW.assignMove rfl rfl rfl (by decide) (Nat.le_of_ble_eq_true rfl) (Nat.le_of_ble_eq_true rfl) ?_
 refine RW.g XK 22 [.p,.e [0,3],.n 1,.e [0,3,4],.p] rfl rfl rfl ?_
 refine CW.loopI 22 (fun (i : Nat) => [(0, .r (sl 1 cI a)), (3, .w (sl 1 cI (a.take i ++ List.replicate (a.length - i) 0)) X1), (4, I (i : Int))]) (fun (i : Nat) => i ≤ a.length) (fun (i : Nat) => a.length - i) 0 rfl (Le.c rfl <| Le.c rfl <| Le.c rfl <| Le.e) (by omega) ?_
 rintro i hb
 refine CW.g XK 22 [.n 1,.e [0,3,4,11]] rfl rfl rfl ?_
 refine CW.cond rfl (fun h2 => ?_) (fun h2 => ?_)
 have hii : i < a.length := by have := h2; simp at this; first | exact this | omega | (simp; done) | (simp; omega)
 obtain ⟨ei, hei⟩ : ∃ e, a[i]? = some e := ⟨_, List.getElem?_eq_getElem hii⟩
 have hdi := drop_get hei
 refine CW.g XK 22 [.p,.e [0,3,4],.o 4] rfl rfl rfl ?_
 refine RW.v rfl (V.indexS rfl rfl rfl rfl rfl rfl cI.len hei) ?_
 refine RW.g XK 22 [.o 1] rfl rfl rfl ?_
 refine RW.v rfl (V.indexW rfl rfl rfl rfl rfl rfl rfl (by simp; omega)) ?_
 refine RW.storeS1 (v := ei) (c := cI) (u := .v (.int .i64 ei)) rfl rfl rfl rfl rfl rfl rfl (.inl rfl) rfl cI.len (by simp; omega) rfl ?_
 refine RW.g XK 22 [.p,.e [0,3,4],.o 1] rfl rfl rfl ?_
 refine RW.v rfl (V.inc rfl rfl rfl hii hl0) ?_
 refine RW.g XK 22 [.o 1,.p] rfl rfl rfl ?_
 exact ⟨i + 1, by omega, by omega, rfl, Le.c rfl <| Le.c (congrArg (fun l => D.w (sl _ cI l) X1) (take_set hei)) <| Le.c rfl <| Le.e⟩
 have hii : a.length ≤ i := by have := h2; simp at this; first | exact this | omega | (simp; done) | (simp; omega)
 have hdi : a.drop i = [] := List.drop_eq_nil_of_le hii
 refine CW.exit ?_
 refine CW.g XK 22 [.e [3],.o 2] rfl rfl rfl ?_
 refine RW.pullS 2 3 (by decide) rfl rfl ?_
 refine RW.g XK 22 [.p,.e [2]] rfl rfl rfl ?_
 refine CW.ret ?_
 exact Post.one (RV.w rfl q14) (AOs.r AOs.e)
set_option maxHeartbeats 4000000 in
theorem laws_toEntry_fn (a : Entry) (hs : okToEntry a) : Eng.Fn E.P 115 [.agg ((Entry.c a).map .r)] (.one (.agg ((Entry.c a).map .w))) [.agg ((Entry.c a).map .r)] := by
 refine Eng.Fn.intro (E := E) (rvs := [.cell 2 67]) Tryz.func115 rfl rfl rfl (by simp [outSlots, moved, rvSlot, sl]) ?_
 intro B g bo
 refine CW.h XK 14 [.e [0],.o 1] rfl ?_;(conv=>whnf);intro b1;(conv=>whnf);refine ⟨rfl,?_⟩
 refine RW.freezeB (ts := (Entry.c a)) 1 rfl (DRd.r (DRd.r (DRd.r DRd.e))) ?_
 refine RW.h XK 14 [.o 1,.p,.e [1,2],.n 5,.e [2]] rfl ?_;(conv=>whnf);intro b2;(conv=>whnf);intro b3;(conv=>whnf);refine ⟨rfl,?_⟩
 refine CW.ret ?_
 exact Post.one (RV.c (f := fun e => (Entry.c e).map .w) (e' := a) rfl rfl rfl rfl (DT.v (DT.v (DT.v DT.e))) (by simp_all)) (AOs.a rfl AOs.e)
set_option maxHeartbeats 4000000 in
theorem laws_toEntryS_fn (a : List Entry) (hm : a.length ≤ 1048576) (hs : ∀ x ∈ a, okToEntry x) : Eng.Fn E.P 112 [.one (.r (sl 3 Entry.c a))] (.one (.one (.w (sl 3 Entry.c a)))) [.one (.r (sl 3 Entry.c a))] := by
 refine Eng.Fn.intro (E := E) (rvs := [.tmp 2]) Tryz.func112 rfl rfl rfl (by simp [outSlots, moved, rvSlot, sl]) ?_
 intro B g bo
 refine CW.bound (x := .tmp 0) (n := a.length) (AsT.r) (fun hl0 => ?_)
 refine CW.g XK 23 [.e [0],.n 1,.e [0],.o 2] rfl rfl rfl ?_
 refine RW.makeS (n := a.length) (c := Entry.c) Entry.z rfl rfl rfl rfl rfl rfl rfl rfl (ZT.v (ZT.v (ZT.v ZT.e))) q41 (by simp only [maxLen]; omega) fun X1 => ?_
 refine RW.assignMove rfl rfl rfl (by decide) (Nat.le_of_ble_eq_true rfl) (Nat.le_of_ble_eq_true rfl) ?_
 refine RW.g XK 23 [.p,.e [0,3],.n 1,.e [0,3,4],.p] rfl rfl rfl ?_
 refine CW.loopI 23 (fun (i : Nat) => [(0, .r (sl 3 Entry.c a)), (3, .w (sl 3 Entry.c (a.take i ++ List.replicate (a.length - i) Entry.z)) X1), (4, I (i : Int))]) (fun (i : Nat) => i ≤ a.length) (fun (i : Nat) => a.length - i) 0 rfl (Le.c rfl <| Le.c rfl <| Le.c rfl <| Le.e) (by omega) ?_
 rintro i hb
 refine CW.g XK 23 [.n 1,.e [0,3,4,11]] rfl rfl rfl ?_
 refine CW.cond rfl (fun h2 => ?_) (fun h2 => ?_)
 have hii : i < a.length := by have := h2; simp at this; first | exact this | omega | (simp; done) | (simp; omega)
 obtain ⟨ei, hei⟩ : ∃ e, a[i]? = some e := ⟨_, List.getElem?_eq_getElem hii⟩
 have hdi := drop_get hei
 refine CW.g XK 23 [.p,.e [0,3,4],.o 4] rfl rfl rfl ?_
 refine RW.v rfl (V.indexS rfl rfl rfl rfl rfl rfl Entry.len hei) ?_
 refine RW.g XK 23 [.o 1] rfl rfl rfl ?_
 refine RW.call rfl (laws_toEntry_fn ei (hs ei (List.mem_of_getElem? hei))) rfl (.cons (.agg (.cons (.r .r) (.cons (.r .r) (.cons (.r .r) (.nil))))) (.nil)) fun g3 => ?_
 refine RW.v rfl (V.indexW rfl rfl rfl rfl rfl rfl rfl (by simp; omega)) ?_
 refine RW.storeS (v := ei) rfl rfl rfl rfl rfl rfl rfl (DW.v (DW.v (DW.v DW.e))) Entry.len (by decide) (by simp; omega) rfl ?_
 refine RW.g XK 23 [.p,.e [0,3,4],.o 1] rfl rfl rfl ?_
 refine RW.v rfl (V.inc rfl rfl rfl hii hl0) ?_
 refine RW.g XK 23 [.o 1,.p] rfl rfl rfl ?_
 exact ⟨i + 1, by omega, by omega, rfl, Le.c rfl <| Le.c (congrArg (fun l => D.w (sl _ Entry.c l) X1) (take_set hei)) <| Le.c rfl <| Le.e⟩
 have hii : a.length ≤ i := by have := h2; simp at this; first | exact this | omega | (simp; done) | (simp; omega)
 have hdi : a.drop i = [] := List.drop_eq_nil_of_le hii
 refine CW.exit ?_
 refine CW.g XK 23 [.e [3],.o 2] rfl rfl rfl ?_
 refine RW.pullS 2 3 (by decide) rfl rfl ?_
 refine RW.g XK 23 [.p,.e [2]] rfl rfl rfl ?_
 refine CW.ret ?_
 exact Post.one (RV.w rfl q14) (AOs.r AOs.e)
set_option maxHeartbeats 4000000 in
theorem laws_toLog_fn (a : Log) (hs : okToLog a) : Eng.Fn E.P 114 [.agg ((Log.c a).map .r)] (.one (.agg ((Log.c a).map .w))) [.agg ((Log.c a).map .r)] := by
 refine Eng.Fn.intro (E := E) (rvs := [.cell 2 95]) Tryz.func114 rfl rfl rfl (by simp [outSlots, moved, rvSlot, sl]) ?_
 intro B g bo
 refine CW.h XK 15 [.e [0],.o 1] rfl ?_;(conv=>whnf);intro b1;(conv=>whnf);refine ⟨rfl,?_⟩
 refine RW.freezeB (ts := (Log.c a)) 1 rfl (DRd.r (DRd.r (DRd.r DRd.e))) ?_
 refine RW.h XK 15 [.o 1,.p,.e [1,2],.n 3,.e [1,2,3],.o 2] rfl ?_;(conv=>whnf);intro b2;(conv=>whnf);intro b3;(conv=>whnf);refine ⟨rfl,?_⟩
 refine RW.call rfl (laws_toEntryS_fn a.entries hs.1 hs.2) rfl (.cons (.one (.r .r)) (.nil)) fun g4 => ?_
 refine RW.g XK 15 [.o 2,.e [2,3,12]] rfl rfl rfl ?_
 refine RW.pullT (k := 3) (l := 12) (j := 2) 3 12 2 rfl rfl rfl (by decide) rfl rfl rfl ?_
 refine RW.g XK 15 [.e [2,3],.p,.e [2,3],.o 2,.e [2,3]] rfl rfl rfl ?_
 refine RW.pullO (k := 2) (l := 3) (j := 2) 2 3 2 rfl rfl rfl (by decide) rfl rfl rfl rfl ?_
 refine RW.g XK 15 [.e [2],.p,.e [2]] rfl rfl rfl ?_
 refine CW.ret ?_
 exact Post.one (RV.c (f := fun e => (Log.c e).map .w) (e' := a) rfl rfl rfl rfl (DT.v (DT.v (DT.w DT.e))) (by simp_all)) (AOs.a rfl AOs.e)
set_option maxHeartbeats 4000000 in
theorem laws_toPeer_fn (a : Peer) : Eng.Fn E.P 158 [.agg ((Peer.c a).map .r)] (.one (.agg ((Peer.c a).map .w))) [.agg ((Peer.c a).map .r)] := by
 refine Eng.Fn.intro (E := E) (rvs := [.cell 2 248]) Tryz.func158 rfl rfl rfl (by simp [outSlots, moved, rvSlot, sl]) ?_
 intro B g bo
 refine CW.h XK 17 [.e [0],.o 1] rfl ?_;(conv=>whnf);intro b1;(conv=>whnf);refine ⟨rfl,?_⟩
 refine RW.freezeB (ts := (Peer.c a)) 1 rfl (DRd.r (DRd.r (DRd.r (DRd.r DRd.e)))) ?_
 refine RW.h XK 17 [.o 1,.p,.e [1,2],.n 6,.e [2]] rfl ?_;(conv=>whnf);intro b2;(conv=>whnf);intro b3;(conv=>whnf);refine ⟨rfl,?_⟩
 refine CW.ret ?_
 exact Post.one (RV.c (f := fun e => (Peer.c e).map .w) (e' := a) rfl rfl rfl rfl (DT.v (DT.v (DT.v (DT.v DT.e)))) (by simp_all)) (AOs.a rfl AOs.e)
end Go.Proofs.YtdipdkfbaehglaaGreatDoor.Y
