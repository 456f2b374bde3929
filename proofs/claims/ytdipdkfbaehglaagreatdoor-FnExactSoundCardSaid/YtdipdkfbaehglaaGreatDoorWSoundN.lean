import Derived.Test.YtdipdkfbaehglaaGreatDoorWSoundM
namespace Go.Proofs.YtdipdkfbaehglaaGreatDoor.Y
open Go Go.RowKit Go.Eng Go.Proofs
set_option maxRecDepth 10000
set_option maxHeartbeats 4000000 in
theorem impl_Perform_fn (k : Keep) (n : Int) (x : Command) (hok : okToKeep k) : Eng.Fn E.P 80 [.agg ((Keep.c k).map .r), .one (.r (.v (.int .i64 n))), .agg ((Command.c x).map .r)] (.tup [.agg ((Keep.c ((perfK k n x).1)).map .r), .one (.w (.v (.string ((perfK k n x).2.1)))), .one (.w (.v (.bool ((perfK k n x).2.2))))]) [.agg ((Keep.c k).map .r), .one (.r (.v (.int .i64 n))), .agg ((Command.c x).map .r)] := by
 refine Eng.Fn.intro (E := E) (rvs := [.cell 6 59, .tmp 7, .tmp 8]) Tryz.func80 rfl rfl rfl (by simp [outSlots, moved, rvSlot, sl]) ?_
 intro B g bo
 refine CW.g XK 100 [.e [0,1,2]] rfl rfl rfl ?_
 have hl1 : k.sessions.length ≤ maxLen := by have := hok.1.1; simp only [maxLen]; omega
 have hl2 : k.items.length ≤ maxLen := by have := hok.2.1; simp only [maxLen]; omega
 refine CW.h XK 100 [.o 1] rfl ?_;(conv=>whnf);intro b1;(conv=>whnf);refine ⟨rfl,?_⟩
 refine RW.freezeB (ts := (Keep.c k)) 3 rfl (DRd.r (DRd.r DRd.e)) ?_
 refine RW.h XK 100 [.o 1] rfl ?_;(conv=>whnf);intro b2;(conv=>whnf);refine ⟨rfl,?_⟩
 refine RW.freezeB (ts := (Command.c x)) 5 rfl (DRd.r (DRd.r (DRd.r (DRd.r (DRd.r (DRd.r DRd.e)))))) ?_
 refine RW.h XK 100 [.o 3,.p,.e [1,3,5,6],.p] rfl ?_;(conv=>whnf);intro b3;(conv=>whnf);refine ⟨rfl,?_⟩
 refine CW.seqJ 100 (fun (v4 : Bool) => [(1, I n), (3, .rp (Keep.c k)), (5, .rp (Command.c x)), (6, .obj b3 [.r (.v (.slice none 0 0)), .r (.v (.slice none 0 0))]), (26, Bo v4)]) (fun v4 => v4 = (((!(keepOk k)) || (!(inR n 1 400000))) || (!(cmdOk x)))) ?_ ?_
 refine CW.g XK 100 [.o 1] rfl rfl rfl ?_
 refine RW.call rfl (impl_KeepOk_fn k hok) rfl (.cons (.agg (.cons (.r .r) (.cons (.r .r) (.nil)))) (.nil)) fun g5 => ?_
 refine RW.g XK 100 [.o 2] rfl rfl rfl ?_
 refine RW.gv rfl rfl rfl rfl (fun h6 => V.mv (d := I n) rfl rfl) (fun h6 => ?_) (fun h6 => ?_)
 refine RW.gcall rfl rfl rfl rfl (impl_within_fn n 1 400000) rfl (.cons (.one (.r .r)) (.cons (.one (.r .r)) (.cons (.one (.r .r)) (.nil)))) fun g7 => ?_
 refine RW.g XK 100 [.o 3] rfl rfl rfl ?_
 refine RW.gv rfl rfl rfl rfl (fun h8 => V.loadAggR rfl rfl rfl rfl (Nat.le_of_ble_eq_true rfl)) (fun h8 => ?_) (fun h8 => ?_)
 refine RW.gcall rfl rfl rfl rfl (impl_CommandOk_fn x) rfl (.cons (.agg (.cons (.r .r) (.cons (.r .r) (.cons (.r .r) (.cons (.r .r) (.cons (.r .r) (.cons (.r .r) (.nil)))))))) (.nil)) fun g9 => ?_
 refine RW.g XK 100 [.o 2,.p] rfl rfl rfl ?_
 exact ⟨_, by first | rfl | (simp_all; done) | (simp_all; omega) | grind, rfl, Le.of rfl⟩
 refine RW.g XK 100 [.o 3,.p] rfl rfl rfl ?_
 exact ⟨_, by first | rfl | (simp_all; done) | (simp_all; omega) | grind, rfl, Le.of rfl⟩
 refine RW.g XK 100 [.o 8,.p] rfl rfl rfl ?_
 exact ⟨_, by first | rfl | (simp_all; done) | (simp_all; omega) | grind, rfl, Le.of rfl⟩
 intro v4 hv10
 refine CW.cond rfl (fun h11 => ?_) (fun h11 => ?_)
 refine CW.g XK 100 [.n 1,.e [6,7,8]] rfl rfl rfl ?_
 refine CW.ret ?_
 exact Post.tup (by decide) (RVs.c (RV.c (f := fun e => (Keep.c e).map .r) (e' := (⟨[], []⟩ : Keep)) rfl rfl rfl rfl (DT.nr (DT.nr DT.e)) (by rw [perf_no (k := k) (n := n) (x := x) q25] <;> rfl)) (RVs.c (RV.s rfl (by rw [perf_no (k := k) (n := n) (x := x) q25] <;> rfl)) (RVs.c (RV.b rfl (by rw [perf_no (k := k) (n := n) (x := x) q25] <;> rfl)) RVs.e))) (AOs.a rfl (AOs.r (AOs.a rfl AOs.e)))
 have hpf : PfOk k n x := PfOk.of q25
 refine CW.g XK 100 [.p,.e [1,3,5,6],.o 1] rfl rfl rfl ?_
 refine RW.call rfl (impl_copyKeep_fn k hok) rfl (.cons (.agg (.cons (.r .r) (.cons (.r .r) (.nil)))) (.nil)) fun g12 => ?_
 refine RW.h XK 100 [.o 2,.e [1,3,5,6,9,29]] rfl ?_;(conv=>whnf);intro b13;(conv=>whnf);refine ⟨rfl,?_⟩
 refine RW.pullA (k := 9) (l := 29) (j := 0) 9 29 0 rfl rfl rfl (by decide) rfl rfl rfl rfl ?_
 refine RW.g XK 100 [.e [1,3,5,6,9,29]] rfl rfl rfl ?_
 refine RW.pullA (k := 9) (l := 29) (j := 1) 9 29 1 rfl rfl rfl (by decide) rfl rfl rfl rfl ?_
 refine RW.g XK 100 [.e [1,3,5,6,9],.p,.e [1,3,5,6,9],.n 1,.e [1,3,5,6,9,32]] rfl rfl rfl ?_
 refine CW.cond rfl (fun h14 => ?_) (fun h14 => ?_)
 refine CW.g XK 100 [.o 1] rfl rfl rfl ?_
 refine RW.callW (k := 9) (__impl_Keep__open_fn k n hok hpf.n) rfl rfl (Nat.le_of_ble_eq_true rfl) (by decide) (.here (AsW.ob (DT.w (DT.w DT.e)) rfl) (.cons (.one (.r .r)) (.nil))) rfl fun g15 q16 => ?_
 refine RW.g XK 100 [.o 1,.p,.e [6,9,10],.o 3,.e [6,9,36]] rfl rfl rfl ?_
 refine RW.pullO (k := 6) (l := 9) (j := 0) 6 9 0 rfl rfl rfl (by decide) rfl rfl rfl rfl ?_
 refine RW.g XK 100 [.e [6,9,36]] rfl rfl rfl ?_
 refine RW.pullO (k := 6) (l := 9) (j := 1) 6 9 1 rfl rfl rfl (by decide) rfl rfl rfl rfl ?_
 refine RW.g XK 100 [.e [6,36],.o 2,.p,.e [6,7,8]] rfl rfl rfl ?_
 refine CW.freeze 6 (d' := .obj b3 ((Keep.c (openK k n)).map .r)) rfl rfl ?_
 refine CW.ret ?_
 exact Post.tup (by decide) (RVs.c (RV.c (f := fun e => (Keep.c e).map .r) (e' := (openK k n)) rfl rfl rfl rfl (DT.r (DT.r DT.e)) (by rw [perf_open hpf h14] <;> rfl)) (RVs.c (RV.s rfl (by rw [perf_open hpf h14] <;> rfl)) (RVs.c (RV.b rfl (by rw [perf_open hpf h14] <;> rfl)) RVs.e))) (AOs.a rfl (AOs.r (AOs.a rfl AOs.e)))
 refine CW.g XK 100 [.p,.e [1,3,5,6,9],.n 1,.e [1,5,6,9,38,39,40],.p] rfl rfl rfl ?_
 refine CW.loopI 100 (fun (i : Nat) => [(1, I n), (5, .rp (Command.c x)), (6, .obj b3 [.r (.v (.slice none 0 0)), .r (.v (.slice none 0 0))]), (9, .obj b13 [.w (sl 3 Session.c k.sessions) (g12 0 0), .w (sl 3 Item.c k.items) (g12 0 1)]), (38, .r (sl 3 Session.c k.sessions)), (39, I (k.sessions.length : Int)), (40, I (i : Int))]) (fun (i : Nat) => i ≤ k.sessions.length ∧ (k.sessions.take i).any (isTok x.token) = false) (fun (i : Nat) => k.sessions.length - i) 0 rfl (Le.c rfl <| Le.c rfl <| Le.c rfl <| Le.c rfl <| Le.c rfl <| Le.c rfl <| Le.c rfl <| Le.e) ⟨by omega, by simp⟩ ?_
 rintro i ⟨hb, hr⟩
 refine CW.g XK 100 [.n 1,.e [1,5,6,9,38,39,40,41],.p] rfl rfl rfl ?_
 refine CW.cond rfl (fun h17 => ?_) (fun h17 => ?_)
 have hii : i < k.sessions.length := by have := h17; simp at this; first | exact this | omega | (simp; done) | (simp; omega)
 obtain ⟨ei, hei⟩ : ∃ e, k.sessions[i]? = some e := ⟨_, List.getElem?_eq_getElem hii⟩
 have hdi := drop_get hei
 refine CW.g XK 100 [.p,.e [1,5,6,9,38,39,40],.o 1] rfl rfl rfl ?_
 refine RW.v rfl (V.indexS rfl rfl rfl rfl rfl rfl Session.len hei) ?_
 refine RW.h XK 100 [.o 4] rfl ?_;(conv=>whnf);intro b18;(conv=>whnf);refine ⟨rfl,?_⟩
 refine RW.freezeB (ts := (Session.c ei)) 12 rfl (DRd.r (DRd.r (DRd.r DRd.e))) ?_
 refine RW.g XK 100 [.p,.e [1,5,6,9,11,12,38,39,40],.n 1,.e [1,5,6,9,11,12,38,39,40,63]] rfl rfl rfl ?_
 refine CW.cond rfl (fun h19 => ?_) (fun h19 => ?_)
 refine CW.g XK 100 [.p,.e [1,5,6,9,38,39,40],.p] rfl rfl rfl ?_
 refine RW.v rfl (V.inc rfl rfl rfl hii hl1) ?_
 refine RW.g XK 100 [.o 1,.p] rfl rfl rfl ?_
 exact ⟨i + 1, by omega, ⟨by omega, any_snoc hr hei (by simp_all [isTok])⟩, rfl, Le.c rfl <| Le.c rfl <| Le.c rfl <| Le.c rfl <| Le.c rfl <| Le.c rfl <| Le.c rfl <| Le.e⟩
 have hat : At k x i ei := at_of hr hei (by simp_all [isTok])
 refine CW.g XK 100 [.n 1,.e [1,5,6,9,11,12,69]] rfl rfl rfl ?_
 refine CW.cond rfl (fun h20 => ?_) (fun h20 => ?_)
 refine CW.g XK 100 [.o 2,.e [6,9]] rfl rfl rfl ?_
 refine RW.pullO (k := 6) (l := 9) (j := 0) 6 9 0 rfl rfl rfl (by decide) rfl rfl rfl rfl ?_
 refine RW.g XK 100 [.e [6,9]] rfl rfl rfl ?_
 refine RW.pullO (k := 6) (l := 9) (j := 1) 6 9 1 rfl rfl rfl (by decide) rfl rfl rfl rfl ?_
 refine RW.g XK 100 [.e [6],.o 2,.p,.e [6,7,8]] rfl rfl rfl ?_
 refine CW.freeze 6 (d' := .obj b3 ((Keep.c k).map .r)) rfl rfl ?_
 refine CW.ret ?_
 exact Post.tup (by decide) (RVs.c (RV.c (f := fun e => (Keep.c e).map .r) (e' := k) rfl rfl rfl rfl (DT.r (DT.r DT.e)) (by rw [perf_gap hpf h14 hat h20] <;> rfl)) (RVs.c (RV.s rfl (by rw [perf_gap hpf h14 hat h20] <;> rfl)) (RVs.c (RV.b rfl (by rw [perf_gap hpf h14 hat h20] <;> rfl)) RVs.e))) (AOs.a rfl (AOs.r (AOs.a rfl AOs.e)))
 refine CW.seqJ 100 (fun (v21 : Bool) => [(1, I n), (5, .rp (Command.c x)), (6, .obj b3 [.r (.v (.slice none 0 0)), .r (.v (.slice none 0 0))]), (9, .obj b13 [.w (sl 3 Session.c k.sessions) (g12 0 0), .w (sl 3 Item.c k.items) (g12 0 1)]), (11, I (i : Int)), (12, .rp (Session.c ei)), (77, Bo v21)]) (fun v21 => v21 = (decide (x.seq < ei.last) || (x.seq == 0))) ?_ ?_
 refine CW.g XK 100 [.o 6] rfl rfl rfl ?_
 refine RW.gv rfl rfl rfl rfl (fun h22 => V.fieldR rfl rfl rfl rfl (by decide) rfl (Nat.le_of_ble_eq_true rfl)) (fun h22 => ?_) (fun h22 => ?_)
 refine RW.g XK 100 [.o 4,.p] rfl rfl rfl ?_
 exact ⟨_, by first | rfl | (simp_all; done) | (simp_all; omega) | grind, rfl, Le.of rfl⟩
 refine RW.g XK 100 [.o 4,.p] rfl rfl rfl ?_
 exact ⟨_, by first | rfl | (simp_all; done) | (simp_all; omega) | grind, rfl, Le.of rfl⟩
 intro v21 hv23
 refine CW.cond rfl (fun h24 => ?_) (fun h24 => ?_)
 refine CW.g XK 100 [.o 2,.e [6,9]] rfl rfl rfl ?_
 refine RW.pullO (k := 6) (l := 9) (j := 0) 6 9 0 rfl rfl rfl (by decide) rfl rfl rfl rfl ?_
 refine RW.g XK 100 [.e [6,9]] rfl rfl rfl ?_
 refine RW.pullO (k := 6) (l := 9) (j := 1) 6 9 1 rfl rfl rfl (by decide) rfl rfl rfl rfl ?_
 refine RW.g XK 100 [.e [6],.o 2,.p,.e [6,7,8]] rfl rfl rfl ?_
 refine CW.freeze 6 (d' := .obj b3 ((Keep.c k).map .r)) rfl rfl ?_
 refine CW.ret ?_
 exact Post.tup (by decide) (RVs.c (RV.c (f := fun e => (Keep.c e).map .r) (e' := k) rfl rfl rfl rfl (DT.r (DT.r DT.e)) q46) (RVs.c (RV.s rfl q46) (RVs.c (RV.b rfl q46) RVs.e))) (AOs.a rfl (AOs.r (AOs.a rfl AOs.e)))
 refine CW.g XK 100 [.n 1,.e [1,5,6,9,11,12,89]] rfl rfl rfl ?_
 refine CW.cond rfl (fun h25 => ?_) (fun h25 => ?_)
 refine CW.anyJ2 (fc := []) (L0 := []) 100 (fun (_ : Unit) => [(6, .obj b3 [.w (sl 3 Session.c k.sessions) (g12 0 0), .w (sl 3 Item.c k.items) (g12 0 1)]), (7, S ei.reply), (8, Bo true)]) (fun all hall f hf b0 hb K hK => ?_) ?_
 have ro26_2 : ∀ B, RA f E B all 0 (bt 6 63) ⟨100, [(6, .obj b3 [.w (sl 3 Session.c k.sessions) (g12 0 0), .w (sl 3 Item.c k.items) (g12 0 1)]), (7, S ei.reply), (8, Bo true)] ++ b0⟩ K := by
  intro B
  exact RA.of2 hall hf hb (RA.finH (Tell.of rfl) (by kernel_rfl) (hK () _ rfl (Le.of rfl)))
 have ro26_1 : ∀ B, RA f E B all 3 (bt 6 7) ⟨100, [(6, .obj b3 [.r (.v (.slice none 0 0)), .r (.v (.slice none 0 0))]), (9, .obj b13 [.w (sl 3 Session.c k.sessions) (g12 0 0), .w (sl 3 Item.c k.items) (g12 0 1)]), (95, .agg [.al 9 (some 0) 3 k.sessions.length (g12 0 0) 0, .al 9 (some 1) 3 k.items.length (g12 0 1) 0]), (97, S ei.reply)] ++ b0⟩ K := by
  intro B
  refine RA.of2 hall hf hb (RA.stepH (L := [3]) (Tell.of rfl) (by kernel_rfl) (by simp) (RA.each ?_ (RA.each0)))
  refine RO.storeAgg (es := [.al 9 (some 0) 3 k.sessions.length (g12 0 0) 0, .al 9 (some 1) 3 k.items.length (g12 0 1) 0]) rfl rfl rfl rfl rfl rfl rfl rfl rfl rfl (Nat.le_of_ble_eq_true rfl) rfl ?_
  refine RA.keep 100 [6,9,97] rfl ?_;(conv=>whnf);refine ⟨?_⟩
  refine RA.pullO (k := 6) (l := 9) (j := 0) 6 9 0 rfl rfl rfl (by decide) rfl rfl rfl rfl ?_
  refine RA.keep 100 [6,9,97] rfl ?_;(conv=>whnf);refine ⟨?_⟩
  refine RA.pullO (k := 6) (l := 9) (j := 1) 6 9 1 rfl rfl rfl (by decide) rfl rfl rfl rfl ?_
  refine RA.keep 100 [6,97] rfl ?_;(conv=>whnf);refine ⟨?_⟩
  refine RA.fr XK 100 0 [4,5] (bt 6 63) rfl rfl (by kernel_rfl) (Tell.of rfl) ?_
  (conv=>whnf);refine ⟨rfl,fun B=>?_⟩
  exact RA.to2 hall hf hb (ro26_2 B) rfl rfl (by kernel_rfl)
 have ro26_0 : ∀ B, RA f E B all 4 (bt 6 6) ⟨100, [(6, .obj b3 [.r (.v (.slice none 0 0)), .r (.v (.slice none 0 0))]), (9, .obj b13 [.w (sl 3 Session.c k.sessions) (g12 0 0), .w (sl 3 Item.c k.items) (g12 0 1)]), (97, S ei.reply)] ++ b0⟩ K := by
  intro B
  refine RA.of2 hall hf hb (RA.stepH (L := [0]) (Tell.of rfl) (by kernel_rfl) (by simp) (RA.each ?_ (RA.each0)))
  refine RO.v rfl rfl (V.loadAgg rfl rfl rfl rfl rfl (Nat.le_of_ble_eq_true rfl)) rfl ?_
  exact RA.to2 hall hf hb (ro26_1 B) rfl rfl (by kernel_rfl)
 refine RA.start (by kernel_rfl) (by kernel_rfl) (m := 6) (ls' := (bt 6 0)) ?_
 refine RA.fr XK 100 4 [1,2] (bt 6 6) rfl rfl (by kernel_rfl) (Tell.of rfl) ?_
 (conv=>whnf);refine ⟨rfl,fun B=>?_⟩
 exact RA.to2 hall hf hb (ro26_0 B) rfl rfl (by kernel_rfl)
 rintro _
 refine CW.freeze 6 (d' := .obj b3 ((Keep.c k).map .r)) rfl rfl ?_
 refine CW.ret ?_
 exact Post.tup (by decide) (RVs.c (RV.c (f := fun e => (Keep.c e).map .r) (e' := k) rfl rfl rfl rfl (DT.r (DT.r DT.e)) q43) (RVs.c (RV.s rfl q43) (RVs.c (RV.b rfl q43) RVs.e))) (AOs.a rfl (AOs.r (AOs.a rfl AOs.e)))
 refine CW.g XK 100 [.o 2] rfl rfl rfl ?_
 refine RW.callW (k := 9) (__impl_Keep__does_fn k n x hok hpf.k hpf.n) rfl rfl (Nat.le_of_ble_eq_true rfl) (by decide) (.here (AsW.ob (DT.w (DT.w DT.e)) rfl) (.cons (.one (.r .r)) (.cons (.agg (.cons (.r .r) (.cons (.r .r) (.cons (.r .r) (.cons (.r .r) (.cons (.r .r) (.cons (.r .r) (.nil)))))))) (.nil)))) rfl fun g27 q28 => ?_
 refine RW.g XK 100 [.o 1,.p,.e [5,6,9,11,13],.o 9] rfl rfl rfl ?_
 refine RW.swapO 49 9 0 (by decide) rfl rfl rfl ?_
 refine RW.v rfl (V.indexW rfl rfl rfl rfl rfl rfl rfl (by first | exact hii | (rw [do_sess]; exact hii) | (rw [List.length_set]; exact hii) | (rw [List.length_set, do_sess]; exact hii))) ?_
 refine RW.g XK 100 [.o 1] rfl rfl rfl ?_
 refine RW.storeF (m := i) (off := 1) (v := ei) (v' := (⟨ei.token, x.seq, ei.reply⟩ : Session)) (u := .v (.int .i64 x.seq)) (c := Session.c) rfl rfl rfl rfl rfl rfl rfl (.inl rfl) Session.len (by first | exact hei | (rw [do_sess]; exact hei)) (by decide) rfl rfl ?_
 refine RW.relabel 52 49 none ((((doK k n x).1).sessions).set i (⟨ei.token, x.seq, ei.reply⟩ : Session)).length (by simp) rfl ?_
 refine RW.v rfl (V.indexW rfl rfl rfl rfl rfl rfl rfl (by first | exact hii | (rw [do_sess]; exact hii) | (rw [List.length_set]; exact hii) | (rw [List.length_set, do_sess]; exact hii))) ?_
 refine RW.g XK 100 [.o 1] rfl rfl rfl ?_
 refine RW.storeF (m := i) (off := 2) (v := (⟨ei.token, x.seq, ei.reply⟩ : Session)) (v' := (⟨ei.token, x.seq, ((doK k n x).2)⟩ : Session)) (u := .v (.string ((doK k n x).2))) (c := Session.c) rfl rfl rfl rfl rfl rfl rfl (.inl rfl) Session.len (List.getElem?_set_self (by first | exact hii | (rw [do_sess]; exact hii) | (simp; omega))) (by decide) rfl rfl ?_
 refine RW.pullN (k := 9) (l := 49) (j := 0) 9 49 0 rfl rfl rfl (by decide) rfl rfl rfl (by simp) ?_
 refine RW.g XK 100 [.p,.e [6,9,13],.o 3,.e [6,9,62]] rfl rfl rfl ?_
 refine RW.pullO (k := 6) (l := 9) (j := 0) 6 9 0 rfl rfl rfl (by decide) rfl rfl rfl rfl ?_
 refine RW.g XK 100 [.e [6,9,62]] rfl rfl rfl ?_
 refine RW.pullO (k := 6) (l := 9) (j := 1) 6 9 1 rfl rfl rfl (by decide) rfl rfl rfl rfl ?_
 refine RW.g XK 100 [.e [6,9,62],.o 2,.p,.e [6,7,8]] rfl rfl rfl ?_
 refine CW.freeze 6 (d' := .obj b3 [.r (sl 3 Session.c (((((doK k n x).1).sessions).set i (⟨ei.token, x.seq, ei.reply⟩ : Session)).set i (⟨ei.token, x.seq, ((doK k n x).2)⟩ : Session))), .r (sl 3 Item.c (((doK k n x).1).items))]) rfl rfl ?_
 refine CW.ret ?_
 exact Post.tup (by decide) (RVs.c (RV.c (f := fun e => (Keep.c e).map .r) (e' := (⟨(((((doK k n x).1).sessions).set i (⟨ei.token, x.seq, ei.reply⟩ : Session)).set i (⟨ei.token, x.seq, ((doK k n x).2)⟩ : Session)), ((doK k n x).1).items⟩ : Keep)) rfl rfl rfl rfl (DT.r (DT.r DT.e)) (by rw [perf_do hpf h14 hat h20 (hv23.symm.trans h24) h25]; simp [do_sess, List.set_set])) (RVs.c (RV.s rfl (by rw [perf_do hpf h14 hat h20 (hv23.symm.trans h24) h25] <;> rfl)) (RVs.c (RV.b rfl (by rw [perf_do hpf h14 hat h20 (hv23.symm.trans h24) h25] <;> rfl)) RVs.e))) (AOs.a rfl (AOs.r (AOs.a rfl AOs.e)))
 have hii : k.sessions.length ≤ i := by have := h17; simp at this; first | exact this | omega | (simp; done) | (simp; omega)
 have hdi : k.sessions.drop i = [] := List.drop_eq_nil_of_le hii
 refine CW.exit ?_
 refine CW.g XK 100 [.e [6,9],.o 2,.e [6,9]] rfl rfl rfl ?_
 refine RW.pullO (k := 6) (l := 9) (j := 0) 6 9 0 rfl rfl rfl (by decide) rfl rfl rfl rfl ?_
 refine RW.g XK 100 [.e [6,9]] rfl rfl rfl ?_
 refine RW.pullO (k := 6) (l := 9) (j := 1) 6 9 1 rfl rfl rfl (by decide) rfl rfl rfl rfl ?_
 refine RW.g XK 100 [.e [6,9],.o 2,.p,.e [6,7,8]] rfl rfl rfl ?_
 refine CW.freeze 6 (d' := .obj b3 ((Keep.c k).map .r)) rfl rfl ?_
 refine CW.ret ?_
 exact Post.tup (by decide) (RVs.c (RV.c (f := fun e => (Keep.c e).map .r) (e' := k) rfl rfl rfl rfl (DT.r (DT.r DT.e)) (by rw [perf_none hpf h14 hr hii] <;> rfl)) (RVs.c (RV.s rfl (by rw [perf_none hpf h14 hr hii] <;> rfl)) (RVs.c (RV.b rfl (by rw [perf_none hpf h14 hr hii] <;> rfl)) RVs.e))) (AOs.a rfl (AOs.r (AOs.a rfl AOs.e)))
set_option maxHeartbeats 4000000 in
theorem impl_Fold_fn (k : Keep) (l : List Entry) (x : Int) (hk : KOk k) (he : ∀ e ∈ l, entSz e) (hll : l.length ≤ 1048576) : Eng.Fn E.P 37 [.agg ((Keep.c k).map .r), .one (.r (sl 3 Entry.c l)), .one (.r (.v (.int .i64 x)))] (.tup [.agg ((Keep.c ((foldR x l 0 k).1)).map .r), .one (.r (sl 1 cS ((foldR x l 0 k).2)))]) [.agg ((Keep.c k).map .r), .one (.r (sl 3 Entry.c l)), .one (.r (.v (.int .i64 x)))] := by
 refine Eng.Fn.intro (E := E) (rvs := [.cell 6 59, .tmp 7]) Tryz.func37 rfl rfl rfl (by simp [outSlots, moved, rvSlot, sl]) ?_
 intro B g bo
 refine CW.bound (x := .tmp 1) (n := l.length) (AsT.r) (fun hl1 => ?_)
 refine CW.h XK 60 [.e [0,1,2],.o 1] rfl ?_;(conv=>whnf);intro b1;(conv=>whnf);refine ⟨rfl,?_⟩
 refine RW.freezeB (ts := (Keep.c k)) 3 rfl (DRd.r (DRd.r DRd.e)) ?_
 refine RW.h XK 60 [.o 2,.p,.e [1,2,3,6],.o 1] rfl ?_;(conv=>whnf);intro b2;(conv=>whnf);refine ⟨rfl,?_⟩
 refine RW.call rfl (impl_copyKeep_fn k hk.okTo) rfl (.cons (.agg (.cons (.r .r) (.cons (.r .r) (.nil)))) (.nil)) fun g3 => ?_
 refine RW.h XK 60 [.o 2,.e [1,2,6,8,19]] rfl ?_;(conv=>whnf);intro b4;(conv=>whnf);refine ⟨rfl,?_⟩
 refine RW.pullA (k := 8) (l := 19) (j := 0) 8 19 0 rfl rfl rfl (by decide) rfl rfl rfl rfl ?_
 refine RW.g XK 60 [.e [1,2,6,8,19]] rfl rfl rfl ?_
 refine RW.pullA (k := 8) (l := 19) (j := 1) 8 19 1 rfl rfl rfl (by decide) rfl rfl rfl rfl ?_
 refine RW.g XK 60 [.e [1,2,6,8],.p,.e [1,2,6,8],.p,.p] rfl rfl rfl ?_
 refine RW.build0 cS rfl rfl rfl rfl rfl fun X5 => ?_
 refine RW.assignMove rfl rfl rfl (by decide) (Nat.le_of_ble_eq_true rfl) (Nat.le_of_ble_eq_true rfl) ?_
 refine RW.g XK 60 [.p,.e [1,2,6,8,9],.n 1,.e [2,6,8,9,21,22,23],.p] rfl rfl rfl ?_
 refine CW.freeze 8 (d' := .obj b4 ((Keep.c k).map .r)) rfl rfl ?_
 refine CW.loopI 60 (fun (zz : Nat × Keep × List ByteArray × Value) => match zz with | (i, o, rs, X) => [(2, I x), (6, .obj b2 [.r (.v (.slice none 0 0)), .r (.v (.slice none 0 0))]), (8, .obj b4 ((Keep.c o).map .r)), (9, .w (sl 1 cS rs) X), (21, .r (sl 3 Entry.c l)), (22, I (l.length : Int)), (23, I (i : Int))]) (fun (zz : Nat × Keep × List ByteArray × Value) => match zz with | (i, o, rs, X) => FoP x k l i o rs) (fun (zz : Nat × Keep × List ByteArray × Value) => match zz with | (i, o, rs, X) => l.length - i) (0, _, [], _) rfl (Le.c rfl <| Le.c rfl <| Le.c rfl <| Le.c rfl <| Le.c rfl <| Le.c rfl <| Le.c rfl <| Le.e) (FoP.init hk) ?_
 rintro ⟨i, o, rs, X⟩ hP
 refine CW.g XK 60 [.n 1,.e [2,6,8,9,21,22,23,24],.p] rfl rfl rfl ?_
 refine CW.cond rfl (fun h6 => ?_) (fun h6 => ?_)
 have hii : i < l.length := by have := h6; simp at this; first | exact this | omega | (simp; done) | (simp; omega)
 obtain ⟨ei, hei⟩ : ∃ e, l[i]? = some e := ⟨_, List.getElem?_eq_getElem hii⟩
 have hdi := drop_get hei
 refine CW.g XK 60 [.p,.e [2,6,8,9,21,22,23],.o 1] rfl rfl rfl ?_
 refine RW.v rfl (V.indexS rfl rfl rfl rfl rfl rfl Entry.len hei) ?_
 refine RW.h XK 60 [.o 4] rfl ?_;(conv=>whnf);intro b7;(conv=>whnf);refine ⟨rfl,?_⟩
 refine RW.freezeB (ts := (Entry.c ei)) 11 rfl (DRd.r (DRd.r (DRd.r DRd.e))) ?_
 refine RW.g XK 60 [.p,.e [2,6,8,9,10,11,21,22,23],.o 2] rfl rfl rfl ?_
 refine RW.call rfl (impl_ReadCommand_fn ei.data (he ei (List.mem_of_getElem? hei))) rfl (.cons (.one (.r .r)) (.nil)) fun g8 => ?_
 refine RW.h XK 60 [.o 5] rfl ?_;(conv=>whnf);intro b9;(conv=>whnf);refine ⟨rfl,?_⟩
 refine RW.freezeB (ts := (Command.c ((rdCmd ei.data).1))) 12 rfl (DRd.r (DRd.r (DRd.r (DRd.r (DRd.r (DRd.r DRd.e)))))) ?_
 refine RW.g XK 60 [.o 1,.p,.e [2,6,8,9,10,11,12,13,21,22,23],.n 1,.e [2,6,8,9,10,11,12,13,14,21,22,23],.p] rfl rfl rfl ?_
 refine CW.seqJ 60 (fun (v10 : Bool) => [(2, I x), (6, .obj b2 [.r (.v (.slice none 0 0)), .r (.v (.slice none 0 0))]), (8, .obj b4 ((Keep.c o).map .r)), (9, .w (sl 1 cS rs) X), (10, I (i : Int)), (12, .rp (Command.c ((rdCmd ei.data).1))), (14, S (⟨#[]⟩ : ByteArray)), (21, .r (sl 3 Entry.c l)), (22, I (l.length : Int)), (23, I (i : Int)), (39, Bo v10)]) (fun v10 => v10 = ((ei.kind == 3) && ((rdCmd ei.data).2))) ?_ ?_
 refine CW.g XK 60 [.o 4] rfl rfl rfl ?_
 refine RW.gv rfl rfl rfl rfl (fun h11 => V.mv (d := Bo ((rdCmd ei.data).2)) rfl rfl) (fun h11 => ?_) (fun h11 => ?_)
 refine RW.g XK 60 [.o 1,.p] rfl rfl rfl ?_
 exact ⟨_, by first | rfl | (simp_all; done) | (simp_all; omega) | grind, rfl, Le.of rfl⟩
 refine RW.g XK 60 [.o 1,.p] rfl rfl rfl ?_
 exact ⟨_, by first | rfl | (simp_all; done) | (simp_all; omega) | grind, rfl, Le.of rfl⟩
 intro v10 hv12
 refine CW.cond rfl (fun h13 => ?_) (fun h13 => ?_)
 have hvv := hv12.symm.trans h13
 refine CW.g XK 60 [.o 5] rfl rfl rfl ?_
 refine RW.call rfl (impl_Perform_fn o (IntKind.i64.wrap (x + (i : Int))) ((rdCmd ei.data).1) hP.ok.okTo) rfl (.cons (.agg (.cons (.r .r) (.cons (.r .r) (.nil)))) (.cons (.one (.r .r)) (.cons (.agg (.cons (.r .r) (.cons (.r .r) (.cons (.r .r) (.cons (.r .r) (.cons (.r .r) (.cons (.r .r) (.nil)))))))) (.nil)))) fun g14 => ?_
 refine RW.h XK 60 [.o 6] rfl ?_;(conv=>whnf);intro b15;(conv=>whnf);refine ⟨rfl,?_⟩
 refine RW.freezeB (ts := (Keep.c ((perfK o (IntKind.i64.wrap (x + (i : Int))) ((rdCmd ei.data).1)).1))) 15 rfl (DRd.r (DRd.r DRd.e)) ?_
 refine RW.g XK 60 [.o 2,.p,.e [2,6,8,9,14,15,16,17,21,22,23],.n 1,.e [2,6,8,9,14,15,16,21,22,23,50]] rfl rfl rfl ?_
 refine CW.cond rfl (fun h16 => ?_) (fun h16 => ?_)
 have hd := h16
 refine CW.g XK 60 [.o 4,.p,.e [2,6,8,9,14,21,22,23],.o 2] rfl rfl rfl ?_
 refine RW.build1c (c := cS) (v := ((perfK o (IntKind.i64.wrap (x + (i : Int))) ((rdCmd ei.data).1)).2.1)) (u := .v (.string ((perfK o (IntKind.i64.wrap (x + (i : Int))) ((rdCmd ei.data).1)).2.1))) rfl rfl rfl rfl rfl rfl (.inl rfl) rfl rfl fun X17 => ?_
 refine RW.appendSR (c := cS) (l1 := rs) (l2 := [((perfK o (IntKind.i64.wrap (x + (i : Int))) ((rdCmd ei.data).1)).2.1)]) rfl rfl rfl rfl rfl rfl rfl rfl (.al (k := none) (i := 55) (sz := 1) (V := X17) rfl rfl nofun) (by decide) (Nat.le_of_ble_eq_true rfl) cS.len (fun _ => rfl) rfl q9 q9 fun X18 => ?_
 refine RW.assignMove rfl rfl rfl (by decide) (Nat.le_of_ble_eq_true rfl) (Nat.le_of_ble_eq_true rfl) ?_
 refine RW.g XK 60 [.p,.e [2,6,8,9,21,22,23],.p] rfl rfl rfl ?_
 refine RW.v rfl (V.inc rfl rfl rfl hii hl1) ?_
 refine RW.g XK 60 [.o 1,.p] rfl rfl rfl ?_
 exact ⟨(i + 1, _, _, _), by simp only []; omega, q32, rfl, Le.c rfl <| Le.c rfl <| Le.c rfl <| Le.c rfl <| Le.c rfl <| Le.c rfl <| Le.c rfl <| Le.e⟩
 have hd := h16
 refine CW.g XK 60 [.p,.e [2,6,8,9,14,21,22,23],.o 2] rfl rfl rfl ?_
 refine RW.build1c (c := cS) (v := (⟨#[]⟩ : ByteArray)) (u := .v (.string (⟨#[]⟩ : ByteArray))) rfl rfl rfl rfl rfl rfl (.inl rfl) rfl rfl fun X19 => ?_
 refine RW.appendSR (c := cS) (l1 := rs) (l2 := [(⟨#[]⟩ : ByteArray)]) rfl rfl rfl rfl rfl rfl rfl rfl (.al (k := none) (i := 55) (sz := 1) (V := X19) rfl rfl nofun) (by decide) (Nat.le_of_ble_eq_true rfl) cS.len (fun _ => rfl) rfl q9 q9 fun X20 => ?_
 refine RW.assignMove rfl rfl rfl (by decide) (Nat.le_of_ble_eq_true rfl) (Nat.le_of_ble_eq_true rfl) ?_
 refine RW.g XK 60 [.p,.e [2,6,8,9,21,22,23],.p] rfl rfl rfl ?_
 refine RW.v rfl (V.inc rfl rfl rfl hii hl1) ?_
 refine RW.g XK 60 [.o 1,.p] rfl rfl rfl ?_
 exact ⟨(i + 1, _, _, _), by simp only []; omega, q32, rfl, Le.c rfl <| Le.c rfl <| Le.c rfl <| Le.c rfl <| Le.c rfl <| Le.c rfl <| Le.c rfl <| Le.e⟩
 have hvv := hv12.symm.trans h13
 refine CW.g XK 60 [.p,.e [2,6,8,9,14,21,22,23],.o 2] rfl rfl rfl ?_
 refine RW.build1c (c := cS) (v := (⟨#[]⟩ : ByteArray)) (u := .v (.string (⟨#[]⟩ : ByteArray))) rfl rfl rfl rfl rfl rfl (.inl rfl) rfl rfl fun X21 => ?_
 refine RW.appendSR (c := cS) (l1 := rs) (l2 := [(⟨#[]⟩ : ByteArray)]) rfl rfl rfl rfl rfl rfl rfl rfl (.al (k := none) (i := 55) (sz := 1) (V := X21) rfl rfl nofun) (by decide) (Nat.le_of_ble_eq_true rfl) cS.len (fun _ => rfl) rfl q9 q9 fun X22 => ?_
 refine RW.assignMove rfl rfl rfl (by decide) (Nat.le_of_ble_eq_true rfl) (Nat.le_of_ble_eq_true rfl) ?_
 refine RW.g XK 60 [.p,.e [2,6,8,9,21,22,23],.p] rfl rfl rfl ?_
 refine RW.v rfl (V.inc rfl rfl rfl hii hl1) ?_
 refine RW.g XK 60 [.o 1,.p] rfl rfl rfl ?_
 exact ⟨(i + 1, _, _, _), by simp only []; omega, q32, rfl, Le.c rfl <| Le.c rfl <| Le.c rfl <| Le.c rfl <| Le.c rfl <| Le.c rfl <| Le.c rfl <| Le.e⟩
 have hii : l.length ≤ i := by have := h6; simp at this; first | exact this | omega | (simp; done) | (simp; omega)
 have hdi : l.drop i = [] := List.drop_eq_nil_of_le hii
 refine CW.exit ?_
 refine CW.g XK 60 [.e [6,8,9],.o 4] rfl rfl rfl ?_
 refine RW.pullS 7 9 (by decide) rfl rfl ?_
 refine RW.g XK 60 [.p,.e [6,7]] rfl rfl rfl ?_
 refine CW.freeze 7 (d' := .r (sl 1 cS rs)) rfl rfl ?_
 refine CW.ret ?_
 exact Post.tup (by decide) (RVs.c (RV.c (f := fun e => (Keep.c e).map .r) (e' := o) rfl rfl rfl rfl (DT.r (DT.r DT.e)) (by rw [hP.fin hii])) (RVs.c (RV.r rfl (by rw [hP.fin hii])) RVs.e)) (AOs.a rfl (AOs.r (AOs.r AOs.e)))
set_option maxHeartbeats 4000000 in
theorem impl_versionsOk_fn (a : Keep) (b : Keep) (l : List Entry) (hoa : okToKeep a) (hob : okToKeep b) (hol : l.length ≤ 1048576) : Eng.Fn E.P 38 [.agg ((Keep.c a).map .r), .agg ((Keep.c b).map .r), .one (.r (sl 3 Entry.c l))] (.one (.one (.w (.v (.bool (verOk a b l)))))) [.agg ((Keep.c a).map .r), .agg ((Keep.c b).map .r), .one (.r (sl 3 Entry.c l))] := by
 refine Eng.Fn.intro (E := E) (rvs := [.tmp 6]) Tryz.func38 rfl rfl rfl (by simp [outSlots, moved, rvSlot, sl]) ?_
 intro B g bo
 refine CW.bound (x := .tmp 2) (n := l.length) (AsT.r) (fun hl2 => ?_)
 refine CW.g XK 57 [.e [0,1,2]] rfl rfl rfl ?_
 have hl1 : b.items.length ≤ maxLen := by have := hob.2.1; simp only [maxLen]; omega
 refine CW.h XK 57 [.o 1] rfl ?_;(conv=>whnf);intro b1;(conv=>whnf);refine ⟨rfl,?_⟩
 refine RW.freezeB (ts := (Keep.c a)) 3 rfl (DRd.r (DRd.r DRd.e)) ?_
 refine RW.h XK 57 [.o 1] rfl ?_;(conv=>whnf);intro b2;(conv=>whnf);refine ⟨rfl,?_⟩
 refine RW.freezeB (ts := (Keep.c b)) 4 rfl (DRd.r (DRd.r DRd.e)) ?_
 refine RW.g XK 57 [.o 1,.p,.e [2,3,4],.n 1,.e [2,3,13,14,15],.p] rfl rfl rfl ?_
 refine CW.loopI 57 (fun (i : Nat) => [(2, .r (sl 3 Entry.c l)), (3, .rp (Keep.c a)), (13, .r (sl 3 Item.c b.items)), (14, I (b.items.length : Int)), (15, I (i : Int))]) (fun (i : Nat) => i ≤ b.items.length ∧ (b.items.drop i).all (fun x => !verA a x && !(x.ver != 1 && !verC l x)) = verOk a b l) (fun (i : Nat) => b.items.length - i) 0 rfl (Le.c rfl <| Le.c rfl <| Le.c rfl <| Le.c rfl <| Le.c rfl <| Le.e) ⟨by omega, rfl⟩ ?_
 rintro i ⟨hb, hr⟩
 refine CW.g XK 57 [.n 1,.e [2,3,13,14,15,16],.p] rfl rfl rfl ?_
 refine CW.cond rfl (fun h3 => ?_) (fun h3 => ?_)
 have hii : i < b.items.length := by have := h3; simp at this; first | exact this | omega | (simp; done) | (simp; omega)
 obtain ⟨ei, hei⟩ : ∃ e, b.items[i]? = some e := ⟨_, List.getElem?_eq_getElem hii⟩
 have hdi := drop_get hei
 refine CW.g XK 57 [.p,.e [2,3,13,14,15],.p,.p,.p,.p] rfl rfl rfl ?_
 refine RW.v rfl (V.indexS rfl rfl rfl rfl rfl rfl Item.len hei) ?_
 refine RW.h XK 57 [.o 3] rfl ?_;(conv=>whnf);intro b4;(conv=>whnf);refine ⟨rfl,?_⟩
 refine RW.freezeB (ts := (Item.c ei)) 8 rfl (DRd.r (DRd.r (DRd.r DRd.e))) ?_
 refine RW.g XK 57 [.p,.e [2,3,8,13,14,15],.o 3] rfl rfl rfl ?_
 refine RW.call rfl (impl_ItemOf_fn a ei.key hoa) rfl (.cons (.agg (.cons (.r .r) (.cons (.r .r) (.nil)))) (.cons (.one (.r .r)) (.nil))) fun g5 => ?_
 refine RW.h XK 57 [.o 5] rfl ?_;(conv=>whnf);intro b6;(conv=>whnf);refine ⟨rfl,?_⟩
 refine RW.freezeB (ts := (Item.c ((itemOf a ei.key).1))) 9 rfl (DRd.r (DRd.r (DRd.r DRd.e))) ?_
 refine RW.g XK 57 [.o 1,.p,.e [2,3,8,9,10,13,14,15],.p] rfl rfl rfl ?_
 refine CW.seqJ 57 (fun (v7 : Bool) => [(2, .r (sl 3 Entry.c l)), (3, .rp (Keep.c a)), (8, .rp (Item.c ei)), (13, .r (sl 3 Item.c b.items)), (14, I (b.items.length : Int)), (15, I (i : Int)), (33, Bo v7)]) (fun v7 => v7 = (((itemOf a ei.key).2) && decide (ei.ver < ((itemOf a ei.key).1).ver))) ?_ ?_
 refine CW.g XK 57 [.o 2] rfl rfl rfl ?_
 refine RW.gv rfl rfl rfl rfl (fun h8 => V.fieldR rfl rfl rfl rfl (by decide) rfl (Nat.le_of_ble_eq_true rfl)) (fun h8 => ?_) (fun h8 => ?_)
 refine RW.g XK 57 [.o 5,.p] rfl rfl rfl ?_
 exact ⟨_, by first | rfl | (simp_all; done) | (simp_all; omega) | grind, rfl, Le.of rfl⟩
 refine RW.g XK 57 [.o 5,.p] rfl rfl rfl ?_
 exact ⟨_, by first | rfl | (simp_all; done) | (simp_all; omega) | grind, rfl, Le.of rfl⟩
 intro v7 hv9
 refine CW.cond rfl (fun h10 => ?_) (fun h10 => ?_)
 have hvA : verA a ei = true := hv9.symm.trans h10
 refine CW.g XK 57 [.n 1,.e [6]] rfl rfl rfl ?_
 refine CW.ret ?_
 exact Post.one (RV.b rfl (by rw [← hr, hdi, List.all_cons, vo_noA hvA, Bool.false_and])) (AOs.a rfl (AOs.a rfl (AOs.r AOs.e)))
 have hvA : verA a ei = false := hv9.symm.trans h10
 refine CW.g XK 57 [.p,.e [2,3,8,13,14,15]] rfl rfl rfl ?_
 refine CW.seqJ 57 (fun (v11 : Bool) => [(2, .r (sl 3 Entry.c l)), (3, .rp (Keep.c a)), (8, .rp (Item.c ei)), (11, Bo v11), (13, .r (sl 3 Item.c b.items)), (14, I (b.items.length : Int)), (15, I (i : Int))]) (fun v11 => v11 = ((inR ei.ver 1 (l.length : Int)) && ((l.getD (ei.ver.toNat - 1) Entry.z).kind == 3))) ?_ ?_
 refine CW.g XK 57 [.o 4] rfl rfl rfl ?_
 refine RW.call rfl (impl_within_fn ei.ver 1 (l.length : Int)) rfl (.cons (.one (.r .r)) (.cons (.one (.r .r)) (.cons (.one (.r .r)) (.nil)))) fun g12 => ?_
 refine RW.g XK 57 [.o 1] rfl rfl rfl ?_
 refine RW.gv rfl rfl rfl rfl (fun h13 => V.mv (d := .r (sl 3 Entry.c l)) rfl rfl) (fun h13 => ?_) (fun h13 => ?_)
 refine RW.g XK 57 [.o 3] rfl rfl rfl ?_
 refine RW.gt rfl rfl rfl rfl (V.indexZ (m := (ei.ver.toNat - 1)) (v := (l.getD (ei.ver.toNat - 1) Entry.z)) rfl rfl rfl rfl rfl rfl (ver_ix (by assumption) hol) Entry.len (ver_at (by assumption))) ?_
 refine RW.g XK 57 [.o 5,.p] rfl rfl rfl ?_
 exact ⟨_, by first | rfl | (simp_all; done) | (simp_all; omega) | grind, rfl, Le.of rfl⟩
 refine RW.g XK 57 [.o 9,.p] rfl rfl rfl ?_
 exact ⟨_, by first | rfl | (simp_all; done) | (simp_all; omega) | grind, rfl, Le.of rfl⟩
 intro v11 hv14
 refine CW.seqJ 57 (fun (v15 : Bool) => [(2, .r (sl 3 Entry.c l)), (3, .rp (Keep.c a)), (13, .r (sl 3 Item.c b.items)), (14, I (b.items.length : Int)), (15, I (i : Int)), (55, Bo v15)]) (fun v15 => v15 = ((ei.ver != 1) && (!v11))) ?_ ?_
 refine CW.g XK 57 [.o 4] rfl rfl rfl ?_
 refine RW.gv rfl rfl rfl rfl (fun h16 => V.mv (d := Bo v11) rfl rfl) (fun h16 => ?_) (fun h16 => ?_)
 refine RW.g XK 57 [.o 2,.p] rfl rfl rfl ?_
 exact ⟨_, by first | rfl | (simp_all; done) | (simp_all; omega) | grind, rfl, Le.of rfl⟩
 refine RW.g XK 57 [.o 2,.p] rfl rfl rfl ?_
 exact ⟨_, by first | rfl | (simp_all; done) | (simp_all; omega) | grind, rfl, Le.of rfl⟩
 intro v15 hv17
 refine CW.cond rfl (fun h18 => ?_) (fun h18 => ?_)
 have hvB : (ei.ver != 1 && !verC l ei) = true := by have h9 := hv17.symm.trans h18; simp_all [verC]
 refine CW.g XK 57 [.n 1,.e [6]] rfl rfl rfl ?_
 refine CW.ret ?_
 exact Post.one (RV.b rfl (by rw [← hr, hdi, List.all_cons, vo_noB hvB, Bool.false_and])) (AOs.a rfl (AOs.a rfl (AOs.r AOs.e)))
 have hvB : (ei.ver != 1 && !verC l ei) = false := by have h9 := hv17.symm.trans h18; simp_all [verC]
 refine CW.g XK 57 [.p,.e [2,3,13,14,15],.p] rfl rfl rfl ?_
 refine RW.v rfl (V.inc rfl rfl rfl hii hl1) ?_
 refine RW.g XK 57 [.o 1,.p] rfl rfl rfl ?_
 exact ⟨i + 1, by omega, ⟨by omega, by rw [← hr, hdi, List.all_cons, vo_yes hvA hvB, Bool.true_and]⟩, rfl, Le.c rfl <| Le.c rfl <| Le.c rfl <| Le.c rfl <| Le.c rfl <| Le.e⟩
 have hii : b.items.length ≤ i := by have := h3; simp at this; first | exact this | omega | (simp; done) | (simp; omega)
 have hdi : b.items.drop i = [] := List.drop_eq_nil_of_le hii
 refine CW.exit ?_
 refine CW.g XK 57 [.e [],.n 1,.e [6]] rfl rfl rfl ?_
 refine CW.ret ?_
 exact Post.one (RV.b rfl (by rw [← hr, List.drop_of_length_le (by omega)]; rfl)) (AOs.a rfl (AOs.a rfl (AOs.r AOs.e)))
end Go.Proofs.YtdipdkfbaehglaaGreatDoor.Y
