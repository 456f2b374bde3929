import Derived.Test.YtdipdkfbaehglaaGreatDoorWFoldedP
namespace Go.Proofs.YtdipdkfbaehglaaGreatDoor.Y
open Go Go.RowKit Go.Eng Go.Proofs
set_option maxRecDepth 10000
set_option maxHeartbeats 4000000 in
theorem spec_Fold_fn (k : Keep) (l : List Entry) (x : Int) (hk : KOk k) (he : ∀ e ∈ l, entSz e) (hll : l.length ≤ 1048576) (hix : idxOk x l.length) : Eng.Fn E.P 47 [.agg ((Keep.c k).map .r), .one (.r (sl 3 Entry.c l)), .one (.r (.v (.int .i64 x)))] (.tup [.agg ((Keep.c ((foldR x l 0 k).1)).map .r), .one (.r (sl 1 cS ((foldR x l 0 k).2)))]) [.agg ((Keep.c k).map .r), .one (.r (sl 3 Entry.c l)), .one (.r (.v (.int .i64 x)))] := by
 refine Eng.Fn.intro (E := E) (rvs := [.cell 6 59, .tmp 7]) Tryz.func47 rfl rfl rfl (by simp [outSlots, moved, rvSlot, sl]) ?_
 intro B g bo
 refine CW.bound (x := .tmp 1) (n := l.length) (AsT.r) (fun hl1 => ?_)
 refine CW.h XK 71 [.e [0,1,2],.o 1] rfl ?_;(conv=>whnf);intro b1;(conv=>whnf);refine ⟨rfl,?_⟩
 refine RW.freezeB (ts := (Keep.c k)) 3 rfl (DRd.r (DRd.r DRd.e)) ?_
 refine RW.h XK 71 [.o 2,.p,.e [1,2,3,6],.o 1] rfl ?_;(conv=>whnf);intro b2;(conv=>whnf);refine ⟨rfl,?_⟩
 refine RW.call rfl (spec_l15Copy_fn k hk.okTo) rfl (.cons (.agg (.cons (.r .r) (.cons (.r .r) (.nil)))) (.nil)) fun g3 => ?_
 refine RW.h XK 71 [.o 2,.e [1,2,6,8,18]] rfl ?_;(conv=>whnf);intro b4;(conv=>whnf);refine ⟨rfl,?_⟩
 refine RW.pullA (k := 8) (l := 18) (j := 0) 8 18 0 rfl rfl rfl (by decide) rfl rfl rfl rfl ?_
 refine RW.g XK 71 [.e [1,2,6,8,18]] rfl rfl rfl ?_
 refine RW.pullA (k := 8) (l := 18) (j := 1) 8 18 1 rfl rfl rfl (by decide) rfl rfl rfl rfl ?_
 refine RW.g XK 71 [.e [1,2,6,8],.p,.e [1,2,6,8],.p,.p] rfl rfl rfl ?_
 refine RW.build0 cS rfl rfl rfl rfl rfl fun X5 => ?_
 refine RW.assignMove rfl rfl rfl (by decide) (Nat.le_of_ble_eq_true rfl) (Nat.le_of_ble_eq_true rfl) ?_
 refine RW.g XK 71 [.p,.e [1,2,6,8,9],.n 1,.e [1,2,6,8,9,10],.p] rfl rfl rfl ?_
 refine CW.freeze 8 (d' := .obj b4 ((Keep.c k).map .r)) rfl rfl ?_
 refine CW.loopI 71 (fun (zz : Nat × Keep × List ByteArray × Value) => match zz with | (i, o, rs, X) => [(1, .r (sl 3 Entry.c l)), (2, I x), (6, .obj b2 [.r (.v (.slice none 0 0)), .r (.v (.slice none 0 0))]), (8, .obj b4 ((Keep.c o).map .r)), (9, .w (sl 1 cS rs) X), (10, I (i : Int))]) (fun (zz : Nat × Keep × List ByteArray × Value) => match zz with | (i, o, rs, X) => FoP x k l i o rs) (fun (zz : Nat × Keep × List ByteArray × Value) => match zz with | (i, o, rs, X) => l.length - i) (0, _, [], _) rfl (Le.c rfl <| Le.c rfl <| Le.c rfl <| Le.c rfl <| Le.c rfl <| Le.c rfl <| Le.e) (FoP.init hk) ?_
 rintro ⟨i, o, rs, X⟩ hP
 refine CW.g XK 71 [.n 1,.e [1,2,6,8,9,10,23]] rfl rfl rfl ?_
 refine CW.cond rfl (fun h6 => ?_) (fun h6 => ?_)
 have hii : i < l.length := by have := h6; simp at this; first | exact this | omega | (simp; done) | (simp; omega)
 obtain ⟨ei, hei⟩ : ∃ e, l[i]? = some e := ⟨_, List.getElem?_eq_getElem hii⟩
 have hdi := drop_get hei
 refine CW.g XK 71 [.p,.e [1,2,6,8,9,10],.n 1,.e [1,2,6,8,9,10,11],.p] rfl rfl rfl ?_
 refine CW.seqJ 71 (fun (v7 : Bool) => [(1, .r (sl 3 Entry.c l)), (2, I x), (6, .obj b2 [.r (.v (.slice none 0 0)), .r (.v (.slice none 0 0))]), (8, .obj b4 ((Keep.c o).map .r)), (9, .w (sl 1 cS rs) X), (10, I (i : Int)), (11, S (⟨#[]⟩ : ByteArray)), (39, Bo v7)]) (fun v7 => v7 = (((ei.kind == 3) && decide (x ≥ (-1000000))) && decide (x ≤ 1000000))) ?_ ?_
 refine CW.g XK 71 [.o 2] rfl rfl rfl ?_
 refine RW.v rfl (V.indexS rfl rfl rfl rfl rfl rfl Entry.len hei) ?_
 refine RW.g XK 71 [.o 4] rfl rfl rfl ?_
 refine RW.gv rfl rfl rfl rfl (fun h8 => V.mv (d := I x) rfl rfl) (fun h8 => ?_) (fun h8 => ?_)
 refine RW.g XK 71 [.o 3] rfl rfl rfl ?_
 refine RW.gv rfl rfl rfl rfl (fun h9 => V.mv (d := I x) rfl rfl) (fun h9 => ?_) (fun h9 => ?_)
 refine RW.g XK 71 [.o 2,.p] rfl rfl rfl ?_
 exact ⟨_, by first | rfl | (simp_all; done) | (simp_all; omega) | grind, rfl, Le.of rfl⟩
 refine RW.g XK 71 [.o 2,.p] rfl rfl rfl ?_
 exact ⟨_, by first | rfl | (simp_all; done) | (simp_all; omega) | grind, rfl, Le.of rfl⟩
 refine RW.g XK 71 [.o 6,.p] rfl rfl rfl ?_
 exact ⟨_, by first | rfl | (simp_all; done) | (simp_all; omega) | grind, rfl, Le.of rfl⟩
 intro v7 hv10
 refine CW.cond rfl (fun h11 => ?_) (fun h11 => ?_)
 have hvv := hv10.symm.trans h11
 refine CW.g XK 71 [.o 2] rfl rfl rfl ?_
 refine RW.v rfl (V.indexS rfl rfl rfl rfl rfl rfl Entry.len hei) ?_
 refine RW.g XK 71 [.o 2] rfl rfl rfl ?_
 refine RW.call rfl (spec_ReadCommand_fn ei.data (he ei (List.mem_of_getElem? hei))) rfl (.cons (.one (.r .r)) (.nil)) fun g12 => ?_
 refine RW.h XK 71 [.o 5] rfl ?_;(conv=>whnf);intro b13;(conv=>whnf);refine ⟨rfl,?_⟩
 refine RW.freezeB (ts := (Command.c ((rdCmd ei.data).1))) 12 rfl (DRd.r (DRd.r (DRd.r (DRd.r (DRd.r (DRd.r DRd.e)))))) ?_
 refine RW.g XK 71 [.o 1,.p,.e [1,2,6,8,9,10,11,12,13],.o 5] rfl rfl rfl ?_
 refine RW.call rfl (spec_Perform_fn o (IntKind.i64.wrap (x + (i : Int))) ((rdCmd ei.data).1) hP.ok.okTo) rfl (.cons (.agg (.cons (.r .r) (.cons (.r .r) (.nil)))) (.cons (.one (.r .r)) (.cons (.agg (.cons (.r .r) (.cons (.r .r) (.cons (.r .r) (.cons (.r .r) (.cons (.r .r) (.cons (.r .r) (.nil)))))))) (.nil)))) fun g14 => ?_
 refine RW.h XK 71 [.o 6] rfl ?_;(conv=>whnf);intro b15;(conv=>whnf);refine ⟨rfl,?_⟩
 refine RW.freezeB (ts := (Keep.c ((perfK o (IntKind.i64.wrap (x + (i : Int))) ((rdCmd ei.data).1)).1))) 14 rfl (DRd.r (DRd.r DRd.e)) ?_
 refine RW.g XK 71 [.o 2,.p,.e [1,2,6,8,9,10,11,13,14,15,16]] rfl rfl rfl ?_
 refine CW.seqJ 71 (fun (v16 : Bool) => [(1, .r (sl 3 Entry.c l)), (2, I x), (6, .obj b2 [.r (.v (.slice none 0 0)), .r (.v (.slice none 0 0))]), (8, .obj b4 ((Keep.c o).map .r)), (9, .w (sl 1 cS rs) X), (10, I (i : Int)), (11, S (⟨#[]⟩ : ByteArray)), (14, .rp (Keep.c ((perfK o (IntKind.i64.wrap (x + (i : Int))) ((rdCmd ei.data).1)).1))), (15, S ((perfK o (IntKind.i64.wrap (x + (i : Int))) ((rdCmd ei.data).1)).2.1)), (62, Bo v16)]) (fun v16 => v16 = (((rdCmd ei.data).2) && ((perfK o (IntKind.i64.wrap (x + (i : Int))) ((rdCmd ei.data).1)).2.2))) ?_ ?_
 refine CW.g XK 71 [.o 2] rfl rfl rfl ?_
 refine RW.gv rfl rfl rfl rfl (fun h17 => V.mv (d := Bo ((perfK o (IntKind.i64.wrap (x + (i : Int))) ((rdCmd ei.data).1)).2.2)) rfl rfl) (fun h17 => ?_) (fun h17 => ?_)
 refine RW.g XK 71 [.o 1,.p] rfl rfl rfl ?_
 exact ⟨_, by first | rfl | (simp_all; done) | (simp_all; omega) | grind, rfl, Le.of rfl⟩
 refine RW.g XK 71 [.o 1,.p] rfl rfl rfl ?_
 exact ⟨_, by first | rfl | (simp_all; done) | (simp_all; omega) | grind, rfl, Le.of rfl⟩
 intro v16 hv18
 refine CW.cond rfl (fun h19 => ?_) (fun h19 => ?_)
 have hww := hv18.symm.trans h19
 refine CW.g XK 71 [.n 1,.e [1,2,6,8,9,10,15],.o 2,.p,.e [1,2,6,8,9,10,11],.o 2] rfl rfl rfl ?_
 refine RW.build1c (c := cS) (v := ((perfK o (IntKind.i64.wrap (x + (i : Int))) ((rdCmd ei.data).1)).2.1)) (u := .v (.string ((perfK o (IntKind.i64.wrap (x + (i : Int))) ((rdCmd ei.data).1)).2.1))) rfl rfl rfl rfl rfl rfl (.inl rfl) rfl rfl fun X20 => ?_
 refine RW.appendSR (c := cS) (l1 := rs) (l2 := [((perfK o (IntKind.i64.wrap (x + (i : Int))) ((rdCmd ei.data).1)).2.1)]) rfl rfl rfl rfl rfl rfl rfl rfl (.al (k := none) (i := 67) (sz := 1) (V := X20) rfl rfl nofun) (by decide) (Nat.le_of_ble_eq_true rfl) cS.len (fun _ => rfl) rfl q9 q9 fun X21 => ?_
 refine RW.assignMove rfl rfl rfl (by decide) (Nat.le_of_ble_eq_true rfl) (Nat.le_of_ble_eq_true rfl) ?_
 refine RW.g XK 71 [.p,.e [1,2,6,8,9,10],.o 1] rfl rfl rfl ?_
 refine RW.v rfl (V.inc rfl rfl rfl hii hl1) ?_
 refine RW.g XK 71 [.o 1,.p] rfl rfl rfl ?_
 exact ⟨(i + 1, _, _, _), by simp only []; omega, q28, rfl, Le.c rfl <| Le.c rfl <| Le.c rfl <| Le.c rfl <| Le.c rfl <| Le.c rfl <| Le.e⟩
 have hww := hv18.symm.trans h19
 refine CW.g XK 71 [.p,.e [1,2,6,8,9,10,11],.o 2] rfl rfl rfl ?_
 refine RW.build1c (c := cS) (v := (⟨#[]⟩ : ByteArray)) (u := .v (.string (⟨#[]⟩ : ByteArray))) rfl rfl rfl rfl rfl rfl (.inl rfl) rfl rfl fun X22 => ?_
 refine RW.appendSR (c := cS) (l1 := rs) (l2 := [(⟨#[]⟩ : ByteArray)]) rfl rfl rfl rfl rfl rfl rfl rfl (.al (k := none) (i := 67) (sz := 1) (V := X22) rfl rfl nofun) (by decide) (Nat.le_of_ble_eq_true rfl) cS.len (fun _ => rfl) rfl q9 q9 fun X23 => ?_
 refine RW.assignMove rfl rfl rfl (by decide) (Nat.le_of_ble_eq_true rfl) (Nat.le_of_ble_eq_true rfl) ?_
 refine RW.g XK 71 [.p,.e [1,2,6,8,9,10],.o 1] rfl rfl rfl ?_
 refine RW.v rfl (V.inc rfl rfl rfl hii hl1) ?_
 refine RW.g XK 71 [.o 1,.p] rfl rfl rfl ?_
 exact ⟨(i + 1, _, _, _), by simp only []; omega, q28, rfl, Le.c rfl <| Le.c rfl <| Le.c rfl <| Le.c rfl <| Le.c rfl <| Le.c rfl <| Le.e⟩
 have hvv := hv10.symm.trans h11
 refine CW.g XK 71 [.p,.e [1,2,6,8,9,10,11],.o 2] rfl rfl rfl ?_
 refine RW.build1c (c := cS) (v := (⟨#[]⟩ : ByteArray)) (u := .v (.string (⟨#[]⟩ : ByteArray))) rfl rfl rfl rfl rfl rfl (.inl rfl) rfl rfl fun X24 => ?_
 refine RW.appendSR (c := cS) (l1 := rs) (l2 := [(⟨#[]⟩ : ByteArray)]) rfl rfl rfl rfl rfl rfl rfl rfl (.al (k := none) (i := 67) (sz := 1) (V := X24) rfl rfl nofun) (by decide) (Nat.le_of_ble_eq_true rfl) cS.len (fun _ => rfl) rfl q9 q9 fun X25 => ?_
 refine RW.assignMove rfl rfl rfl (by decide) (Nat.le_of_ble_eq_true rfl) (Nat.le_of_ble_eq_true rfl) ?_
 refine RW.g XK 71 [.p,.e [1,2,6,8,9,10],.o 1] rfl rfl rfl ?_
 refine RW.v rfl (V.inc rfl rfl rfl hii hl1) ?_
 refine RW.g XK 71 [.o 1,.p] rfl rfl rfl ?_
 exact ⟨(i + 1, _, _, _), by simp only []; omega, q28, rfl, Le.c rfl <| Le.c rfl <| Le.c rfl <| Le.c rfl <| Le.c rfl <| Le.c rfl <| Le.e⟩
 have hii : l.length ≤ i := by have := h6; simp at this; first | exact this | omega | (simp; done) | (simp; omega)
 have hdi : l.drop i = [] := List.drop_eq_nil_of_le hii
 refine CW.exit ?_
 refine CW.g XK 71 [.e [6,8,9],.o 4] rfl rfl rfl ?_
 refine RW.pullS 7 9 (by decide) rfl rfl ?_
 refine RW.g XK 71 [.p,.e [6,7]] rfl rfl rfl ?_
 refine CW.freeze 7 (d' := .r (sl 1 cS rs)) rfl rfl ?_
 refine CW.ret ?_
 exact Post.tup (by decide) (RVs.c (RV.c (f := fun e => (Keep.c e).map .r) (e' := o) rfl rfl rfl rfl (DT.r (DT.r DT.e)) (by rw [hP.fin hii])) (RVs.c (RV.r rfl (by rw [hP.fin hii])) RVs.e)) (AOs.a rfl (AOs.r (AOs.r AOs.e)))
set_option maxHeartbeats 4000000 in
theorem spec_SameKeep_fn (a : Keep) (b : Keep) (hok : okToKeep a) : Eng.Fn E.P 48 [.agg ((Keep.c a).map .r), .agg ((Keep.c b).map .r)] (.one (.one (.w (.v (.bool (eqKeep a b)))))) [.agg ((Keep.c a).map .r), .agg ((Keep.c b).map .r)] := by
 refine Eng.Fn.intro (E := E) (rvs := [.tmp 4]) Tryz.func48 rfl rfl rfl (by simp [outSlots, moved, rvSlot, sl]) ?_
 intro B g bo
 refine CW.g XK 59 [.e [0,1]] rfl rfl rfl ?_
 have hl1 : a.sessions.length ≤ maxLen := by have := hok.1.1; simp only [maxLen]; omega
 have hl2 : a.items.length ≤ maxLen := by have := hok.2.1; simp only [maxLen]; omega
 refine CW.h XK 59 [.o 1] rfl ?_;(conv=>whnf);intro b1;(conv=>whnf);refine ⟨rfl,?_⟩
 refine RW.freezeB (ts := (Keep.c a)) 2 rfl (DRd.r (DRd.r DRd.e)) ?_
 refine RW.h XK 59 [.o 1] rfl ?_;(conv=>whnf);intro b2;(conv=>whnf);refine ⟨rfl,?_⟩
 refine RW.freezeB (ts := (Keep.c b)) 3 rfl (DRd.r (DRd.r DRd.e)) ?_
 refine RW.g XK 59 [.o 1,.p,.e [2,3],.p] rfl rfl rfl ?_
 refine CW.seqJ 59 (fun (v3 : Bool) => [(2, .rp (Keep.c a)), (3, .rp (Keep.c b)), (22, Bo v3)]) (fun v3 => v3 = (((a.sessions.length : Int) != (b.sessions.length : Int)) || ((a.items.length : Int) != (b.items.length : Int)))) ?_ ?_
 refine CW.g XK 59 [.o 8] rfl rfl rfl ?_
 refine RW.gv rfl rfl rfl rfl (fun h4 => V.fieldR rfl rfl rfl rfl (by decide) rfl (Nat.le_of_ble_eq_true rfl)) (fun h4 => ?_) (fun h4 => ?_)
 refine RW.g XK 59 [.o 7,.p] rfl rfl rfl ?_
 exact ⟨_, by first | rfl | (simp_all; done) | (simp_all; omega) | grind, rfl, Le.of rfl⟩
 refine RW.g XK 59 [.o 7,.p] rfl rfl rfl ?_
 exact ⟨_, by first | rfl | (simp_all; done) | (simp_all; omega) | grind, rfl, Le.of rfl⟩
 intro v3 hv5
 refine CW.cond rfl (fun h6 => ?_) (fun h6 => ?_)
 have hne := hv5.symm.trans h6
 refine CW.g XK 59 [.n 1,.e [4]] rfl rfl rfl ?_
 refine CW.ret ?_
 exact Post.one (RV.b rfl (by exact (eqK_len hne).symm)) (AOs.a rfl (AOs.a rfl AOs.e))
 obtain ⟨he1, he2⟩ : a.sessions.length = b.sessions.length ∧ a.items.length = b.items.length := by have hne := hv5.symm.trans h6; simp at hne; omega
 refine CW.g XK 59 [.p,.e [2,3],.n 1,.e [2,3,5],.p] rfl rfl rfl ?_
 refine CW.loopI 59 (fun (i : Nat) => [(2, .rp (Keep.c a)), (3, .rp (Keep.c b)), (5, I (i : Int))]) (fun (i : Nat) => i ≤ a.sessions.length ∧ eqS eqSession (a.sessions.drop i) (b.sessions.drop i) = eqS eqSession a.sessions b.sessions) (fun (i : Nat) => a.sessions.length - i) 0 rfl (Le.c rfl <| Le.c rfl <| Le.c rfl <| Le.e) ⟨by omega, rfl⟩ ?_
 rintro i ⟨hbi, hri⟩
 refine CW.g XK 59 [.n 1,.e [2,3,5,27]] rfl rfl rfl ?_
 refine CW.cond rfl (fun h7 => ?_) (fun h7 => ?_)
 have hii : i < a.sessions.length := by have := h7; simp at this; first | exact this | omega | (simp; done) | (simp; omega)
 obtain ⟨ei, hei⟩ : ∃ e, a.sessions[i]? = some e := ⟨_, List.getElem?_eq_getElem hii⟩
 have hdi := drop_get hei
 obtain ⟨fi, hfi⟩ : ∃ e, b.sessions[i]? = some e := ⟨_, List.getElem?_eq_getElem (by omega)⟩
 refine CW.g XK 59 [.p,.e [2,3,5],.p,.p,.p] rfl rfl rfl ?_
 refine CW.drawn (by kernel_rfl) ?_
 refine RQ.k XK 59 3 rfl ?_
 (conv=>whnf);refine ⟨rfl,?_⟩
 refine RQ.v rfl (V.indexS rfl rfl rfl rfl rfl rfl Session.len hei) ?_
 refine RQ.k XK 59 4 rfl ?_
 (conv=>whnf);refine ⟨rfl,?_⟩
 refine RQ.v rfl (V.indexS rfl rfl rfl rfl rfl rfl Session.len hfi) ?_
 refine RQ.k XK 59 1 rfl ?_
 (conv=>whnf);refine ⟨rfl,?_⟩
 refine RQ.v rfl (V.eqAgg (xs := Session.vs ei) (ys := Session.vs fi) rfl rfl rfl (by kernel_rfl) (eq156 ei fi) (.inr ⟨rfl, rfl⟩)) ?_
 refine RQ.nil ?_
 refine CW.g XK 59 [.e [2,3,5,40]] rfl rfl rfl ?_
 refine CW.cond rfl (fun h8 => ?_) (fun h8 => ?_)
 have he9 := h8
 refine CW.g XK 59 [.n 1,.e [4]] rfl rfl rfl ?_
 refine CW.ret ?_
 exact Post.one (RV.b rfl (by rw [eqKeep, ← hri, eqS_step hei hfi, if_neg (by simpa using he9)]; rfl)) (AOs.a rfl (AOs.a rfl AOs.e))
 have he9 := h8
 refine CW.g XK 59 [.p,.e [2,3,5],.o 1] rfl rfl rfl ?_
 refine RW.v rfl (V.inc rfl rfl rfl hii hl1) ?_
 refine RW.g XK 59 [.o 1,.p] rfl rfl rfl ?_
 exact ⟨i + 1, by omega, ⟨by omega, by rw [← hri, eqS_step hei hfi, if_pos (by simpa using he9)]⟩, rfl, Le.c rfl <| Le.c rfl <| Le.c rfl <| Le.e⟩
 have hii : a.sessions.length ≤ i := by have := h7; simp at this; first | exact this | omega | (simp; done) | (simp; omega)
 have hdi : a.sessions.drop i = [] := List.drop_eq_nil_of_le hii
 have hqi : eqS eqSession a.sessions b.sessions = true := by rw [← hri]; exact eqS_end hii he1
 refine CW.exit ?_
 refine CW.g XK 59 [.e [2,3],.n 1,.e [2,3,6],.p] rfl rfl rfl ?_
 refine CW.loopI 59 (fun (j : Nat) => [(2, .rp (Keep.c a)), (3, .rp (Keep.c b)), (6, I (j : Int))]) (fun (j : Nat) => j ≤ a.items.length ∧ eqS eqItem (a.items.drop j) (b.items.drop j) = eqS eqItem a.items b.items) (fun (j : Nat) => a.items.length - j) 0 rfl (Le.c rfl <| Le.c rfl <| Le.c rfl <| Le.e) ⟨by omega, rfl⟩ ?_
 rintro j ⟨hbj, hrj⟩
 refine CW.g XK 59 [.n 1,.e [2,3,6,45]] rfl rfl rfl ?_
 refine CW.cond rfl (fun h9 => ?_) (fun h9 => ?_)
 have hij : j < a.items.length := by have := h9; simp at this; first | exact this | omega | (simp; done) | (simp; omega)
 obtain ⟨ej, hej⟩ : ∃ e, a.items[j]? = some e := ⟨_, List.getElem?_eq_getElem hij⟩
 have hdj := drop_get hej
 obtain ⟨fj, hfj⟩ : ∃ e, b.items[j]? = some e := ⟨_, List.getElem?_eq_getElem (by omega)⟩
 refine CW.g XK 59 [.p,.e [2,3,6],.p,.p,.p] rfl rfl rfl ?_
 refine CW.drawn (by kernel_rfl) ?_
 refine RQ.k XK 59 3 rfl ?_
 (conv=>whnf);refine ⟨rfl,?_⟩
 refine RQ.v rfl (V.indexS rfl rfl rfl rfl rfl rfl Item.len hej) ?_
 refine RQ.k XK 59 4 rfl ?_
 (conv=>whnf);refine ⟨rfl,?_⟩
 refine RQ.v rfl (V.indexS rfl rfl rfl rfl rfl rfl Item.len hfj) ?_
 refine RQ.k XK 59 1 rfl ?_
 (conv=>whnf);refine ⟨rfl,?_⟩
 refine RQ.v rfl (V.eqAgg (xs := Item.vs ej) (ys := Item.vs fj) rfl rfl rfl (by kernel_rfl) (eq71 ej fj) (.inr ⟨rfl, rfl⟩)) ?_
 refine RQ.nil ?_
 refine CW.g XK 59 [.e [2,3,6,58]] rfl rfl rfl ?_
 refine CW.cond rfl (fun h10 => ?_) (fun h10 => ?_)
 have he9 := h10
 refine CW.g XK 59 [.n 1,.e [4]] rfl rfl rfl ?_
 refine CW.ret ?_
 exact Post.one (RV.b rfl (by rw [eqKeep, ← hrj, eqS_step hej hfj, if_neg (by simpa using he9)]; simp)) (AOs.a rfl (AOs.a rfl AOs.e))
 have he9 := h10
 refine CW.g XK 59 [.p,.e [2,3,6],.o 1] rfl rfl rfl ?_
 refine RW.v rfl (V.inc rfl rfl rfl hij hl2) ?_
 refine RW.g XK 59 [.o 1,.p] rfl rfl rfl ?_
 exact ⟨j + 1, by omega, ⟨by omega, by rw [← hrj, eqS_step hej hfj, if_pos (by simpa using he9)]⟩, rfl, Le.c rfl <| Le.c rfl <| Le.c rfl <| Le.e⟩
 have hij : a.items.length ≤ j := by have := h9; simp at this; first | exact this | omega | (simp; done) | (simp; omega)
 have hdj : a.items.drop j = [] := List.drop_eq_nil_of_le hij
 have hqj : eqS eqItem a.items b.items = true := by rw [← hrj]; exact eqS_end hij he2
 refine CW.exit ?_
 refine CW.g XK 59 [.e [],.n 1,.e [4]] rfl rfl rfl ?_
 refine CW.ret ?_
 exact Post.one (RV.b rfl (by rw [eqKeep, hqi, hqj]; rfl)) (AOs.a rfl (AOs.a rfl AOs.e))
set_option maxHeartbeats 4000000 in
theorem spec_Folded_fn (w : World) (n : Int) (hok : okToWorld w) : Eng.Fn E.P 11 [.agg ((World.c w).map .r), .one (.r (.v (.int .i64 n)))] (.one (.one (.w (.v (.bool (fdB w n)))))) [.agg ((World.c w).map .r), .one (.r (.v (.int .i64 n)))] := by
 refine Eng.Fn.intro (E := E) (rvs := [.tmp 4]) Tryz.func11 rfl rfl rfl (by simp [outSlots, moved, rvSlot, sl]) ?_
 intro B g bo
 refine CW.g XK 55 [.e [0,1]] rfl rfl rfl ?_
 have hS : okSl okToServer w.servers := hok.2.1
 have hA : okSl okToApplied w.applied := hok.2.2.2.2.2.1
 have hEl : (ents w.applied).length ≤ 1048576 := Nat.le_trans (ents_len w.applied) hA.1
 have hLS : w.servers.length ≤ maxLen := by have := hS.1; simp only [maxLen]; omega
 refine CW.h XK 55 [.o 1] rfl ?_;(conv=>whnf);intro b1;(conv=>whnf);refine ⟨rfl,?_⟩
 refine RW.freezeB (ts := (World.c w)) 2 rfl (DRd.r (DRd.r (DRd.r (DRd.r (DRd.r (DRd.r (DRd.r DRd.e))))))) ?_
 refine RW.g XK 55 [.o 1,.p,.e [1,2],.o 4] rfl rfl rfl ?_
 refine RW.call rfl (spec_l01In_fn n 1 (w.servers.length : Int)) rfl (.cons (.one (.r .r)) (.cons (.one (.r .r)) (.cons (.one (.r .r)) (.nil)))) fun g2 => ?_
 refine RW.g XK 55 [.o 1,.p,.e [1,2,15]] rfl rfl rfl ?_
 refine CW.cond rfl (fun h3 => ?_) (fun h3 => ?_)
 have hno := nT h3
 refine CW.g XK 55 [.n 1,.e [4]] rfl rfl rfl ?_
 refine CW.ret ?_
 exact Post.one (RV.b rfl (by exact (fs_no1 hno).symm)) (AOs.a rfl (AOs.r AOs.e))
 have hin := nF h3
 refine CW.g XK 55 [.p,.e [1,2],.o 4] rfl rfl rfl ?_
 refine RW.v rfl (V.indexZ (m := (n.toNat - 1)) (v := (srvAt w n)) rfl rfl rfl rfl rfl rfl (srv_ix hin hS.1) Server.len (srv_some hin)) ?_
 refine RW.h XK 55 [.o 3] rfl ?_;(conv=>whnf);intro b4;(conv=>whnf);refine ⟨rfl,?_⟩
 refine RW.freezeB (ts := [.v (.int .i64 (((srvAt w n).node).id)), .v (.int .i64 (((srvAt w n).node).term_)), .v (.int .i64 (((srvAt w n).node).vote)), .v (.int .i64 (((srvAt w n).node).role)), .v (.int .i64 (((srvAt w n).node).lead)), sl 1 cI (((srvAt w n).node).conf), .v (.int .i64 ((((srvAt w n).node).log).start)), .v (.int .i64 ((((srvAt w n).node).log).startTerm)), sl 3 Entry.c ((((srvAt w n).node).log).entries), .v (.int .i64 (((srvAt w n).node).commit)), .v (.int .i64 (((srvAt w n).node).clock)), .v (.int .i64 (((srvAt w n).node).limit)), sl 1 cI (((srvAt w n).node).votes), sl 4 Peer.c (((srvAt w n).node).peers), sl 3 File.c (((srvAt w n).disk).files), .v (.int .i64 (((srvAt w n).journal).number)), .v (.int .i64 (((srvAt w n).journal).term_)), .v (.int .i64 (((srvAt w n).journal).vote)), .v (.int .i64 ((((srvAt w n).journal).log).start)), .v (.int .i64 ((((srvAt w n).journal).log).startTerm)), sl 3 Entry.c ((((srvAt w n).journal).log).entries), sl 3 Session.c (((srvAt w n).keep).sessions), sl 3 Item.c (((srvAt w n).keep).items), .v (.int .i64 ((srvAt w n).applied)), .v (.string ((srvAt w n).stage)), .v (.int .i64 ((srvAt w n).stageAt)), .v (.int .i64 ((srvAt w n).stageTerm))]) 5 rfl (DRd.r (DRd.r (DRd.r (DRd.r (DRd.r (DRd.r (DRd.r (DRd.r (DRd.r (DRd.r (DRd.r (DRd.r (DRd.r (DRd.r (DRd.r (DRd.r (DRd.r (DRd.r (DRd.r (DRd.r (DRd.r (DRd.r (DRd.r (DRd.r (DRd.r (DRd.r (DRd.r DRd.e))))))))))))))))))))))))))) ?_
 refine RW.g XK 55 [.p,.e [2,5],.o 2] rfl rfl rfl ?_
 refine RW.call rfl (spec_Entries_fn w.applied hA.1) rfl (.cons (.one (.r .r)) (.nil)) fun g5 => ?_
 refine RW.g XK 55 [.o 5,.p,.e [5,6,7],.p] rfl rfl rfl ?_
 refine CW.seqJ 55 (fun (v6 : Bool) => [(5, .rp [.v (.int .i64 (((srvAt w n).node).id)), .v (.int .i64 (((srvAt w n).node).term_)), .v (.int .i64 (((srvAt w n).node).vote)), .v (.int .i64 (((srvAt w n).node).role)), .v (.int .i64 (((srvAt w n).node).lead)), sl 1 cI (((srvAt w n).node).conf), .v (.int .i64 ((((srvAt w n).node).log).start)), .v (.int .i64 ((((srvAt w n).node).log).startTerm)), sl 3 Entry.c ((((srvAt w n).node).log).entries), .v (.int .i64 (((srvAt w n).node).commit)), .v (.int .i64 (((srvAt w n).node).clock)), .v (.int .i64 (((srvAt w n).node).limit)), sl 1 cI (((srvAt w n).node).votes), sl 4 Peer.c (((srvAt w n).node).peers), sl 3 File.c (((srvAt w n).disk).files), .v (.int .i64 (((srvAt w n).journal).number)), .v (.int .i64 (((srvAt w n).journal).term_)), .v (.int .i64 (((srvAt w n).journal).vote)), .v (.int .i64 ((((srvAt w n).journal).log).start)), .v (.int .i64 ((((srvAt w n).journal).log).startTerm)), sl 3 Entry.c ((((srvAt w n).journal).log).entries), sl 3 Session.c (((srvAt w n).keep).sessions), sl 3 Item.c (((srvAt w n).keep).items), .v (.int .i64 ((srvAt w n).applied)), .v (.string ((srvAt w n).stage)), .v (.int .i64 ((srvAt w n).stageAt)), .v (.int .i64 ((srvAt w n).stageTerm))]), (6, .r (sl 3 Entry.c (ents w.applied))), (41, Bo v6)]) (fun v6 => v6 = (((!(pairs badApplied [] w.applied)) || decide ((srvAt w n).applied < 0)) || decide ((srvAt w n).applied > ((ents w.applied).length : Int)))) ?_ ?_
 refine CW.g XK 55 [.o 3] rfl rfl rfl ?_
 refine RW.gv rfl rfl rfl rfl (fun h7 => V.fieldR rfl rfl rfl rfl (by decide) rfl (Nat.le_of_ble_eq_true rfl)) (fun h7 => ?_) (fun h7 => ?_)
 refine RW.g XK 55 [.o 4] rfl rfl rfl ?_
 refine RW.gv rfl rfl rfl rfl (fun h8 => V.fieldR rfl rfl rfl rfl (by decide) rfl (Nat.le_of_ble_eq_true rfl)) (fun h8 => ?_) (fun h8 => ?_)
 refine RW.g XK 55 [.o 5,.p] rfl rfl rfl ?_
 exact ⟨_, by first | rfl | (simp_all; done) | (simp_all; omega) | grind, rfl, Le.of rfl⟩
 refine RW.g XK 55 [.o 5,.p] rfl rfl rfl ?_
 exact ⟨_, by first | rfl | (simp_all; done) | (simp_all; omega) | grind, rfl, Le.of rfl⟩
 refine RW.g XK 55 [.o 10,.p] rfl rfl rfl ?_
 exact ⟨_, by first | rfl | (simp_all; done) | (simp_all; omega) | grind, rfl, Le.of rfl⟩
 intro v6 hv9
 refine CW.cond rfl (fun h10 => ?_) (fun h10 => ?_)
 have hvv := hv9.symm.trans h10
 refine CW.g XK 55 [.n 1,.e [4]] rfl rfl rfl ?_
 refine CW.ret ?_
 exact Post.one (RV.b rfl (by exact (fs_no2 hin hvv).symm)) (AOs.a rfl (AOs.r AOs.e))
 have fs2 := fs_2 (hv9.symm.trans h10)
 have hap := fs2.2
 refine CW.g XK 55 [.p,.e [5,6]] rfl rfl rfl ?_
 refine CW.anyJ2 (fc := []) (L0 := [(5, .rp [.v (.int .i64 (((srvAt w n).node).id)), .v (.int .i64 (((srvAt w n).node).term_)), .v (.int .i64 (((srvAt w n).node).vote)), .v (.int .i64 (((srvAt w n).node).role)), .v (.int .i64 (((srvAt w n).node).lead)), sl 1 cI (((srvAt w n).node).conf), .v (.int .i64 ((((srvAt w n).node).log).start)), .v (.int .i64 ((((srvAt w n).node).log).startTerm)), sl 3 Entry.c ((((srvAt w n).node).log).entries), .v (.int .i64 (((srvAt w n).node).commit)), .v (.int .i64 (((srvAt w n).node).clock)), .v (.int .i64 (((srvAt w n).node).limit)), sl 1 cI (((srvAt w n).node).votes), sl 4 Peer.c (((srvAt w n).node).peers), sl 3 File.c (((srvAt w n).disk).files), .v (.int .i64 (((srvAt w n).journal).number)), .v (.int .i64 (((srvAt w n).journal).term_)), .v (.int .i64 (((srvAt w n).journal).vote)), .v (.int .i64 ((((srvAt w n).journal).log).start)), .v (.int .i64 ((((srvAt w n).journal).log).startTerm)), sl 3 Entry.c ((((srvAt w n).journal).log).entries), sl 3 Session.c (((srvAt w n).keep).sessions), sl 3 Item.c (((srvAt w n).keep).items), .v (.int .i64 ((srvAt w n).applied)), .v (.string ((srvAt w n).stage)), .v (.int .i64 ((srvAt w n).stageAt)), .v (.int .i64 ((srvAt w n).stageTerm))])]) 55 (fun (zz : Nat × (Nat → Nat → Value) × (Nat → Nat → Value)) => match zz with | (bo11_9_1, go11_0_1, go11_5_1) => [(8, .obj bo11_9_1 ((Keep.c ((foldR 1 ((ents w.applied).take ((srvAt w n).applied.toNat)) 0 keepNew).1)).map .r))]) (fun all hall f hf b0 hb K hK => ?_) ?_
 have ro11_15 : ∀ B, ∀ (bo11_9_1 : Nat), ∀ (go11_0_1 : Nat → Nat → Value), ∀ (go11_5_1 : Nat → Nat → Value), RA f E B all 0 (bt 12 4095) ⟨55, [(8, .obj bo11_9_1 ((Keep.c ((foldR 1 ((ents w.applied).take ((srvAt w n).applied.toNat)) 0 keepNew).1)).map .r))] ++ b0⟩ K := by
  intro B bo11_9_1 go11_0_1 go11_5_1
  exact RA.of2 hall hf hb (RA.finH (Tell.of rfl) (by kernel_rfl) (hK (bo11_9_1, go11_0_1, go11_5_1) _ rfl (Le.of rfl)))
 have ro11_14 : ∀ B, ∀ (bo11_9_1 : Nat), ∀ (go11_0_1 : Nat → Nat → Value), ∀ (go11_5_1 : Nat → Nat → Value), RA f E B all 2 (bt 12 1791) ⟨55, [(8, .obj bo11_9_1 ((Keep.c ((foldR 1 ((ents w.applied).take ((srvAt w n).applied.toNat)) 0 keepNew).1)).map .r)), (42, .tup [.u, .r (sl 1 cS ((foldR 1 ((ents w.applied).take ((srvAt w n).applied.toNat)) 0 keepNew).2))])] ++ b0⟩ K := by
  intro B bo11_9_1 go11_0_1 go11_5_1
  refine RA.of2 hall hf hb (RA.stepH (L := [8]) (Tell.of rfl) (by kernel_rfl) (by simp) (RA.each ?_ (RA.each0)))
  refine RO.extract (d := .r (sl 1 cS ((foldR 1 ((ents w.applied).take ((srvAt w n).applied.toNat)) 0 keepNew).2))) rfl rfl rfl rfl rfl (by decide) (Nat.le_of_ble_eq_true rfl) rfl rfl ?_
  refine RA.fr XK 55 0 [11] (bt 12 4095) rfl rfl (by kernel_rfl) (Tell.of rfl) ?_
  (conv=>whnf);refine ⟨rfl,fun B=>?_⟩
  exact RA.to2 hall hf hb (ro11_15 B bo11_9_1 go11_0_1 go11_5_1) rfl rfl (by kernel_rfl)
 have ro11_13 : ∀ B, ∀ (bo11_9_1 : Nat), ∀ (go11_0_1 : Nat → Nat → Value), ∀ (go11_5_1 : Nat → Nat → Value), RA f E B all 2 (bt 12 1023) ⟨55, [(8, .obj bo11_9_1 [.r (.v (.slice none 0 0)), .r (.v (.slice none 0 0))]), (49, .agg ((Keep.c ((foldR 1 ((ents w.applied).take ((srvAt w n).applied.toNat)) 0 keepNew).1)).map .r)), (50, .r (sl 1 cS ((foldR 1 ((ents w.applied).take ((srvAt w n).applied.toNat)) 0 keepNew).2)))] ++ b0⟩ K := by
  intro B bo11_9_1 go11_0_1 go11_5_1
  refine RA.of2 hall hf hb (RA.stepH (L := [10]) (Tell.of rfl) (by kernel_rfl) (by simp) (RA.each ?_ (RA.each0)))
  refine RO.storeAgg (es := ((Keep.c ((foldR 1 ((ents w.applied).take ((srvAt w n).applied.toNat)) 0 keepNew).1)).map .r)) rfl rfl rfl rfl rfl rfl rfl rfl rfl rfl (Nat.le_of_ble_eq_true rfl) rfl ?_
  refine RA.fr XK 55 0 [11] (bt 12 4095) rfl rfl (by kernel_rfl) (Tell.of rfl) ?_
  (conv=>whnf);refine ⟨rfl,fun B=>?_⟩
  exact RA.to2 hall hf hb (ro11_15 B bo11_9_1 go11_0_1 go11_5_1) rfl rfl (by kernel_rfl)
 have ro11_12 : ∀ B, ∀ (bo11_9_1 : Nat), ∀ (go11_0_1 : Nat → Nat → Value), ∀ (go11_5_1 : Nat → Nat → Value), RA f E B all 3 (bt 12 895) ⟨55, [(8, .obj bo11_9_1 [.r (.v (.slice none 0 0)), .r (.v (.slice none 0 0))]), (42, .tup [.agg ((Keep.c ((foldR 1 ((ents w.applied).take ((srvAt w n).applied.toNat)) 0 keepNew).1)).map .r), .u]), (50, .r (sl 1 cS ((foldR 1 ((ents w.applied).take ((srvAt w n).applied.toNat)) 0 keepNew).2)))] ++ b0⟩ K := by
  intro B bo11_9_1 go11_0_1 go11_5_1
  refine RA.of2 hall hf hb (RA.stepH (L := [7]) (Tell.of rfl) (by kernel_rfl) (by simp) (RA.each ?_ (RA.each0)))
  refine RO.extract (d := .agg ((Keep.c ((foldR 1 ((ents w.applied).take ((srvAt w n).applied.toNat)) 0 keepNew).1)).map .r)) rfl rfl rfl rfl rfl (by decide) (Nat.le_of_ble_eq_true rfl) rfl rfl ?_
  exact RA.to2 hall hf hb (ro11_13 B bo11_9_1 go11_0_1 go11_5_1) rfl rfl (by kernel_rfl)
 have ro11_11 : ∀ B, ∀ (bo11_9_1 : Nat), ∀ (go11_0_1 : Nat → Nat → Value), ∀ (go11_5_1 : Nat → Nat → Value), RA f E B all 3 (bt 12 767) ⟨55, [(8, .obj bo11_9_1 [.r (.v (.slice none 0 0)), .r (.v (.slice none 0 0))]), (42, .tup [.u, .r (sl 1 cS ((foldR 1 ((ents w.applied).take ((srvAt w n).applied.toNat)) 0 keepNew).2))]), (49, .agg ((Keep.c ((foldR 1 ((ents w.applied).take ((srvAt w n).applied.toNat)) 0 keepNew).1)).map .r))] ++ b0⟩ K := by
  intro B bo11_9_1 go11_0_1 go11_5_1
  refine RA.of2 hall hf hb (RA.stepH (L := [8, 10]) (Tell.of rfl) (by kernel_rfl) (by simp) (RA.each ?_ (RA.each ?_ (RA.each0))))
  refine RO.extract (d := .r (sl 1 cS ((foldR 1 ((ents w.applied).take ((srvAt w n).applied.toNat)) 0 keepNew).2))) rfl rfl rfl rfl rfl (by decide) (Nat.le_of_ble_eq_true rfl) rfl rfl ?_
  exact RA.to2 hall hf hb (ro11_13 B bo11_9_1 go11_0_1 go11_5_1) rfl rfl (by kernel_rfl)
  refine RO.storeAgg (es := ((Keep.c ((foldR 1 ((ents w.applied).take ((srvAt w n).applied.toNat)) 0 keepNew).1)).map .r)) rfl rfl rfl rfl rfl rfl rfl rfl rfl rfl (Nat.le_of_ble_eq_true rfl) rfl ?_
  exact RA.to2 hall hf hb (ro11_14 B bo11_9_1 go11_0_1 go11_5_1) rfl rfl (by kernel_rfl)
 have ro11_10 : ∀ B, ∀ (go11_0_1 : Nat → Nat → Value), ∀ (go11_5_1 : Nat → Nat → Value), RA f E B all 3 (bt 12 511) ⟨55, [(49, .agg ((Keep.c ((foldR 1 ((ents w.applied).take ((srvAt w n).applied.toNat)) 0 keepNew).1)).map .r)), (50, .r (sl 1 cS ((foldR 1 ((ents w.applied).take ((srvAt w n).applied.toNat)) 0 keepNew).2)))] ++ b0⟩ K := by
  intro B go11_0_1 go11_5_1
  refine RA.of2 hall hf hb (RA.stepH (L := [9]) (Tell.of rfl) (by kernel_rfl) (by simp) (RA.each ?_ (RA.each0)))
  refine RO.alloc (ds := [.r (.v (.slice none 0 0)), .r (.v (.slice none 0 0))]) rfl rfl rfl rfl rfl rfl fun bo11_9_1 => ?_
  exact RA.to2 hall hf hb (ro11_13 B bo11_9_1 go11_0_1 go11_5_1) rfl rfl (by kernel_rfl)
 have ro11_9 : ∀ B, ∀ (bo11_9_1 : Nat), ∀ (go11_0_1 : Nat → Nat → Value), ∀ (go11_5_1 : Nat → Nat → Value), RA f E B all 4 (bt 12 639) ⟨55, [(8, .obj bo11_9_1 [.r (.v (.slice none 0 0)), .r (.v (.slice none 0 0))]), (42, .tup [.agg ((Keep.c ((foldR 1 ((ents w.applied).take ((srvAt w n).applied.toNat)) 0 keepNew).1)).map .r), .r (sl 1 cS ((foldR 1 ((ents w.applied).take ((srvAt w n).applied.toNat)) 0 keepNew).2))])] ++ b0⟩ K := by
  intro B bo11_9_1 go11_0_1 go11_5_1
  refine RA.of2 hall hf hb (RA.stepH (L := [7, 8]) (Tell.of rfl) (by kernel_rfl) (by simp) (RA.each ?_ (RA.each ?_ (RA.each0))))
  refine RO.extract (d := .agg ((Keep.c ((foldR 1 ((ents w.applied).take ((srvAt w n).applied.toNat)) 0 keepNew).1)).map .r)) rfl rfl rfl rfl rfl (by decide) (Nat.le_of_ble_eq_true rfl) rfl rfl ?_
  exact RA.to2 hall hf hb (ro11_11 B bo11_9_1 go11_0_1 go11_5_1) rfl rfl (by kernel_rfl)
  refine RO.extract (d := .r (sl 1 cS ((foldR 1 ((ents w.applied).take ((srvAt w n).applied.toNat)) 0 keepNew).2))) rfl rfl rfl rfl rfl (by decide) (Nat.le_of_ble_eq_true rfl) rfl rfl ?_
  exact RA.to2 hall hf hb (ro11_12 B bo11_9_1 go11_0_1 go11_5_1) rfl rfl (by kernel_rfl)
 have ro11_8 : ∀ B, ∀ (go11_0_1 : Nat → Nat → Value), ∀ (go11_5_1 : Nat → Nat → Value), RA f E B all 4 (bt 12 383) ⟨55, [(42, .tup [.agg ((Keep.c ((foldR 1 ((ents w.applied).take ((srvAt w n).applied.toNat)) 0 keepNew).1)).map .r), .u]), (50, .r (sl 1 cS ((foldR 1 ((ents w.applied).take ((srvAt w n).applied.toNat)) 0 keepNew).2)))] ++ b0⟩ K := by
  intro B go11_0_1 go11_5_1
  refine RA.of2 hall hf hb (RA.stepH (L := [7, 9]) (Tell.of rfl) (by kernel_rfl) (by simp) (RA.each ?_ (RA.each ?_ (RA.each0))))
  refine RO.extract (d := .agg ((Keep.c ((foldR 1 ((ents w.applied).take ((srvAt w n).applied.toNat)) 0 keepNew).1)).map .r)) rfl rfl rfl rfl rfl (by decide) (Nat.le_of_ble_eq_true rfl) rfl rfl ?_
  exact RA.to2 hall hf hb (ro11_10 B go11_0_1 go11_5_1) rfl rfl (by kernel_rfl)
  refine RO.alloc (ds := [.r (.v (.slice none 0 0)), .r (.v (.slice none 0 0))]) rfl rfl rfl rfl rfl rfl fun bo11_9_1 => ?_
  exact RA.to2 hall hf hb (ro11_12 B bo11_9_1 go11_0_1 go11_5_1) rfl rfl (by kernel_rfl)
 have ro11_7 : ∀ B, ∀ (go11_0_1 : Nat → Nat → Value), ∀ (go11_5_1 : Nat → Nat → Value), RA f E B all 4 (bt 12 255) ⟨55, [(42, .tup [.u, .r (sl 1 cS ((foldR 1 ((ents w.applied).take ((srvAt w n).applied.toNat)) 0 keepNew).2))]), (49, .agg ((Keep.c ((foldR 1 ((ents w.applied).take ((srvAt w n).applied.toNat)) 0 keepNew).1)).map .r))] ++ b0⟩ K := by
  intro B go11_0_1 go11_5_1
  refine RA.of2 hall hf hb (RA.stepH (L := [8, 9]) (Tell.of rfl) (by kernel_rfl) (by simp) (RA.each ?_ (RA.each ?_ (RA.each0))))
  refine RO.extract (d := .r (sl 1 cS ((foldR 1 ((ents w.applied).take ((srvAt w n).applied.toNat)) 0 keepNew).2))) rfl rfl rfl rfl rfl (by decide) (Nat.le_of_ble_eq_true rfl) rfl rfl ?_
  exact RA.to2 hall hf hb (ro11_10 B go11_0_1 go11_5_1) rfl rfl (by kernel_rfl)
  refine RO.alloc (ds := [.r (.v (.slice none 0 0)), .r (.v (.slice none 0 0))]) rfl rfl rfl rfl rfl rfl fun bo11_9_1 => ?_
  exact RA.to2 hall hf hb (ro11_11 B bo11_9_1 go11_0_1 go11_5_1) rfl rfl (by kernel_rfl)
 have ro11_6 : ∀ B, ∀ (bo11_9_1 : Nat), ∀ (go11_0_1 : Nat → Nat → Value), ∀ (go11_5_1 : Nat → Nat → Value), RA f E B all 5 (bt 12 575) ⟨55, [(8, .obj bo11_9_1 [.r (.v (.slice none 0 0)), .r (.v (.slice none 0 0))]), (48, .tup [.agg ((Keep.c ((foldR 1 ((ents w.applied).take ((srvAt w n).applied.toNat)) 0 keepNew).1)).map .r), .r (sl 1 cS ((foldR 1 ((ents w.applied).take ((srvAt w n).applied.toNat)) 0 keepNew).2))])] ++ b0⟩ K := by
  intro B bo11_9_1 go11_0_1 go11_5_1
  refine RA.of2 hall hf hb (RA.stepH (L := [6]) (Tell.of rfl) (by kernel_rfl) (by simp) (RA.each ?_ (RA.each0)))
  refine RO.moveMove rfl rfl rfl rfl rfl (by decide) (Nat.le_of_ble_eq_true rfl) (Nat.le_of_ble_eq_true rfl) ?_
  exact RA.to2 hall hf hb (ro11_9 B bo11_9_1 go11_0_1 go11_5_1) rfl rfl (by kernel_rfl)
 have ro11_5 : ∀ B, ∀ (go11_0_1 : Nat → Nat → Value), ∀ (go11_5_1 : Nat → Nat → Value), RA f E B all 5 (bt 12 127) ⟨55, [(42, .tup [.agg ((Keep.c ((foldR 1 ((ents w.applied).take ((srvAt w n).applied.toNat)) 0 keepNew).1)).map .r), .r (sl 1 cS ((foldR 1 ((ents w.applied).take ((srvAt w n).applied.toNat)) 0 keepNew).2))])] ++ b0⟩ K := by
  intro B go11_0_1 go11_5_1
  refine RA.of2 hall hf hb (RA.stepH (L := [7, 8, 9]) (Tell.of rfl) (by kernel_rfl) (by simp) (RA.each ?_ (RA.each ?_ (RA.each ?_ (RA.each0)))))
  refine RO.extract (d := .agg ((Keep.c ((foldR 1 ((ents w.applied).take ((srvAt w n).applied.toNat)) 0 keepNew).1)).map .r)) rfl rfl rfl rfl rfl (by decide) (Nat.le_of_ble_eq_true rfl) rfl rfl ?_
  exact RA.to2 hall hf hb (ro11_7 B go11_0_1 go11_5_1) rfl rfl (by kernel_rfl)
  refine RO.extract (d := .r (sl 1 cS ((foldR 1 ((ents w.applied).take ((srvAt w n).applied.toNat)) 0 keepNew).2))) rfl rfl rfl rfl rfl (by decide) (Nat.le_of_ble_eq_true rfl) rfl rfl ?_
  exact RA.to2 hall hf hb (ro11_8 B go11_0_1 go11_5_1) rfl rfl (by kernel_rfl)
  refine RO.alloc (ds := [.r (.v (.slice none 0 0)), .r (.v (.slice none 0 0))]) rfl rfl rfl rfl rfl rfl fun bo11_9_1 => ?_
  exact RA.to2 hall hf hb (ro11_9 B bo11_9_1 go11_0_1 go11_5_1) rfl rfl (by kernel_rfl)
 have ro11_4 : ∀ B, ∀ (bo11_9_1 : Nat), ∀ (go11_0_1 : Nat → Nat → Value), RA f E B all 6 (bt 12 543) ⟨55, [(8, .obj bo11_9_1 [.r (.v (.slice none 0 0)), .r (.v (.slice none 0 0))]), (43, .agg [.w (sl 3 Session.c keepNew.sessions) (go11_0_1 0 0), .w (sl 3 Item.c keepNew.items) (go11_0_1 0 1)]), (47, .r (sl 3 Entry.c ((ents w.applied).take ((srvAt w n).applied.toNat))))] ++ b0⟩ K := by
  intro B bo11_9_1 go11_0_1
  refine RA.of2 hall hf hb (RA.stepH (L := [5]) (Tell.of rfl) (by kernel_rfl) (by simp) (RA.each ?_ (RA.each0)))
  refine RO.freeze 43 (d' := .agg ((Keep.c keepNew).map .r)) rfl rfl ?_
  refine RO.call rfl rfl (spec_Fold_fn keepNew ((ents w.applied).take ((srvAt w n).applied.toNat)) 1 kn_ok (take_in (ents_in hA)) (by rw [List.length_take]; omega) (idx1 _)) rfl (.cons (.agg (.cons (.r .r) (.cons (.r .r) (.nil)))) (.cons (.one (.r .r)) (.cons (.one (.r .r)) (.nil)))) rfl fun go11_5_1 => ?_
  exact RA.to2 hall hf hb (ro11_6 B bo11_9_1 go11_0_1 go11_5_1) rfl rfl (by kernel_rfl)
 have ro11_3 : ∀ B, ∀ (go11_0_1 : Nat → Nat → Value), ∀ (go11_5_1 : Nat → Nat → Value), RA f E B all 6 (bt 12 63) ⟨55, [(48, .tup [.agg ((Keep.c ((foldR 1 ((ents w.applied).take ((srvAt w n).applied.toNat)) 0 keepNew).1)).map .r), .r (sl 1 cS ((foldR 1 ((ents w.applied).take ((srvAt w n).applied.toNat)) 0 keepNew).2))])] ++ b0⟩ K := by
  intro B go11_0_1 go11_5_1
  refine RA.of2 hall hf hb (RA.stepH (L := [6, 9]) (Tell.of rfl) (by kernel_rfl) (by simp) (RA.each ?_ (RA.each ?_ (RA.each0))))
  refine RO.moveMove rfl rfl rfl rfl rfl (by decide) (Nat.le_of_ble_eq_true rfl) (Nat.le_of_ble_eq_true rfl) ?_
  exact RA.to2 hall hf hb (ro11_5 B go11_0_1 go11_5_1) rfl rfl (by kernel_rfl)
  refine RO.alloc (ds := [.r (.v (.slice none 0 0)), .r (.v (.slice none 0 0))]) rfl rfl rfl rfl rfl rfl fun bo11_9_1 => ?_
  exact RA.to2 hall hf hb (ro11_6 B bo11_9_1 go11_0_1 go11_5_1) rfl rfl (by kernel_rfl)
 have ro11_2 : ∀ B, ∀ (bo11_9_1 : Nat), RA f E B all 7 (bt 12 542) ⟨55, [(8, .obj bo11_9_1 [.r (.v (.slice none 0 0)), .r (.v (.slice none 0 0))]), (47, .r (sl 3 Entry.c ((ents w.applied).take ((srvAt w n).applied.toNat))))] ++ b0⟩ K := by
  intro B bo11_9_1
  refine RA.of2 hall hf hb (RA.stepH (L := [0]) (Tell.of rfl) (by kernel_rfl) (by simp) (RA.each ?_ (RA.each0)))
  refine RO.call rfl rfl (spec_KeepNew_fn ) rfl (.nil) rfl fun go11_0_1 => ?_
  exact RA.to2 hall hf hb (ro11_4 B bo11_9_1 go11_0_1) rfl rfl (by kernel_rfl)
 have ro11_1 : ∀ B, ∀ (go11_0_1 : Nat → Nat → Value), RA f E B all 7 (bt 12 31) ⟨55, [(43, .agg [.w (sl 3 Session.c keepNew.sessions) (go11_0_1 0 0), .w (sl 3 Item.c keepNew.items) (go11_0_1 0 1)]), (47, .r (sl 3 Entry.c ((ents w.applied).take ((srvAt w n).applied.toNat))))] ++ b0⟩ K := by
  intro B go11_0_1
  refine RA.of2 hall hf hb (RA.stepH (L := [5, 9]) (Tell.of rfl) (by kernel_rfl) (by simp) (RA.each ?_ (RA.each ?_ (RA.each0))))
  refine RO.freeze 43 (d' := .agg ((Keep.c keepNew).map .r)) rfl rfl ?_
  refine RO.call rfl rfl (spec_Fold_fn keepNew ((ents w.applied).take ((srvAt w n).applied.toNat)) 1 kn_ok (take_in (ents_in hA)) (by rw [List.length_take]; omega) (idx1 _)) rfl (.cons (.agg (.cons (.r .r) (.cons (.r .r) (.nil)))) (.cons (.one (.r .r)) (.cons (.one (.r .r)) (.nil)))) rfl fun go11_5_1 => ?_
  exact RA.to2 hall hf hb (ro11_3 B go11_0_1 go11_5_1) rfl rfl (by kernel_rfl)
  refine RO.alloc (ds := [.r (.v (.slice none 0 0)), .r (.v (.slice none 0 0))]) rfl rfl rfl rfl rfl rfl fun bo11_9_1 => ?_
  exact RA.to2 hall hf hb (ro11_4 B bo11_9_1 go11_0_1) rfl rfl (by kernel_rfl)
 have ro11_0 : ∀ B, RA f E B all 8 (bt 12 30) ⟨55, [(47, .r (sl 3 Entry.c ((ents w.applied).take ((srvAt w n).applied.toNat))))] ++ b0⟩ K := by
  intro B
  refine RA.of2 hall hf hb (RA.stepH (L := [0, 9]) (Tell.of rfl) (by kernel_rfl) (by simp) (RA.each ?_ (RA.each ?_ (RA.each0))))
  refine RO.call rfl rfl (spec_KeepNew_fn ) rfl (.nil) rfl fun go11_0_1 => ?_
  exact RA.to2 hall hf hb (ro11_1 B go11_0_1) rfl rfl (by kernel_rfl)
  refine RO.alloc (ds := [.r (.v (.slice none 0 0)), .r (.v (.slice none 0 0))]) rfl rfl rfl rfl rfl rfl fun bo11_9_1 => ?_
  exact RA.to2 hall hf hb (ro11_2 B bo11_9_1) rfl rfl (by kernel_rfl)
 refine RA.start (by kernel_rfl) (by kernel_rfl) (m := 12) (ls' := (bt 12 0)) ?_
 refine RA.fr XK 55 9 [1,2,3] (bt 12 14) rfl rfl (by kernel_rfl) (Tell.of rfl) ?_
 (conv=>whnf);refine ⟨rfl,fun B=>?_⟩
 refine RA.first (i := 4) (ls' := (bt 12 30)) (Tell.of rfl) (by kernel_rfl) rfl rfl rfl (VF.p (V.takeSZ (m := (srvAt w n).applied.toNat) rfl rfl rfl rfl rfl rfl (by have h9 := inR_of hap; omega) Entry.len (by have h9 := inR_of hap; omega))) ?_
 exact RA.to2 hall hf hb (ro11_0 B) rfl rfl (by kernel_rfl)
 rintro ⟨bo11_9_1, go11_0_1, go11_5_1⟩
 refine CW.g XK 55 [.o 3] rfl rfl rfl ?_
 refine RW.call rfl (spec_SameKeep_fn ((foldR 1 ((ents w.applied).take ((srvAt w n).applied.toNat)) 0 keepNew).1) ((srvAt w n).keep) (foldR_ok _ _ _ _ kn_ok).okTo) rfl (.cons (.agg (.cons (.r .r) (.cons (.r .r) (.nil)))) (.cons (.agg (.cons (.r .r) (.cons (.r .r) (.nil)))) (.nil))) fun g12 => ?_
 refine RW.g XK 55 [.o 1,.p,.e [4]] rfl rfl rfl ?_
 refine CW.ret ?_
 exact Post.one (RV.b rfl (by exact (fd_yes ⟨fs2.1, hin⟩ hap).symm)) (AOs.a rfl (AOs.r AOs.e))
set_option maxHeartbeats 4000000 in
theorem impl_Session__fn (a : List Session) (b : List Session) : Eng.Fn E.P 88 [.one (.r (sl 3 Session.c a)), .one (.r (sl 3 Session.c b))] (.one (.one (.w (.v (.bool (eqS eqSession a b)))))) [.one (.r (sl 3 Session.c a)), .one (.r (sl 3 Session.c b))] := by
 refine Eng.Fn.intro (E := E) (rvs := [.tmp 4]) Tryz.func88 rfl rfl rfl (by simp [outSlots, moved, rvSlot, sl]) ?_
 intro B g bo
 refine CW.bound (x := .tmp 0) (n := a.length) (AsT.r) (fun hl0 => ?_)
 refine CW.bound (x := .tmp 1) (n := b.length) (AsT.r) (fun hl1 => ?_)
 refine CW.g XK 26 [.e [0,1],.n 1,.e [0,1],.n 1,.e [0,1,10]] rfl rfl rfl ?_
 refine CW.cond rfl (fun h1 => ?_) (fun h1 => ?_)
 refine CW.g XK 26 [.n 1,.e [4]] rfl rfl rfl ?_
 refine CW.ret ?_
 exact Post.one (RV.b rfl (by exact (eqS_ne (by have := h1; simp at this; omega)).symm)) (AOs.r (AOs.r AOs.e))
 refine CW.g XK 26 [.p,.e [0,1],.n 1,.e [0,1,12,13],.p] rfl rfl rfl ?_
 refine CW.loopI 26 (fun (i : Nat) => [(0, .r (sl 3 Session.c a)), (1, .r (sl 3 Session.c b)), (12, I (a.length : Int)), (13, I (i : Int))]) (fun (i : Nat) => i ≤ a.length ∧ eqS eqSession (a.drop i) (b.drop i) = eqS eqSession a b) (fun (i : Nat) => a.length - i) 0 rfl (Le.c rfl <| Le.c rfl <| Le.c rfl <| Le.c rfl <| Le.e) ⟨by omega, by simp⟩ ?_
 rintro i ⟨hb, hr⟩
 have hlen : a.length = b.length := by simp at h1; omega
 refine CW.g XK 26 [.n 1,.e [0,1,12,13,14],.p] rfl rfl rfl ?_
 refine CW.cond rfl (fun h2 => ?_) (fun h2 => ?_)
 have hii : i < a.length := by have := h2; simp at this; first | exact this | omega | (simp; done) | (simp; omega)
 obtain ⟨ei, hei⟩ : ∃ e, a[i]? = some e := ⟨_, List.getElem?_eq_getElem hii⟩
 have hdi := drop_get hei
 have hib : i < b.length := by omega
 obtain ⟨eb, heb⟩ : ∃ e, b[i]? = some e := ⟨_, List.getElem?_eq_getElem hib⟩
 refine CW.g XK 26 [.p,.e [0,1,12,13],.n 1,.e [0,1,5,12,13],.p] rfl rfl rfl ?_
 refine CW.drawn (by kernel_rfl) ?_
 refine RQ.k XK 26 2 rfl ?_
 (conv=>whnf);refine ⟨rfl,?_⟩
 refine RQ.v rfl (V.indexS rfl rfl rfl rfl rfl rfl Session.len hei) ?_
 refine RQ.k XK 26 3 rfl ?_
 (conv=>whnf);refine ⟨rfl,?_⟩
 refine RQ.v rfl (V.indexS rfl rfl rfl rfl rfl rfl Session.len heb) ?_
 refine RQ.k XK 26 1 rfl ?_
 (conv=>whnf);refine ⟨rfl,?_⟩
 refine RQ.v rfl (V.eqAgg (xs := Session.vs ei) (ys := Session.vs eb) rfl rfl rfl (by kernel_rfl) (eq156 ei eb) (.inr ⟨rfl, rfl⟩)) ?_
 refine RQ.nil ?_
 refine CW.g XK 26 [.e [0,1,12,13,24]] rfl rfl rfl ?_
 refine CW.cond rfl (fun h3 => ?_) (fun h3 => ?_)
 have he9 := h3
 refine CW.g XK 26 [.n 1,.e [4]] rfl rfl rfl ?_
 refine CW.ret ?_
 exact Post.one (RV.b rfl (by rw [← hr, eqS_step hei heb, if_neg (by simpa using he9)])) (AOs.r (AOs.r AOs.e))
 have he9 := h3
 refine CW.g XK 26 [.p,.e [0,1,12,13],.p] rfl rfl rfl ?_
 refine RW.v rfl (V.inc rfl rfl rfl hii hl0) ?_
 refine RW.g XK 26 [.o 1,.p] rfl rfl rfl ?_
 exact ⟨i + 1, by omega, ⟨by omega, by rw [← hr, eqS_step hei heb, if_pos (by simpa using he9)]⟩, rfl, Le.c rfl <| Le.c rfl <| Le.c rfl <| Le.c rfl <| Le.e⟩
 have hii : a.length ≤ i := by have := h2; simp at this; first | exact this | omega | (simp; done) | (simp; omega)
 have hdi : a.drop i = [] := List.drop_eq_nil_of_le hii
 refine CW.exit ?_
 refine CW.g XK 26 [.e [],.n 1,.e [4]] rfl rfl rfl ?_
 refine CW.ret ?_
 exact Post.one (RV.b rfl (by rw [← hr]; exact (eqS_end hii hlen).symm)) (AOs.r (AOs.r AOs.e))
end Go.Proofs.YtdipdkfbaehglaaGreatDoor.Y
