import Derived.Test.YtdipdkfbaehglaaGreatDoorWVersionsL
namespace Go.Proofs.YtdipdkfbaehglaaGreatDoor.Y
open Go Go.RowKit Go.Eng Go.Proofs
set_option maxRecDepth 10000
set_option maxHeartbeats 4000000 in
theorem __impl_Keep__put_fn (k : Keep) (it : Item) (hok : okToKeep k) : Eng.Fn E.P 150 [.ob ((Keep.c k).map .w), .agg ((Item.c it).map .r)] (.tup []) [.ob ((Keep.c (putK k it)).map .w), .agg ((Item.c it).map .r)] := by
 refine Eng.Fn.intro (E := E) (rvs := []) Tryz.func150 rfl rfl rfl (by simp [outSlots, moved, rvSlot, sl]) ?_
 intro B g bo
 refine CW.g XK 50 [.e [0,1]] rfl rfl rfl ?_
 have hl1 : k.sessions.length ≤ maxLen := by have := hok.1.1; simp only [maxLen]; omega
 have hl2 : k.items.length ≤ maxLen := by have := hok.2.1; simp only [maxLen]; omega
 refine CW.h XK 50 [.o 1] rfl ?_;(conv=>whnf);intro b1;(conv=>whnf);refine ⟨rfl,?_⟩
 refine RW.freezeB (ts := (Item.c it)) 3 rfl (DRd.r (DRd.r (DRd.r DRd.e))) ?_
 refine RW.g XK 50 [.p,.e [0,3],.o 3] rfl rfl rfl ?_
 refine RW.callW (k := 0) (__impl_Keep__without_fn k it.key hok) rfl rfl (Nat.le_of_ble_eq_true rfl) (by decide) (.here (AsW.ob (DT.w (DT.w DT.e)) rfl) (.cons (.one (.r .r)) (.nil))) rfl fun g2 q3 => ?_
 refine RW.g XK 50 [.p,.e [0,3],.p,.p] rfl rfl rfl ?_
 refine RW.build0 Item.c rfl rfl rfl rfl rfl fun X4 => ?_
 refine RW.assignMove rfl rfl rfl (by decide) (Nat.le_of_ble_eq_true rfl) (Nat.le_of_ble_eq_true rfl) ?_
 refine RW.g XK 50 [.p,.e [0,3,4],.n 1,.e [0,3,4,5],.n 1,.e [0,3,4,5,16,17,18],.p] rfl rfl rfl ?_
 refine CW.loopI 50 (fun (zz : Nat × List Item × Bool × Value) => match zz with | (i, rest, p, X) => [(0, .obj (bo 0) [.w (sl 3 Session.c ((withoutK k it.key).sessions)) (q3 0), .w (sl 3 Item.c ((withoutK k it.key).items)) (q3 1)]), (3, .rp (Item.c it)), (4, .w (sl 3 Item.c rest) X), (5, Bo p), (16, .al 0 (some 1) 3 (((withoutK k it.key).items).length) (q3 1) 0), (17, I (((withoutK k it.key).items).length : Int)), (18, I (i : Int))]) (fun (zz : Nat × List Item × Bool × Value) => match zz with | (i, rest, p, X) => PutP it (withoutK k it.key).items i rest p) (fun (zz : Nat × List Item × Bool × Value) => match zz with | (i, rest, p, X) => (withoutK k it.key).items.length - i) (0, _, _, _) rfl (Le.c rfl <| Le.c rfl <| Le.c rfl <| Le.c rfl <| Le.c rfl <| Le.c rfl <| Le.c rfl <| Le.e) (PutP.init _ _) ?_
 rintro ⟨i, rest, p, X⟩ hP
 have hPl := hP.len1
 have hPe := hP.le
 have hL : (withoutK k it.key).items.length ≤ k.items.length := without_len _ _
 refine CW.g XK 50 [.n 1,.e [0,3,4,5,16,17,18,19],.p] rfl rfl rfl ?_
 refine CW.cond rfl (fun h5 => ?_) (fun h5 => ?_)
 have hii : i < (withoutK k it.key).items.length := by simpa using h5
 obtain ⟨ei, hei⟩ : ∃ e, (withoutK k it.key).items[i]? = some e := ⟨_, List.getElem?_eq_getElem hii⟩
 refine CW.g XK 50 [.p,.e [0,3,4,5,16,17,18],.p,.p,.p,.p] rfl rfl rfl ?_
 refine RW.swapO 16 0 1 (by decide) rfl rfl rfl ?_
 refine RW.v rfl (V.indexW rfl rfl rfl rfl rfl rfl rfl hii) ?_
 refine RW.v rfl (V.loadAggF (m := i) rfl rfl rfl rfl rfl Item.len hei (vs := Item.vs ei) rfl (by decide)) ?_
 refine RW.h XK 50 [.o 2] rfl ?_;(conv=>whnf);intro b6;(conv=>whnf);refine ⟨rfl,?_⟩
 refine RW.freezeB (ts := (Item.c ei)) 7 rfl (DRd.r (DRd.r (DRd.r DRd.e))) ?_
 refine RW.unswapO (k := 0) (l := 16) (j := 1) 0 16 1 rfl rfl rfl (by decide) rfl rfl rfl ?_
 refine RW.g XK 50 [.p,.e [0,3,4,5,7,16,17,18],.p] rfl rfl rfl ?_
 refine CW.seqJ 50 (fun (v7 : Bool) => [(0, .obj (bo 0) [.w (sl 3 Session.c ((withoutK k it.key).sessions)) (q3 0), .w (sl 3 Item.c ((withoutK k it.key).items)) (q3 1)]), (3, .rp (Item.c it)), (4, .w (sl 3 Item.c rest) X), (5, Bo p), (7, .rp (Item.c ei)), (16, .al 0 (some 1) 3 (((withoutK k it.key).items).length) (q3 1) 0), (17, I (((withoutK k it.key).items).length : Int)), (18, I (i : Int)), (30, Bo v7)]) (fun v7 => v7 = ((!p) && (!(Op.bytesLess ei.key.toList it.key.toList || ei.key.toList == it.key.toList)))) ?_ ?_
 refine CW.g XK 50 [.o 3] rfl rfl rfl ?_
 refine RW.gv rfl rfl rfl rfl (fun h8 => V.fieldR rfl rfl rfl rfl (by decide) rfl (Nat.le_of_ble_eq_true rfl)) (fun h8 => ?_) (fun h8 => ?_)
 refine RW.g XK 50 [.o 5,.p] rfl rfl rfl ?_
 exact ⟨_, by first | rfl | (simp_all; done) | (simp_all; omega) | grind, rfl, Le.of rfl⟩
 refine RW.g XK 50 [.o 5,.p] rfl rfl rfl ?_
 exact ⟨_, by first | rfl | (simp_all; done) | (simp_all; omega) | grind, rfl, Le.of rfl⟩
 intro v7 hv9
 refine CW.cond rfl (fun h10 => ?_) (fun h10 => ?_)
 refine CW.g XK 50 [.o 2] rfl rfl rfl ?_
 refine RW.build1 (c := Item.c) (v := it) rfl rfl rfl rfl rfl rfl (DW.v (DW.v (DW.v DW.e))) Item.len (by decide) (by decide) fun X11 => ?_
 refine RW.appendSR (c := Item.c) (l1 := rest) (l2 := [it]) rfl rfl rfl rfl rfl rfl rfl rfl (.al (k := none) (i := 33) (sz := 3) (V := X11) rfl rfl nofun) (by decide) (Nat.le_of_ble_eq_true rfl) Item.len (fun _ => rfl) rfl (by have h11 := hok.2.1; simp only [maxLen, List.length_singleton, List.length_append]; omega) (by have h11 := hok.2.1; simp only [maxLen, List.length_singleton, List.length_append]; omega) fun X12 => ?_
 refine RW.assignMove rfl rfl rfl (by decide) (Nat.le_of_ble_eq_true rfl) (Nat.le_of_ble_eq_true rfl) ?_
 refine RW.g XK 50 [.p,.e [0,3,4,7,16,17,18],.o 1,.p,.e [0,3,4,5,7,16,17,18],.o 2] rfl rfl rfl ?_
 refine RW.build1 (c := Item.c) (v := ei) rfl rfl rfl rfl rfl rfl (DW.v (DW.v (DW.v DW.e))) Item.len (by decide) (by decide) fun X13 => ?_
 refine RW.appendSR (c := Item.c) (l1 := (rest ++ ([it]))) (l2 := [ei]) rfl rfl rfl rfl rfl rfl rfl rfl (.al (k := none) (i := 37) (sz := 3) (V := X13) rfl rfl nofun) (by decide) (Nat.le_of_ble_eq_true rfl) Item.len (fun _ => rfl) rfl (by have h11 := hok.2.1; simp only [maxLen, List.length_singleton, List.length_append]; omega) (by have h11 := hok.2.1; simp only [maxLen, List.length_singleton, List.length_append]; omega) fun X14 => ?_
 refine RW.assignMove rfl rfl rfl (by decide) (Nat.le_of_ble_eq_true rfl) (Nat.le_of_ble_eq_true rfl) ?_
 refine RW.g XK 50 [.p,.e [0,3,4,5,16,17,18],.p] rfl rfl rfl ?_
 refine RW.v rfl (V.inc rfl rfl rfl hii (Nat.le_trans hL hl2)) ?_
 refine RW.g XK 50 [.o 1,.p] rfl rfl rfl ?_
 exact ⟨(i + 1, ((rest ++ ([it])) ++ ([ei])), true, _), by simp only []; omega, (by first | exact hP.ins hei (hv9.symm.trans h10) | exact hP.go hei (hv9.symm.trans h10)), rfl, Le.c rfl <| Le.c rfl <| Le.c rfl <| Le.c rfl <| Le.c rfl <| Le.c rfl <| Le.c rfl <| Le.e⟩
 refine CW.g XK 50 [.p,.e [0,3,4,5,7,16,17,18],.o 2] rfl rfl rfl ?_
 refine RW.build1 (c := Item.c) (v := ei) rfl rfl rfl rfl rfl rfl (DW.v (DW.v (DW.v DW.e))) Item.len (by decide) (by decide) fun X15 => ?_
 refine RW.appendSR (c := Item.c) (l1 := rest) (l2 := [ei]) rfl rfl rfl rfl rfl rfl rfl rfl (.al (k := none) (i := 37) (sz := 3) (V := X15) rfl rfl nofun) (by decide) (Nat.le_of_ble_eq_true rfl) Item.len (fun _ => rfl) rfl (by have h11 := hok.2.1; simp only [maxLen, List.length_singleton, List.length_append]; omega) (by have h11 := hok.2.1; simp only [maxLen, List.length_singleton, List.length_append]; omega) fun X16 => ?_
 refine RW.assignMove rfl rfl rfl (by decide) (Nat.le_of_ble_eq_true rfl) (Nat.le_of_ble_eq_true rfl) ?_
 refine RW.g XK 50 [.p,.e [0,3,4,5,16,17,18],.p] rfl rfl rfl ?_
 refine RW.v rfl (V.inc rfl rfl rfl hii (Nat.le_trans hL hl2)) ?_
 refine RW.g XK 50 [.o 1,.p] rfl rfl rfl ?_
 exact ⟨(i + 1, (rest ++ ([ei])), p, _), by simp only []; omega, (by first | exact hP.ins hei (hv9.symm.trans h10) | exact hP.go hei (hv9.symm.trans h10)), rfl, Le.c rfl <| Le.c rfl <| Le.c rfl <| Le.c rfl <| Le.c rfl <| Le.c rfl <| Le.c rfl <| Le.e⟩
 have hii : (withoutK k it.key).items.length ≤ i := by simpa using h5
 refine CW.exit ?_
 refine CW.g XK 50 [.e [0,3,4,5],.n 1,.e [0,3,4,41]] rfl rfl rfl ?_
 refine CW.cond rfl (fun h17 => ?_) (fun h17 => ?_)
 refine CW.g XK 50 [.o 2] rfl rfl rfl ?_
 refine RW.build1 (c := Item.c) (v := it) rfl rfl rfl rfl rfl rfl (DW.v (DW.v (DW.v DW.e))) Item.len (by decide) (by decide) fun X18 => ?_
 refine RW.appendSR (c := Item.c) (l1 := rest) (l2 := [it]) rfl rfl rfl rfl rfl rfl rfl rfl (.al (k := none) (i := 44) (sz := 3) (V := X18) rfl rfl nofun) (by decide) (Nat.le_of_ble_eq_true rfl) Item.len (fun _ => rfl) rfl (by have h11 := hok.2.1; simp only [maxLen, List.length_singleton, List.length_append]; omega) (by have h11 := hok.2.1; simp only [maxLen, List.length_singleton, List.length_append]; omega) fun X19 => ?_
 refine RW.assignMove rfl rfl rfl (by decide) (Nat.le_of_ble_eq_true rfl) (Nat.le_of_ble_eq_true rfl) ?_
 refine RW.g XK 50 [.p,.e [0,4],.o 5,.e [0,4]] rfl rfl rfl ?_
 refine RW.pullT (k := 0) (l := 4) (j := 1) 0 4 1 rfl rfl rfl (by decide) rfl rfl rfl ?_
 refine RW.g XK 50 [.e [0],.p] rfl rfl rfl ?_
 exact Post.tup (by decide) RVs.e (AOs.obE (f := fun e => (Keep.c e).map .w) (e' := (⟨(withoutK k it.key).sessions, (rest ++ ([it]))⟩ : Keep)) rfl (DT.w (DT.w DT.e)) (by rw [show (putK k it) = ⟨(withoutK k it.key).sessions, insL it (withoutK k it.key).items⟩ from rfl]; first | rw [hP.fin1 h17 hii] | rw [hP.fin0 h17 hii]) (AOs.a rfl AOs.e))
 refine CW.g XK 50 [.p,.e [0,4],.o 5,.e [0,4]] rfl rfl rfl ?_
 refine RW.pullT (k := 0) (l := 4) (j := 1) 0 4 1 rfl rfl rfl (by decide) rfl rfl rfl ?_
 refine RW.g XK 50 [.e [0],.p] rfl rfl rfl ?_
 exact Post.tup (by decide) RVs.e (AOs.obE (f := fun e => (Keep.c e).map .w) (e' := (⟨(withoutK k it.key).sessions, rest⟩ : Keep)) rfl (DT.w (DT.w DT.e)) (by rw [show (putK k it) = ⟨(withoutK k it.key).sessions, insL it (withoutK k it.key).items⟩ from rfl]; first | rw [hP.fin1 h17 hii] | rw [hP.fin0 h17 hii]) (AOs.a rfl AOs.e))
end Go.Proofs.YtdipdkfbaehglaaGreatDoor.Y
