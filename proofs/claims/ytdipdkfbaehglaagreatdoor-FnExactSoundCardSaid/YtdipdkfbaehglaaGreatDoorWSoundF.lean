import Derived.Test.YtdipdkfbaehglaaGreatDoorWSoundE
namespace Go.Proofs.YtdipdkfbaehglaaGreatDoor.Y
open Go Go.RowKit Go.Eng Go.Proofs
set_option maxRecDepth 10000
set_option maxHeartbeats 4000000 in
theorem spec_l15Put_fn (k : Keep) (it : Item) (hok : okToKeep k) : Eng.Fn E.P 107 [.ob ((Keep.c k).map .w), .agg ((Item.c it).map .r)] (.one (.one (.w (.v (.bool (!bigP k it)))))) [.ob ((Keep.c (putSK k it)).map .w), .agg ((Item.c it).map .r)] := by
 refine Eng.Fn.intro (E := E) (rvs := [.tmp 4]) Tryz.func107 rfl rfl rfl (by simp [outSlots, moved, rvSlot, sl]) ?_
 intro B g bo
 refine CW.g XK 80 [.e [0,1]] rfl rfl rfl ?_
 have hl1 : k.sessions.length ≤ maxLen := by have := hok.1.1; simp only [maxLen]; omega
 have hl2 : k.items.length ≤ maxLen := by have := hok.2.1; simp only [maxLen]; omega
 refine CW.h XK 80 [.o 1] rfl ?_;(conv=>whnf);intro b1;(conv=>whnf);refine ⟨rfl,?_⟩
 refine RW.freezeB (ts := (Item.c it)) 3 rfl (DRd.r (DRd.r (DRd.r DRd.e))) ?_
 refine RW.g XK 80 [.o 1,.p,.e [0,3],.p,.p] rfl rfl rfl ?_
 refine RW.build0 Item.c rfl rfl rfl rfl rfl fun X2 => ?_
 refine RW.assignMove rfl rfl rfl (by decide) (Nat.le_of_ble_eq_true rfl) (Nat.le_of_ble_eq_true rfl) ?_
 refine RW.g XK 80 [.p,.e [0,3,5],.n 1,.e [0,3,5,6],.p] rfl rfl rfl ?_
 refine CW.loopI 80 (fun (zz : Nat × Value) => match zz with | (i, X) => [(0, .obj (bo 0) [.w (sl 3 Session.c k.sessions) (g 0 0), .w (sl 3 Item.c k.items) (g 0 1)]), (3, .rp (Item.c it)), (5, .w (sl 3 Item.c (lowL (k.items.take i) it)) X), (6, I (i : Int))]) (fun (zz : Nat × Value) => match zz with | (i, X) => i ≤ k.items.length) (fun (zz : Nat × Value) => match zz with | (i, X) => k.items.length - i) (0, _) rfl (Le.c rfl <| Le.c rfl <| Le.c rfl <| Le.c rfl <| Le.e) (by omega) ?_
 rintro ⟨i, X⟩ hb
 refine CW.g XK 80 [.n 1,.e [0,3,5,6,15]] rfl rfl rfl ?_
 refine CW.cond rfl (fun h3 => ?_) (fun h3 => ?_)
 have hii : i < k.items.length := by have := h3; simp at this; first | exact this | omega | (simp; done) | (simp; omega)
 obtain ⟨ei, hei⟩ : ∃ e, k.items[i]? = some e := ⟨_, List.getElem?_eq_getElem hii⟩
 have hdi := drop_get hei
 refine CW.g XK 80 [.p,.e [0,3,5,6],.p,.p,.p] rfl rfl rfl ?_
 refine CW.drawn (by kernel_rfl) ?_
 refine RQ.k XK 80 5 rfl ?_
 (conv=>whnf);refine ⟨rfl,?_⟩
 refine RQ.swapO 21 0 1 (by decide) rfl rfl rfl ?_
 refine RQ.v rfl (V.indexW rfl rfl rfl rfl rfl rfl rfl hii) ?_
 refine RQ.k XK 80 1 rfl ?_
 (conv=>whnf);refine ⟨rfl,?_⟩
 refine RQ.v rfl (V.loadF (m := i) (off := 0) rfl rfl (.inl rfl) rfl rfl Item.len hei (by decide) rfl) ?_
 refine RQ.k XK 80 3 rfl ?_
 (conv=>whnf);refine ⟨rfl,?_⟩
 refine RQ.pullT (k := 0) (l := 21) (j := 1) 0 21 1 rfl rfl rfl (by decide) rfl rfl rfl ?_
 refine RQ.nil ?_
 refine CW.g XK 80 [.e [0,3,5,6,28]] rfl rfl rfl ?_
 refine CW.cond rfl (fun h4 => ?_) (fun h4 => ?_)
 refine CW.g XK 80 [.o 6] rfl rfl rfl ?_
 refine RW.swapO 33 0 1 (by decide) rfl rfl rfl ?_
 refine RW.v rfl (V.indexW rfl rfl rfl rfl rfl rfl rfl hii) ?_
 refine RW.v rfl (V.loadAggF (m := i) rfl rfl rfl rfl rfl Item.len hei (vs := Item.vs ei) rfl (by decide)) ?_
 refine RW.build1 (c := Item.c) (v := ei) rfl rfl rfl rfl rfl rfl (DW.v (DW.v (DW.v DW.e))) Item.len (by decide) (by decide) fun X5 => ?_
 refine RW.appendSR (c := Item.c) (l1 := (lowL (k.items.take i) it)) (l2 := [ei]) rfl rfl rfl rfl rfl rfl rfl rfl (.al (k := none) (i := 37) (sz := 3) (V := X5) rfl rfl nofun) (by decide) (Nat.le_of_ble_eq_true rfl) Item.len (fun _ => rfl) rfl q6 q6 fun X6 => ?_
 refine RW.assignMove rfl rfl rfl (by decide) (Nat.le_of_ble_eq_true rfl) (Nat.le_of_ble_eq_true rfl) ?_
 refine RW.pullT (k := 0) (l := 33) (j := 1) 0 33 1 rfl rfl rfl (by decide) rfl rfl rfl ?_
 refine RW.g XK 80 [.p,.e [0,3,5,6],.o 1] rfl rfl rfl ?_
 refine RW.v rfl (V.inc rfl rfl rfl hii hl2) ?_
 refine RW.g XK 80 [.o 1,.p] rfl rfl rfl ?_
 exact ⟨(i + 1, _), by simp only []; omega, (by omega), rfl, Le.c rfl <| Le.c rfl <| Le.c (Dw_congr (by rw [lowL_snoc hei]; simp_all [sLt, sGt])) <| Le.c rfl <| Le.e⟩
 refine CW.g XK 80 [.p,.e [0,3,5,6],.o 1] rfl rfl rfl ?_
 refine RW.v rfl (V.inc rfl rfl rfl hii hl2) ?_
 refine RW.g XK 80 [.o 1,.p] rfl rfl rfl ?_
 exact ⟨(i + 1, _), by simp only []; omega, (by omega), rfl, Le.c rfl <| Le.c rfl <| Le.c (Dw_congr (by rw [lowL_snoc hei]; simp_all [sLt, sGt])) <| Le.c rfl <| Le.e⟩
 have hii : k.items.length ≤ i := by have := h3; simp at this; first | exact this | omega | (simp; done) | (simp; omega)
 have hdi : k.items.drop i = [] := List.drop_eq_nil_of_le hii
 refine CW.exit ?_
 refine CW.g XK 80 [.e [0,3,5],.o 2] rfl rfl rfl ?_
 refine RW.build1 (c := Item.c) (v := it) rfl rfl rfl rfl rfl rfl (DW.v (DW.v (DW.v DW.e))) Item.len (by decide) (by decide) fun X7 => ?_
 refine RW.appendSR (c := Item.c) (l1 := (lowL (k.items.take i) it)) (l2 := [it]) rfl rfl rfl rfl rfl rfl rfl rfl (.al (k := none) (i := 41) (sz := 3) (V := X7) rfl rfl nofun) (by decide) (Nat.le_of_ble_eq_true rfl) Item.len (fun _ => rfl) rfl q6 q6 fun X8 => ?_
 refine RW.assignMove rfl rfl rfl (by decide) (Nat.le_of_ble_eq_true rfl) (Nat.le_of_ble_eq_true rfl) ?_
 refine RW.g XK 80 [.p,.e [0,3,5],.n 1,.e [0,3,5,7],.p] rfl rfl rfl ?_
 refine CW.loopI 80 (fun (zz : Nat × Value) => match zz with | (j, X) => [(0, .obj (bo 0) [.w (sl 3 Session.c k.sessions) (g 0 0), .w (sl 3 Item.c k.items) (g 0 1)]), (3, .rp (Item.c it)), (5, .w (sl 3 Item.c (lowL k.items it ++ [it] ++ highL (k.items.take j) it)) X), (7, I (j : Int))]) (fun (zz : Nat × Value) => match zz with | (j, X) => j ≤ k.items.length) (fun (zz : Nat × Value) => match zz with | (j, X) => k.items.length - j) (0, _) rfl (Le.c rfl <| Le.c rfl <| Le.c (Dw_congr (by rw [List.take_of_length_le hii]; simp [highL, newS])) <| Le.c rfl <| Le.e) (by omega) ?_
 rintro ⟨j, X⟩ hc
 refine CW.g XK 80 [.n 1,.e [0,3,5,7,49]] rfl rfl rfl ?_
 refine CW.cond rfl (fun h9 => ?_) (fun h9 => ?_)
 have hij : j < k.items.length := by have := h9; simp at this; first | exact this | omega | (simp; done) | (simp; omega)
 obtain ⟨ej, hej⟩ : ∃ e, k.items[j]? = some e := ⟨_, List.getElem?_eq_getElem hij⟩
 have hdj := drop_get hej
 refine CW.g XK 80 [.p,.e [0,3,5,7],.p,.p,.p] rfl rfl rfl ?_
 refine CW.drawn (by kernel_rfl) ?_
 refine RQ.k XK 80 5 rfl ?_
 (conv=>whnf);refine ⟨rfl,?_⟩
 refine RQ.swapO 55 0 1 (by decide) rfl rfl rfl ?_
 refine RQ.v rfl (V.indexW rfl rfl rfl rfl rfl rfl rfl hij) ?_
 refine RQ.k XK 80 1 rfl ?_
 (conv=>whnf);refine ⟨rfl,?_⟩
 refine RQ.v rfl (V.loadF (m := j) (off := 0) rfl rfl (.inl rfl) rfl rfl Item.len hej (by decide) rfl) ?_
 refine RQ.k XK 80 3 rfl ?_
 (conv=>whnf);refine ⟨rfl,?_⟩
 refine RQ.pullT (k := 0) (l := 55) (j := 1) 0 55 1 rfl rfl rfl (by decide) rfl rfl rfl ?_
 refine RQ.nil ?_
 refine CW.g XK 80 [.e [0,3,5,7,62]] rfl rfl rfl ?_
 refine CW.cond rfl (fun h10 => ?_) (fun h10 => ?_)
 refine CW.g XK 80 [.o 6] rfl rfl rfl ?_
 refine RW.swapO 67 0 1 (by decide) rfl rfl rfl ?_
 refine RW.v rfl (V.indexW rfl rfl rfl rfl rfl rfl rfl hij) ?_
 refine RW.v rfl (V.loadAggF (m := j) rfl rfl rfl rfl rfl Item.len hej (vs := Item.vs ej) rfl (by decide)) ?_
 refine RW.build1 (c := Item.c) (v := ej) rfl rfl rfl rfl rfl rfl (DW.v (DW.v (DW.v DW.e))) Item.len (by decide) (by decide) fun X11 => ?_
 refine RW.appendSR (c := Item.c) (l1 := (lowL k.items it ++ [it] ++ highL (k.items.take j) it)) (l2 := [ej]) rfl rfl rfl rfl rfl rfl rfl rfl (.al (k := none) (i := 71) (sz := 3) (V := X11) rfl rfl nofun) (by decide) (Nat.le_of_ble_eq_true rfl) Item.len (fun _ => rfl) rfl q6 q6 fun X12 => ?_
 refine RW.assignMove rfl rfl rfl (by decide) (Nat.le_of_ble_eq_true rfl) (Nat.le_of_ble_eq_true rfl) ?_
 refine RW.pullT (k := 0) (l := 67) (j := 1) 0 67 1 rfl rfl rfl (by decide) rfl rfl rfl ?_
 refine RW.g XK 80 [.p,.e [0,3,5,7],.o 1] rfl rfl rfl ?_
 refine RW.v rfl (V.inc rfl rfl rfl hij hl2) ?_
 refine RW.g XK 80 [.o 1,.p] rfl rfl rfl ?_
 exact ⟨(j + 1, _), by simp only []; omega, (by omega), rfl, Le.c rfl <| Le.c rfl <| Le.c (Dw_congr (by rw [highL_snoc hej]; split <;> simp_all [sLt, sGt])) <| Le.c rfl <| Le.e⟩
 refine CW.g XK 80 [.p,.e [0,3,5,7],.o 1] rfl rfl rfl ?_
 refine RW.v rfl (V.inc rfl rfl rfl hij hl2) ?_
 refine RW.g XK 80 [.o 1,.p] rfl rfl rfl ?_
 exact ⟨(j + 1, _), by simp only []; omega, (by omega), rfl, Le.c rfl <| Le.c rfl <| Le.c (Dw_congr (by rw [highL_snoc hej]; split <;> simp_all [sLt, sGt])) <| Le.c rfl <| Le.e⟩
 have hij : k.items.length ≤ j := by have := h9; simp at this; first | exact this | omega | (simp; done) | (simp; omega)
 have hdj : k.items.drop j = [] := List.drop_eq_nil_of_le hij
 refine CW.exit ?_
 refine CW.g XK 80 [.e [0,5],.n 1,.e [0,5,75]] rfl rfl rfl ?_
 refine CW.cond rfl (fun h13 => ?_) (fun h13 => ?_)
 have hbg := bigP_of hij h13
 refine CW.g XK 80 [.n 1,.e [0,4]] rfl rfl rfl ?_
 refine CW.ret ?_
 exact Post.one (RV.b rfl (by rw [hbg]; rfl)) (AOs.obE (f := fun e => (Keep.c e).map .w) (e' := k) rfl (DT.w (DT.w DT.e)) (by first | exact (putSK_t hbg).symm | exact putSK_f hbg hij) (AOs.a rfl AOs.e))
 have hbg := bigP_of hij h13
 refine CW.g XK 80 [.p,.e [0,5],.o 5,.e [0,5]] rfl rfl rfl ?_
 refine RW.pullT (k := 0) (l := 5) (j := 1) 0 5 1 rfl rfl rfl (by decide) rfl rfl rfl ?_
 refine RW.g XK 80 [.e [0],.p,.e [0],.n 1,.e [0,4]] rfl rfl rfl ?_
 refine CW.ret ?_
 exact Post.one (RV.b rfl (by rw [hbg]; rfl)) (AOs.obE (f := fun e => (Keep.c e).map .w) (e' := (⟨k.sessions, (lowL k.items it ++ [it] ++ highL (k.items.take j) it)⟩ : Keep)) rfl (DT.w (DT.w DT.e)) (by first | exact (putSK_t hbg).symm | exact putSK_f hbg hij) (AOs.a rfl AOs.e))
end Go.Proofs.YtdipdkfbaehglaaGreatDoor.Y
