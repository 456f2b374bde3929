import Derived.Test.YtdipdkfbaehglaaGreatDoorWFoldedE
namespace Go.Proofs.YtdipdkfbaehglaaGreatDoor.Y
open Go Go.RowKit Go.Eng Go.Proofs
set_option maxRecDepth 10000
set_option maxHeartbeats 4000000 in
theorem spec_l15Open_fn (k : Keep) (n : Int) (hok : okToKeep k) (hko : keepOk k = true) (hn : 1 ≤ n ∧ n ≤ 400000) : Eng.Fn E.P 69 [.agg ((Keep.c k).map .r), .one (.r (.v (.int .i64 n)))] (.tup [.agg ((Keep.c (openK k n)).map .w), .one (.w (.v (.string (tOpen ++ itoaB n))))]) [.agg ((Keep.c k).map .r), .one (.r (.v (.int .i64 n)))] := by
 refine Eng.Fn.intro (E := E) (rvs := [.cell 4 59, .tmp 5]) Tryz.func69 rfl rfl rfl (by simp [outSlots, moved, rvSlot, sl]) ?_
 intro B g bo
 refine CW.g XK 77 [.e [0,1]] rfl rfl rfl ?_
 have hl1 : k.sessions.length ≤ maxLen := by have := hok.1.1; simp only [maxLen]; omega
 have hl2 : k.items.length ≤ maxLen := by have := hok.2.1; simp only [maxLen]; omega
 have hn1 := hn.1; have hn2 := hn.2
 refine CW.h XK 77 [.o 1] rfl ?_;(conv=>whnf);intro b1;(conv=>whnf);refine ⟨rfl,?_⟩
 refine RW.freezeB (ts := (Keep.c k)) 2 rfl (DRd.r (DRd.r DRd.e)) ?_
 refine RW.h XK 77 [.o 2,.p,.e [1,2,4],.o 1] rfl ?_;(conv=>whnf);intro b2;(conv=>whnf);refine ⟨rfl,?_⟩
 refine RW.call rfl (spec_l15Copy_fn k hok) rfl (.cons (.agg (.cons (.r .r) (.cons (.r .r) (.nil)))) (.nil)) fun g3 => ?_
 refine RW.h XK 77 [.o 2,.e [1,2,4,6,11]] rfl ?_;(conv=>whnf);intro b4;(conv=>whnf);refine ⟨rfl,?_⟩
 refine RW.pullA (k := 6) (l := 11) (j := 0) 6 11 0 rfl rfl rfl (by decide) rfl rfl rfl rfl ?_
 refine RW.g XK 77 [.e [1,2,4,6,11]] rfl rfl rfl ?_
 refine RW.pullA (k := 6) (l := 11) (j := 1) 6 11 1 rfl rfl rfl (by decide) rfl rfl rfl rfl ?_
 refine RW.g XK 77 [.e [1,2,4,6],.p,.e [1,2,4,6],.p,.p] rfl rfl rfl ?_
 refine RW.build0 Session.c rfl rfl rfl rfl rfl fun X5 => ?_
 refine RW.assignMove rfl rfl rfl (by decide) (Nat.le_of_ble_eq_true rfl) (Nat.le_of_ble_eq_true rfl) ?_
 refine RW.g XK 77 [.p,.e [1,2,4,6,7],.n 1,.e [1,2,4,6,7,8],.p] rfl rfl rfl ?_
 refine CW.loopI 77 (fun (zz : Nat × Value) => match zz with | (i, X) => [(1, I n), (2, .rp (Keep.c k)), (4, .obj b2 [.r (.v (.slice none 0 0)), .r (.v (.slice none 0 0))]), (6, .obj b4 [.w (sl 3 Session.c k.sessions) (g3 0 0), .w (sl 3 Item.c k.items) (g3 0 1)]), (7, .w (sl 3 Session.c (lowS (k.sessions.take i) n)) X), (8, I (i : Int))]) (fun (zz : Nat × Value) => match zz with | (i, X) => i ≤ k.sessions.length) (fun (zz : Nat × Value) => match zz with | (i, X) => k.sessions.length - i) (0, _) rfl (Le.c rfl <| Le.c rfl <| Le.c rfl <| Le.c rfl <| Le.c rfl <| Le.c rfl <| Le.e) (by omega) ?_
 rintro ⟨i, X⟩ hb
 refine CW.g XK 77 [.n 1,.e [1,2,4,6,7,8,17]] rfl rfl rfl ?_
 refine CW.cond rfl (fun h6 => ?_) (fun h6 => ?_)
 have hii : i < k.sessions.length := by have := h6; simp at this; first | exact this | omega | (simp; done) | (simp; omega)
 obtain ⟨ei, hei⟩ : ∃ e, k.sessions[i]? = some e := ⟨_, List.getElem?_eq_getElem hii⟩
 have hdi := drop_get hei
 refine CW.g XK 77 [.p,.e [1,2,4,6,7,8],.o 3] rfl rfl rfl ?_
 refine RW.v rfl (V.indexS rfl rfl rfl rfl rfl rfl Session.len hei) ?_
 refine RW.g XK 77 [.o 4,.p,.e [1,2,4,6,7,8,27]] rfl rfl rfl ?_
 refine CW.cond rfl (fun h7 => ?_) (fun h7 => ?_)
 refine CW.g XK 77 [.o 4] rfl rfl rfl ?_
 refine RW.v rfl (V.indexS rfl rfl rfl rfl rfl rfl Session.len hei) ?_
 refine RW.g XK 77 [.o 1] rfl rfl rfl ?_
 refine RW.build1 (c := Session.c) (v := ei) rfl rfl rfl rfl rfl rfl (DW.v (DW.v (DW.v DW.e))) Session.len (by decide) (by decide) fun X8 => ?_
 refine RW.appendSR (c := Session.c) (l1 := (lowS (k.sessions.take i) n)) (l2 := [ei]) rfl rfl rfl rfl rfl rfl rfl rfl (.al (k := none) (i := 34) (sz := 3) (V := X8) rfl rfl nofun) (by decide) (Nat.le_of_ble_eq_true rfl) Session.len (fun _ => rfl) rfl q5 q5 fun X9 => ?_
 refine RW.assignMove rfl rfl rfl (by decide) (Nat.le_of_ble_eq_true rfl) (Nat.le_of_ble_eq_true rfl) ?_
 refine RW.g XK 77 [.p,.e [1,2,4,6,7,8],.o 1] rfl rfl rfl ?_
 refine RW.v rfl (V.inc rfl rfl rfl hii hl1) ?_
 refine RW.g XK 77 [.o 1,.p] rfl rfl rfl ?_
 exact ⟨(i + 1, _), by simp only []; omega, (by omega), rfl, Le.c rfl <| Le.c rfl <| Le.c rfl <| Le.c rfl <| Le.c (Dw_congr (by rw [lowS_snoc hei]; simp_all [sLt, sGt])) <| Le.c rfl <| Le.e⟩
 refine CW.g XK 77 [.p,.e [1,2,4,6,7,8],.o 1] rfl rfl rfl ?_
 refine RW.v rfl (V.inc rfl rfl rfl hii hl1) ?_
 refine RW.g XK 77 [.o 1,.p] rfl rfl rfl ?_
 exact ⟨(i + 1, _), by simp only []; omega, (by omega), rfl, Le.c rfl <| Le.c rfl <| Le.c rfl <| Le.c rfl <| Le.c (Dw_congr (by rw [lowS_snoc hei]; simp_all [sLt, sGt])) <| Le.c rfl <| Le.e⟩
 have hii : k.sessions.length ≤ i := by have := h6; simp at this; first | exact this | omega | (simp; done) | (simp; omega)
 have hdi : k.sessions.drop i = [] := List.drop_eq_nil_of_le hii
 refine CW.exit ?_
 refine CW.g XK 77 [.e [1,2,4,6,7],.o 3] rfl rfl rfl ?_
 refine RW.build1 (c := Session.c) (v := (⟨n, 0, ⟨#[]⟩⟩ : Session)) rfl rfl rfl rfl rfl rfl (DW.v (DW.v (DW.v DW.e))) Session.len (by decide) (by decide) fun X10 => ?_
 refine RW.appendSR (c := Session.c) (l1 := (lowS (k.sessions.take i) n)) (l2 := [(⟨n, 0, ⟨#[]⟩⟩ : Session)]) rfl rfl rfl rfl rfl rfl rfl rfl (.al (k := none) (i := 39) (sz := 3) (V := X10) rfl rfl nofun) (by decide) (Nat.le_of_ble_eq_true rfl) Session.len (fun _ => rfl) rfl q5 q5 fun X11 => ?_
 refine RW.assignMove rfl rfl rfl (by decide) (Nat.le_of_ble_eq_true rfl) (Nat.le_of_ble_eq_true rfl) ?_
 refine RW.g XK 77 [.p,.e [1,2,4,6,7],.n 1,.e [1,2,4,6,7,9],.p] rfl rfl rfl ?_
 refine CW.loopI 77 (fun (zz : Nat × Value) => match zz with | (j, X) => [(1, I n), (2, .rp (Keep.c k)), (4, .obj b2 [.r (.v (.slice none 0 0)), .r (.v (.slice none 0 0))]), (6, .obj b4 [.w (sl 3 Session.c k.sessions) (g3 0 0), .w (sl 3 Item.c k.items) (g3 0 1)]), (7, .w (sl 3 Session.c (lowS k.sessions n ++ [newS n] ++ highS (k.sessions.take j) n)) X), (9, I (j : Int))]) (fun (zz : Nat × Value) => match zz with | (j, X) => j ≤ k.sessions.length) (fun (zz : Nat × Value) => match zz with | (j, X) => k.sessions.length - j) (0, _) rfl (Le.c rfl <| Le.c rfl <| Le.c rfl <| Le.c rfl <| Le.c (Dw_congr (by rw [List.take_of_length_le hii]; simp [highS, newS])) <| Le.c rfl <| Le.e) (by omega) ?_
 rintro ⟨j, X⟩ hc
 refine CW.g XK 77 [.n 1,.e [1,2,4,6,7,9,45]] rfl rfl rfl ?_
 refine CW.cond rfl (fun h12 => ?_) (fun h12 => ?_)
 have hij : j < k.sessions.length := by have := h12; simp at this; first | exact this | omega | (simp; done) | (simp; omega)
 obtain ⟨ej, hej⟩ : ∃ e, k.sessions[j]? = some e := ⟨_, List.getElem?_eq_getElem hij⟩
 have hdj := drop_get hej
 refine CW.g XK 77 [.p,.e [1,2,4,6,7,9],.o 3] rfl rfl rfl ?_
 refine RW.v rfl (V.indexS rfl rfl rfl rfl rfl rfl Session.len hej) ?_
 refine RW.g XK 77 [.o 4,.p,.e [1,2,4,6,7,9,55]] rfl rfl rfl ?_
 refine CW.cond rfl (fun h13 => ?_) (fun h13 => ?_)
 refine CW.g XK 77 [.o 4] rfl rfl rfl ?_
 refine RW.v rfl (V.indexS rfl rfl rfl rfl rfl rfl Session.len hej) ?_
 refine RW.g XK 77 [.o 1] rfl rfl rfl ?_
 refine RW.build1 (c := Session.c) (v := ej) rfl rfl rfl rfl rfl rfl (DW.v (DW.v (DW.v DW.e))) Session.len (by decide) (by decide) fun X14 => ?_
 refine RW.appendSR (c := Session.c) (l1 := (lowS k.sessions n ++ [newS n] ++ highS (k.sessions.take j) n)) (l2 := [ej]) rfl rfl rfl rfl rfl rfl rfl rfl (.al (k := none) (i := 62) (sz := 3) (V := X14) rfl rfl nofun) (by decide) (Nat.le_of_ble_eq_true rfl) Session.len (fun _ => rfl) rfl q5 q5 fun X15 => ?_
 refine RW.assignMove rfl rfl rfl (by decide) (Nat.le_of_ble_eq_true rfl) (Nat.le_of_ble_eq_true rfl) ?_
 refine RW.g XK 77 [.p,.e [1,2,4,6,7,9],.o 1] rfl rfl rfl ?_
 refine RW.v rfl (V.inc rfl rfl rfl hij hl1) ?_
 refine RW.g XK 77 [.o 1,.p] rfl rfl rfl ?_
 exact ⟨(j + 1, _), by simp only []; omega, (by omega), rfl, Le.c rfl <| Le.c rfl <| Le.c rfl <| Le.c rfl <| Le.c (Dw_congr (by rw [highS_snoc hej]; split <;> simp_all [sLt, sGt])) <| Le.c rfl <| Le.e⟩
 refine CW.g XK 77 [.p,.e [1,2,4,6,7,9],.o 1] rfl rfl rfl ?_
 refine RW.v rfl (V.inc rfl rfl rfl hij hl1) ?_
 refine RW.g XK 77 [.o 1,.p] rfl rfl rfl ?_
 exact ⟨(j + 1, _), by simp only []; omega, (by omega), rfl, Le.c rfl <| Le.c rfl <| Le.c rfl <| Le.c rfl <| Le.c (Dw_congr (by rw [highS_snoc hej]; split <;> simp_all [sLt, sGt])) <| Le.c rfl <| Le.e⟩
 have hij : k.sessions.length ≤ j := by have := h12; simp at this; first | exact this | omega | (simp; done) | (simp; omega)
 have hdj : k.sessions.drop j = [] := List.drop_eq_nil_of_le hij
 refine CW.exit ?_
 refine CW.g XK 77 [.e [1,4,6,7],.n 1,.e [1,4,6,7,66]] rfl rfl rfl ?_
 refine CW.cond rfl (fun h16 => ?_) (fun h16 => ?_)
 have hgt := of_decide_eq_true h16
 refine CW.g XK 77 [.p] rfl rfl rfl ?_
 refine RW.build0 Session.c rfl rfl rfl rfl rfl fun X17 => ?_
 refine RW.g XK 77 [.o 1] rfl rfl rfl ?_
 refine RW.v rfl (V.cutLo (m := 1) rfl rfl rfl rfl rfl (.w rfl) rfl rfl (by omega)) ?_
 refine RW.appendSR (c := Session.c) (l1 := ([] : List Session)) (l2 := ((lowS k.sessions n ++ [newS n] ++ highS (k.sessions.take j) n).drop 1)) rfl rfl rfl rfl rfl rfl rfl rfl (.dropW rfl Session.len (by omega) nofun) (by decide) (Nat.le_of_ble_eq_true rfl) Session.len (fun _ => rfl) rfl q5 q5 fun X18 => ?_
 refine RW.assignMove rfl rfl rfl (by decide) (Nat.le_of_ble_eq_true rfl) (Nat.le_of_ble_eq_true rfl) ?_
 refine RW.g XK 77 [.p,.e [1,4,6,7],.o 3,.e [1,4,6,7]] rfl rfl rfl ?_
 refine RW.pullT (k := 6) (l := 7) (j := 0) 6 7 0 rfl rfl rfl (by decide) rfl rfl rfl ?_
 refine RW.g XK 77 [.e [1,4,6],.p,.e [1,4,6]] rfl rfl rfl ?_
 refine CW.anyJ2 (fc := []) (L0 := []) 77 (fun (go19_2_1 : (Nat → Nat → Value)) => [(4, .obj b2 [.w (sl 3 Session.c (([] : List Session) ++ ((lowS k.sessions n ++ [newS n] ++ highS (k.sessions.take j) n).drop 1))) X18, .w (sl 3 Item.c k.items) (g3 0 1)]), (5, S ((⟨#[111, 112, 101, 110, 32]⟩ : ByteArray) ++ (itoaB n)))]) (fun all hall f hf b0 hb K hK => ?_) ?_
 have ro19_4 : ∀ B, ∀ (go19_2_1 : Nat → Nat → Value), RA f E B all 0 (bt 6 63) ⟨77, [(4, .obj b2 [.w (sl 3 Session.c (([] : List Session) ++ ((lowS k.sessions n ++ [newS n] ++ highS (k.sessions.take j) n).drop 1))) X18, .w (sl 3 Item.c k.items) (g3 0 1)]), (5, S ((⟨#[111, 112, 101, 110, 32]⟩ : ByteArray) ++ (itoaB n)))] ++ b0⟩ K := by
  intro B go19_2_1
  exact RA.of2 hall hf hb (RA.finH (Tell.of rfl) (by kernel_rfl) (hK go19_2_1 _ rfl (Le.of rfl)))
 have ro19_3 : ∀ B, ∀ (go19_2_1 : Nat → Nat → Value), RA f E B all 2 (bt 6 15) ⟨77, [(4, .obj b2 [.r (.v (.slice none 0 0)), .r (.v (.slice none 0 0))]), (6, .obj b4 [.w (sl 3 Session.c (([] : List Session) ++ ((lowS k.sessions n ++ [newS n] ++ highS (k.sessions.take j) n).drop 1))) X18, .w (sl 3 Item.c k.items) (g3 0 1)]), (73, .agg [.al 6 (some 0) 3 ((([] : List Session) ++ ((lowS k.sessions n ++ [newS n] ++ highS (k.sessions.take j) n).drop 1)).length) X18 0, .al 6 (some 1) 3 k.items.length (g3 0 1) 0]), (76, S ((⟨#[111, 112, 101, 110, 32]⟩ : ByteArray) ++ (itoaB n)))] ++ b0⟩ K := by
  intro B go19_2_1
  refine RA.of2 hall hf hb (RA.stepH (L := [4]) (Tell.of rfl) (by kernel_rfl) (by simp) (RA.each ?_ (RA.each0)))
  refine RO.storeAgg (es := [.al 6 (some 0) 3 ((([] : List Session) ++ ((lowS k.sessions n ++ [newS n] ++ highS (k.sessions.take j) n).drop 1)).length) X18 0, .al 6 (some 1) 3 k.items.length (g3 0 1) 0]) rfl rfl rfl rfl rfl rfl rfl rfl rfl rfl (Nat.le_of_ble_eq_true rfl) rfl ?_
  refine RA.keep 77 [4,6,76] rfl ?_;(conv=>whnf);refine ⟨?_⟩
  refine RA.pullO (k := 4) (l := 6) (j := 0) 4 6 0 rfl rfl rfl (by decide) rfl rfl rfl rfl ?_
  refine RA.keep 77 [4,6,76] rfl ?_;(conv=>whnf);refine ⟨?_⟩
  refine RA.pullO (k := 4) (l := 6) (j := 1) 4 6 1 rfl rfl rfl (by decide) rfl rfl rfl rfl ?_
  refine RA.keep 77 [4,76] rfl ?_;(conv=>whnf);refine ⟨?_⟩
  refine RA.fr XK 77 0 [5] (bt 6 63) rfl rfl (by kernel_rfl) (Tell.of rfl) ?_
  (conv=>whnf);refine ⟨rfl,fun B=>?_⟩
  exact RA.to2 hall hf hb (ro19_4 B go19_2_1) rfl rfl (by kernel_rfl)
 have ro19_2 : ∀ B, ∀ (go19_2_1 : Nat → Nat → Value), RA f E B all 3 (bt 6 14) ⟨77, [(4, .obj b2 [.r (.v (.slice none 0 0)), .r (.v (.slice none 0 0))]), (6, .obj b4 [.w (sl 3 Session.c (([] : List Session) ++ ((lowS k.sessions n ++ [newS n] ++ highS (k.sessions.take j) n).drop 1))) X18, .w (sl 3 Item.c k.items) (g3 0 1)]), (76, S ((⟨#[111, 112, 101, 110, 32]⟩ : ByteArray) ++ (itoaB n)))] ++ b0⟩ K := by
  intro B go19_2_1
  refine RA.of2 hall hf hb (RA.stepH (L := [0]) (Tell.of rfl) (by kernel_rfl) (by simp) (RA.each ?_ (RA.each0)))
  refine RO.v rfl rfl (V.loadAgg rfl rfl rfl rfl rfl (Nat.le_of_ble_eq_true rfl)) rfl ?_
  exact RA.to2 hall hf hb (ro19_3 B go19_2_1) rfl rfl (by kernel_rfl)
 have ro19_1 : ∀ B, RA f E B all 4 (bt 6 3) ⟨77, [(4, .obj b2 [.r (.v (.slice none 0 0)), .r (.v (.slice none 0 0))]), (6, .obj b4 [.w (sl 3 Session.c (([] : List Session) ++ ((lowS k.sessions n ++ [newS n] ++ highS (k.sessions.take j) n).drop 1))) X18, .w (sl 3 Item.c k.items) (g3 0 1)]), (73, .agg [.al 6 (some 0) 3 ((([] : List Session) ++ ((lowS k.sessions n ++ [newS n] ++ highS (k.sessions.take j) n).drop 1)).length) X18 0, .al 6 (some 1) 3 k.items.length (g3 0 1) 0]), (74, I n)] ++ b0⟩ K := by
  intro B
  refine RA.of2 hall hf hb (RA.stepH (L := [2]) (Tell.of rfl) (by kernel_rfl) (by simp) (RA.each ?_ (RA.each0)))
  refine RO.call rfl rfl (spec_Decimal_fn n ⟨by omega, by omega⟩) rfl (.cons (.one (.r .r)) (.nil)) rfl fun go19_2_1 => ?_
  refine RA.first (i := 3) (ls' := (bt 6 15)) (Tell.of rfl) (by kernel_rfl) rfl rfl rfl (VF.p (V.cat rfl rfl rfl q11)) ?_
  exact RA.to2 hall hf hb (ro19_3 B go19_2_1) rfl rfl (by kernel_rfl)
 have ro19_0 : ∀ B, RA f E B all 5 (bt 6 2) ⟨77, [(4, .obj b2 [.r (.v (.slice none 0 0)), .r (.v (.slice none 0 0))]), (6, .obj b4 [.w (sl 3 Session.c (([] : List Session) ++ ((lowS k.sessions n ++ [newS n] ++ highS (k.sessions.take j) n).drop 1))) X18, .w (sl 3 Item.c k.items) (g3 0 1)]), (74, I n)] ++ b0⟩ K := by
  intro B
  refine RA.of2 hall hf hb (RA.stepH (L := [0, 2]) (Tell.of rfl) (by kernel_rfl) (by simp) (RA.each ?_ (RA.each ?_ (RA.each0))))
  refine RO.v rfl rfl (V.loadAgg rfl rfl rfl rfl rfl (Nat.le_of_ble_eq_true rfl)) rfl ?_
  exact RA.to2 hall hf hb (ro19_1 B) rfl rfl (by kernel_rfl)
  refine RO.call rfl rfl (spec_Decimal_fn n ⟨by omega, by omega⟩) rfl (.cons (.one (.r .r)) (.nil)) rfl fun go19_2_1 => ?_
  refine RA.first (i := 3) (ls' := (bt 6 14)) (Tell.of rfl) (by kernel_rfl) rfl rfl rfl (VF.p (V.cat rfl rfl rfl q11)) ?_
  exact RA.to2 hall hf hb (ro19_2 B go19_2_1) rfl rfl (by kernel_rfl)
 refine RA.start (by kernel_rfl) (by kernel_rfl) (m := 6) (ls' := (bt 6 0)) ?_
 refine RA.fr XK 77 5 [1] (bt 6 2) rfl rfl (by kernel_rfl) (Tell.of rfl) ?_
 (conv=>whnf);refine ⟨rfl,fun B=>?_⟩
 exact RA.to2 hall hf hb (ro19_0 B) rfl rfl (by kernel_rfl)
 rintro go19_2_1
 refine CW.ret ?_
 exact Post.tup (by decide) (RVs.c (RV.c (f := fun e => (Keep.c e).map .w) (e' := (⟨(([] : List Session) ++ ((lowS k.sessions n ++ [newS n] ++ highS (k.sessions.take j) n).drop 1)), k.items⟩ : Keep)) rfl rfl rfl rfl (DT.w (DT.w DT.e)) (by first | exact openS_cut hko hij (by assumption) | exact openS_no hko hij (by assumption))) (RVs.c (RV.s rfl (by rfl)) RVs.e)) (AOs.a rfl (AOs.r AOs.e))
 refine CW.g XK 77 [.p,.e [1,4,6,7],.o 3,.e [1,4,6,7]] rfl rfl rfl ?_
 refine RW.pullT (k := 6) (l := 7) (j := 0) 6 7 0 rfl rfl rfl (by decide) rfl rfl rfl ?_
 refine RW.g XK 77 [.e [1,4,6],.p,.e [1,4,6]] rfl rfl rfl ?_
 refine CW.anyJ2 (fc := []) (L0 := []) 77 (fun (go20_2_1 : (Nat → Nat → Value)) => [(4, .obj b2 [.w (sl 3 Session.c (lowS k.sessions n ++ [newS n] ++ highS (k.sessions.take j) n)) X, .w (sl 3 Item.c k.items) (g3 0 1)]), (5, S ((⟨#[111, 112, 101, 110, 32]⟩ : ByteArray) ++ (itoaB n)))]) (fun all hall f hf b0 hb K hK => ?_) ?_
 have ro20_4 : ∀ B, ∀ (go20_2_1 : Nat → Nat → Value), RA f E B all 0 (bt 6 63) ⟨77, [(4, .obj b2 [.w (sl 3 Session.c (lowS k.sessions n ++ [newS n] ++ highS (k.sessions.take j) n)) X, .w (sl 3 Item.c k.items) (g3 0 1)]), (5, S ((⟨#[111, 112, 101, 110, 32]⟩ : ByteArray) ++ (itoaB n)))] ++ b0⟩ K := by
  intro B go20_2_1
  exact RA.of2 hall hf hb (RA.finH (Tell.of rfl) (by kernel_rfl) (hK go20_2_1 _ rfl (Le.of rfl)))
 have ro20_3 : ∀ B, ∀ (go20_2_1 : Nat → Nat → Value), RA f E B all 2 (bt 6 15) ⟨77, [(4, .obj b2 [.r (.v (.slice none 0 0)), .r (.v (.slice none 0 0))]), (6, .obj b4 [.w (sl 3 Session.c (lowS k.sessions n ++ [newS n] ++ highS (k.sessions.take j) n)) X, .w (sl 3 Item.c k.items) (g3 0 1)]), (73, .agg [.al 6 (some 0) 3 ((lowS k.sessions n ++ [newS n] ++ highS (k.sessions.take j) n).length) X 0, .al 6 (some 1) 3 k.items.length (g3 0 1) 0]), (76, S ((⟨#[111, 112, 101, 110, 32]⟩ : ByteArray) ++ (itoaB n)))] ++ b0⟩ K := by
  intro B go20_2_1
  refine RA.of2 hall hf hb (RA.stepH (L := [4]) (Tell.of rfl) (by kernel_rfl) (by simp) (RA.each ?_ (RA.each0)))
  refine RO.storeAgg (es := [.al 6 (some 0) 3 ((lowS k.sessions n ++ [newS n] ++ highS (k.sessions.take j) n).length) X 0, .al 6 (some 1) 3 k.items.length (g3 0 1) 0]) rfl rfl rfl rfl rfl rfl rfl rfl rfl rfl (Nat.le_of_ble_eq_true rfl) rfl ?_
  refine RA.keep 77 [4,6,76] rfl ?_;(conv=>whnf);refine ⟨?_⟩
  refine RA.pullO (k := 4) (l := 6) (j := 0) 4 6 0 rfl rfl rfl (by decide) rfl rfl rfl rfl ?_
  refine RA.keep 77 [4,6,76] rfl ?_;(conv=>whnf);refine ⟨?_⟩
  refine RA.pullO (k := 4) (l := 6) (j := 1) 4 6 1 rfl rfl rfl (by decide) rfl rfl rfl rfl ?_
  refine RA.keep 77 [4,76] rfl ?_;(conv=>whnf);refine ⟨?_⟩
  refine RA.fr XK 77 0 [5] (bt 6 63) rfl rfl (by kernel_rfl) (Tell.of rfl) ?_
  (conv=>whnf);refine ⟨rfl,fun B=>?_⟩
  exact RA.to2 hall hf hb (ro20_4 B go20_2_1) rfl rfl (by kernel_rfl)
 have ro20_2 : ∀ B, ∀ (go20_2_1 : Nat → Nat → Value), RA f E B all 3 (bt 6 14) ⟨77, [(4, .obj b2 [.r (.v (.slice none 0 0)), .r (.v (.slice none 0 0))]), (6, .obj b4 [.w (sl 3 Session.c (lowS k.sessions n ++ [newS n] ++ highS (k.sessions.take j) n)) X, .w (sl 3 Item.c k.items) (g3 0 1)]), (76, S ((⟨#[111, 112, 101, 110, 32]⟩ : ByteArray) ++ (itoaB n)))] ++ b0⟩ K := by
  intro B go20_2_1
  refine RA.of2 hall hf hb (RA.stepH (L := [0]) (Tell.of rfl) (by kernel_rfl) (by simp) (RA.each ?_ (RA.each0)))
  refine RO.v rfl rfl (V.loadAgg rfl rfl rfl rfl rfl (Nat.le_of_ble_eq_true rfl)) rfl ?_
  exact RA.to2 hall hf hb (ro20_3 B go20_2_1) rfl rfl (by kernel_rfl)
 have ro20_1 : ∀ B, RA f E B all 4 (bt 6 3) ⟨77, [(4, .obj b2 [.r (.v (.slice none 0 0)), .r (.v (.slice none 0 0))]), (6, .obj b4 [.w (sl 3 Session.c (lowS k.sessions n ++ [newS n] ++ highS (k.sessions.take j) n)) X, .w (sl 3 Item.c k.items) (g3 0 1)]), (73, .agg [.al 6 (some 0) 3 ((lowS k.sessions n ++ [newS n] ++ highS (k.sessions.take j) n).length) X 0, .al 6 (some 1) 3 k.items.length (g3 0 1) 0]), (74, I n)] ++ b0⟩ K := by
  intro B
  refine RA.of2 hall hf hb (RA.stepH (L := [2]) (Tell.of rfl) (by kernel_rfl) (by simp) (RA.each ?_ (RA.each0)))
  refine RO.call rfl rfl (spec_Decimal_fn n ⟨by omega, by omega⟩) rfl (.cons (.one (.r .r)) (.nil)) rfl fun go20_2_1 => ?_
  refine RA.first (i := 3) (ls' := (bt 6 15)) (Tell.of rfl) (by kernel_rfl) rfl rfl rfl (VF.p (V.cat rfl rfl rfl q11)) ?_
  exact RA.to2 hall hf hb (ro20_3 B go20_2_1) rfl rfl (by kernel_rfl)
 have ro20_0 : ∀ B, RA f E B all 5 (bt 6 2) ⟨77, [(4, .obj b2 [.r (.v (.slice none 0 0)), .r (.v (.slice none 0 0))]), (6, .obj b4 [.w (sl 3 Session.c (lowS k.sessions n ++ [newS n] ++ highS (k.sessions.take j) n)) X, .w (sl 3 Item.c k.items) (g3 0 1)]), (74, I n)] ++ b0⟩ K := by
  intro B
  refine RA.of2 hall hf hb (RA.stepH (L := [0, 2]) (Tell.of rfl) (by kernel_rfl) (by simp) (RA.each ?_ (RA.each ?_ (RA.each0))))
  refine RO.v rfl rfl (V.loadAgg rfl rfl rfl rfl rfl (Nat.le_of_ble_eq_true rfl)) rfl ?_
  exact RA.to2 hall hf hb (ro20_1 B) rfl rfl (by kernel_rfl)
  refine RO.call rfl rfl (spec_Decimal_fn n ⟨by omega, by omega⟩) rfl (.cons (.one (.r .r)) (.nil)) rfl fun go20_2_1 => ?_
  refine RA.first (i := 3) (ls' := (bt 6 14)) (Tell.of rfl) (by kernel_rfl) rfl rfl rfl (VF.p (V.cat rfl rfl rfl q11)) ?_
  exact RA.to2 hall hf hb (ro20_2 B go20_2_1) rfl rfl (by kernel_rfl)
 refine RA.start (by kernel_rfl) (by kernel_rfl) (m := 6) (ls' := (bt 6 0)) ?_
 refine RA.fr XK 77 5 [1] (bt 6 2) rfl rfl (by kernel_rfl) (Tell.of rfl) ?_
 (conv=>whnf);refine ⟨rfl,fun B=>?_⟩
 exact RA.to2 hall hf hb (ro20_0 B) rfl rfl (by kernel_rfl)
 rintro go20_2_1
 refine CW.ret ?_
 exact Post.tup (by decide) (RVs.c (RV.c (f := fun e => (Keep.c e).map .w) (e' := (⟨(lowS k.sessions n ++ [newS n] ++ highS (k.sessions.take j) n), k.items⟩ : Keep)) rfl rfl rfl rfl (DT.w (DT.w DT.e)) (by first | exact openS_cut hko hij (by assumption) | exact openS_no hko hij (by assumption))) (RVs.c (RV.s rfl (by rfl)) RVs.e)) (AOs.a rfl (AOs.r AOs.e))
set_option maxHeartbeats 4000000 in
theorem spec_ItemOf_fn (k : Keep) (key : ByteArray) (hok : okToKeep k) : Eng.Fn E.P 26 [.agg ((Keep.c k).map .r), .one (.r (.v (.string key)))] (.tup [.agg ((Item.c ((itemOf k key).1)).map .w), .one (.w (.v (.bool ((itemOf k key).2))))]) [.agg ((Keep.c k).map .r), .one (.r (.v (.string key)))] := by
 refine Eng.Fn.intro (E := E) (rvs := [.cell 4 71, .tmp 5]) Tryz.func26 rfl rfl rfl (by simp [outSlots, moved, rvSlot, sl]) ?_
 intro B g bo
 refine CW.g XK 28 [.e [0,1]] rfl rfl rfl ?_
 have hl1 : k.sessions.length ≤ maxLen := by have := hok.1.1; simp only [maxLen]; omega
 have hl2 : k.items.length ≤ maxLen := by have := hok.2.1; simp only [maxLen]; omega
 refine CW.h XK 28 [.o 1] rfl ?_;(conv=>whnf);intro b1;(conv=>whnf);refine ⟨rfl,?_⟩
 refine RW.freezeB (ts := (Keep.c k)) 2 rfl (DRd.r (DRd.r DRd.e)) ?_
 refine RW.h XK 28 [.o 2,.p,.e [1,2,4],.n 1,.e [1,2,4,6],.p] rfl ?_;(conv=>whnf);intro b2;(conv=>whnf);refine ⟨rfl,?_⟩
 refine CW.loopI 28 (fun (i : Nat) => [(1, S key), (2, .rp (Keep.c k)), (4, .obj b2 [S (⟨#[]⟩), S (⟨#[]⟩), I 0]), (6, I (i : Int))]) (fun (i : Nat) => i ≤ k.items.length ∧ (k.items.drop i).find? (isKey key) = k.items.find? (isKey key)) (fun (i : Nat) => k.items.length - i) 0 rfl (Le.c rfl <| Le.c rfl <| Le.c rfl <| Le.c rfl <| Le.e) ⟨by omega, rfl⟩ ?_
 rintro i ⟨hb, hr⟩
 refine CW.g XK 28 [.n 1,.e [1,2,4,6,11]] rfl rfl rfl ?_
 refine CW.cond rfl (fun h3 => ?_) (fun h3 => ?_)
 have hii : i < k.items.length := by have := h3; simp at this; first | exact this | omega | (simp; done) | (simp; omega)
 obtain ⟨ei, hei⟩ : ∃ e, k.items[i]? = some e := ⟨_, List.getElem?_eq_getElem hii⟩
 have hdi := drop_get hei
 refine CW.g XK 28 [.p,.e [1,2,4,6],.o 3] rfl rfl rfl ?_
 refine RW.v rfl (V.indexS rfl rfl rfl rfl rfl rfl Item.len hei) ?_
 refine RW.g XK 28 [.o 4,.p,.e [1,2,4,6,21]] rfl rfl rfl ?_
 refine CW.cond rfl (fun h4 => ?_) (fun h4 => ?_)
 refine CW.g XK 28 [.o 3] rfl rfl rfl ?_
 refine RW.v rfl (V.indexS rfl rfl rfl rfl rfl rfl Item.len hei) ?_
 refine RW.g XK 28 [.o 3,.p,.e [4,5]] rfl rfl rfl ?_
 refine CW.ret ?_
 exact Post.tup (by decide) (RVs.c (RV.c (f := fun e => (Item.c e).map .w) (e' := ei) rfl rfl rfl rfl (DT.v (DT.v (DT.v DT.e))) q39) (RVs.c (RV.b rfl q39) RVs.e)) (AOs.a rfl (AOs.r AOs.e))
 refine CW.g XK 28 [.p,.e [1,2,4,6],.o 1] rfl rfl rfl ?_
 refine RW.v rfl (V.inc rfl rfl rfl hii hl2) ?_
 refine RW.g XK 28 [.o 1,.p] rfl rfl rfl ?_
 exact ⟨i + 1, by omega, ⟨by omega, item_step hr hdi (by simp_all [isKey, sEq])⟩, rfl, Le.c rfl <| Le.c rfl <| Le.c rfl <| Le.c rfl <| Le.e⟩
 have hii : k.items.length ≤ i := by have := h3; simp at this; first | exact this | omega | (simp; done) | (simp; omega)
 have hdi : k.items.drop i = [] := List.drop_eq_nil_of_le hii
 refine CW.exit ?_
 refine CW.g XK 28 [.e [4],.n 1,.e [4,5]] rfl rfl rfl ?_
 refine CW.ret ?_
 exact Post.tup (by decide) (RVs.c (RV.c (f := fun e => (Item.c e).map .w) (e' := (⟨⟨#[]⟩, ⟨#[]⟩, 0⟩ : Item)) rfl rfl rfl rfl (DT.v (DT.v (DT.v DT.e))) (by rw [item_no hr hdi]; try rfl)) (RVs.c (RV.b rfl (by rw [item_no hr hdi]; try rfl)) RVs.e)) (AOs.a rfl (AOs.r AOs.e))
set_option maxHeartbeats 4000000 in
theorem spec_l15Put_fn (k : Keep) (it : Item) (hok : okToKeep k) : Eng.Fn E.P 107 [.ob ((Keep.c k).map .w), .agg ((Item.c it).map .r)] (.one (.one (.w (.v (.bool (!bigP k it)))))) [.ob ((Keep.c (putSK k it)).map .w), .agg ((Item.c it).map .r)] := by
 refine Eng.Fn.intro (E := E) (rvs := [.tmp 4]) Tryz.func107 rfl rfl rfl (by simp [outSlots, moved, rvSlot, sl]) ?_
 intro B g bo
 refine CW.g XK 80 [.e [0,1]] rfl rfl rfl ?_
 have hl1 : k.sessions.length ≤ maxLen := by have := hok.1.1; simp only [maxLen]; omega
 have hl2 : k.items.length ≤ maxLen := by have := hok.2.1; simp only [maxLen]; omega
 refine CW.h XK 80 [.o 1] rfl ?_;(conv=>whnf);intro b1;(conv=>whnf);refine ⟨rfl,?_⟩
 refine RW.freezeB (ts := (Item.c it)) 3 rfl (DRd.r (DRd.r (DRd.r DRd.e))) ?_
 refine RW.g XK 80 [.o 1,.p,.e [0,3],.p,.p] rfl rfl rfl ?_
 refine RW.build0 Item.c rfl rfl rfl rfl rfl fun X2 => ?_
 refine RW.assignMove rfl rfl rfl (by decide) (Nat.le_of_ble_eq_true rfl) (Nat.le_of_ble_eq_true rfl) ?_
 refine RW.g XK 80 [.p,.e [0,3,5],.n 1,.e [0,3,5,6],.p] rfl rfl rfl ?_
 refine CW.loopI 80 (fun (zz : Nat × Value) => match zz with | (i, X) => [(0, .obj (bo 0) [.w (sl 3 Session.c k.sessions) (g 0 0), .w (sl 3 Item.c k.items) (g 0 1)]), (3, .rp (Item.c it)), (5, .w (sl 3 Item.c (lowL (k.items.take i) it)) X), (6, I (i : Int))]) (fun (zz : Nat × Value) => match zz with | (i, X) => i ≤ k.items.length) (fun (zz : Nat × Value) => match zz with | (i, X) => k.items.length - i) (0, _) rfl (Le.c rfl <| Le.c rfl <| Le.c rfl <| Le.c rfl <| Le.e) (by omega) ?_
 rintro ⟨i, X⟩ hb
 refine CW.g XK 80 [.n 1,.e [0,3,5,6,15]] rfl rfl rfl ?_
 refine CW.cond rfl (fun h3 => ?_) (fun h3 => ?_)
 have hii : i < k.items.length := by have := h3; simp at this; first | exact this | omega | (simp; done) | (simp; omega)
 obtain ⟨ei, hei⟩ : ∃ e, k.items[i]? = some e := ⟨_, List.getElem?_eq_getElem hii⟩
 have hdi := drop_get hei
 refine CW.g XK 80 [.p,.e [0,3,5,6],.p,.p,.p] rfl rfl rfl ?_
 refine CW.drawn (by kernel_rfl) ?_
 refine RQ.k XK 80 5 rfl ?_
 (conv=>whnf);refine ⟨rfl,?_⟩
 refine RQ.swapO 21 0 1 (by decide) rfl rfl rfl ?_
 refine RQ.v rfl (V.indexW rfl rfl rfl rfl rfl rfl rfl hii) ?_
 refine RQ.k XK 80 1 rfl ?_
 (conv=>whnf);refine ⟨rfl,?_⟩
 refine RQ.v rfl (V.loadF (m := i) (off := 0) rfl rfl (.inl rfl) rfl rfl Item.len hei (by decide) rfl) ?_
 refine RQ.k XK 80 3 rfl ?_
 (conv=>whnf);refine ⟨rfl,?_⟩
 refine RQ.pullT (k := 0) (l := 21) (j := 1) 0 21 1 rfl rfl rfl (by decide) rfl rfl rfl ?_
 refine RQ.nil ?_
 refine CW.g XK 80 [.e [0,3,5,6,28]] rfl rfl rfl ?_
 refine CW.cond rfl (fun h4 => ?_) (fun h4 => ?_)
 refine CW.g XK 80 [.o 6] rfl rfl rfl ?_
 refine RW.swapO 33 0 1 (by decide) rfl rfl rfl ?_
 refine RW.v rfl (V.indexW rfl rfl rfl rfl rfl rfl rfl hii) ?_
 refine RW.v rfl (V.loadAggF (m := i) rfl rfl rfl rfl rfl Item.len hei (vs := Item.vs ei) rfl (by decide)) ?_
 refine RW.build1 (c := Item.c) (v := ei) rfl rfl rfl rfl rfl rfl (DW.v (DW.v (DW.v DW.e))) Item.len (by decide) (by decide) fun X5 => ?_
 refine RW.appendSR (c := Item.c) (l1 := (lowL (k.items.take i) it)) (l2 := [ei]) rfl rfl rfl rfl rfl rfl rfl rfl (.al (k := none) (i := 37) (sz := 3) (V := X5) rfl rfl nofun) (by decide) (Nat.le_of_ble_eq_true rfl) Item.len (fun _ => rfl) rfl q6 q6 fun X6 => ?_
 refine RW.assignMove rfl rfl rfl (by decide) (Nat.le_of_ble_eq_true rfl) (Nat.le_of_ble_eq_true rfl) ?_
 refine RW.pullT (k := 0) (l := 33) (j := 1) 0 33 1 rfl rfl rfl (by decide) rfl rfl rfl ?_
 refine RW.g XK 80 [.p,.e [0,3,5,6],.o 1] rfl rfl rfl ?_
 refine RW.v rfl (V.inc rfl rfl rfl hii hl2) ?_
 refine RW.g XK 80 [.o 1,.p] rfl rfl rfl ?_
 exact ⟨(i + 1, _), by simp only []; omega, (by omega), rfl, Le.c rfl <| Le.c rfl <| Le.c (Dw_congr (by rw [lowL_snoc hei]; simp_all [sLt, sGt])) <| Le.c rfl <| Le.e⟩
 refine CW.g XK 80 [.p,.e [0,3,5,6],.o 1] rfl rfl rfl ?_
 refine RW.v rfl (V.inc rfl rfl rfl hii hl2) ?_
 refine RW.g XK 80 [.o 1,.p] rfl rfl rfl ?_
 exact ⟨(i + 1, _), by simp only []; omega, (by omega), rfl, Le.c rfl <| Le.c rfl <| Le.c (Dw_congr (by rw [lowL_snoc hei]; simp_all [sLt, sGt])) <| Le.c rfl <| Le.e⟩
 have hii : k.items.length ≤ i := by have := h3; simp at this; first | exact this | omega | (simp; done) | (simp; omega)
 have hdi : k.items.drop i = [] := List.drop_eq_nil_of_le hii
 refine CW.exit ?_
 refine CW.g XK 80 [.e [0,3,5],.o 2] rfl rfl rfl ?_
 refine RW.build1 (c := Item.c) (v := it) rfl rfl rfl rfl rfl rfl (DW.v (DW.v (DW.v DW.e))) Item.len (by decide) (by decide) fun X7 => ?_
 refine RW.appendSR (c := Item.c) (l1 := (lowL (k.items.take i) it)) (l2 := [it]) rfl rfl rfl rfl rfl rfl rfl rfl (.al (k := none) (i := 41) (sz := 3) (V := X7) rfl rfl nofun) (by decide) (Nat.le_of_ble_eq_true rfl) Item.len (fun _ => rfl) rfl q6 q6 fun X8 => ?_
 refine RW.assignMove rfl rfl rfl (by decide) (Nat.le_of_ble_eq_true rfl) (Nat.le_of_ble_eq_true rfl) ?_
 refine RW.g XK 80 [.p,.e [0,3,5],.n 1,.e [0,3,5,7],.p] rfl rfl rfl ?_
 refine CW.loopI 80 (fun (zz : Nat × Value) => match zz with | (j, X) => [(0, .obj (bo 0) [.w (sl 3 Session.c k.sessions) (g 0 0), .w (sl 3 Item.c k.items) (g 0 1)]), (3, .rp (Item.c it)), (5, .w (sl 3 Item.c (lowL k.items it ++ [it] ++ highL (k.items.take j) it)) X), (7, I (j : Int))]) (fun (zz : Nat × Value) => match zz with | (j, X) => j ≤ k.items.length) (fun (zz : Nat × Value) => match zz with | (j, X) => k.items.length - j) (0, _) rfl (Le.c rfl <| Le.c rfl <| Le.c (Dw_congr (by rw [List.take_of_length_le hii]; simp [highL, newS])) <| Le.c rfl <| Le.e) (by omega) ?_
 rintro ⟨j, X⟩ hc
 refine CW.g XK 80 [.n 1,.e [0,3,5,7,49]] rfl rfl rfl ?_
 refine CW.cond rfl (fun h9 => ?_) (fun h9 => ?_)
 have hij : j < k.items.length := by have := h9; simp at this; first | exact this | omega | (simp; done) | (simp; omega)
 obtain ⟨ej, hej⟩ : ∃ e, k.items[j]? = some e := ⟨_, List.getElem?_eq_getElem hij⟩
 have hdj := drop_get hej
 refine CW.g XK 80 [.p,.e [0,3,5,7],.p,.p,.p] rfl rfl rfl ?_
 refine CW.drawn (by kernel_rfl) ?_
 refine RQ.k XK 80 5 rfl ?_
 (conv=>whnf);refine ⟨rfl,?_⟩
 refine RQ.swapO 55 0 1 (by decide) rfl rfl rfl ?_
 refine RQ.v rfl (V.indexW rfl rfl rfl rfl rfl rfl rfl hij) ?_
 refine RQ.k XK 80 1 rfl ?_
 (conv=>whnf);refine ⟨rfl,?_⟩
 refine RQ.v rfl (V.loadF (m := j) (off := 0) rfl rfl (.inl rfl) rfl rfl Item.len hej (by decide) rfl) ?_
 refine RQ.k XK 80 3 rfl ?_
 (conv=>whnf);refine ⟨rfl,?_⟩
 refine RQ.pullT (k := 0) (l := 55) (j := 1) 0 55 1 rfl rfl rfl (by decide) rfl rfl rfl ?_
 refine RQ.nil ?_
 refine CW.g XK 80 [.e [0,3,5,7,62]] rfl rfl rfl ?_
 refine CW.cond rfl (fun h10 => ?_) (fun h10 => ?_)
 refine CW.g XK 80 [.o 6] rfl rfl rfl ?_
 refine RW.swapO 67 0 1 (by decide) rfl rfl rfl ?_
 refine RW.v rfl (V.indexW rfl rfl rfl rfl rfl rfl rfl hij) ?_
 refine RW.v rfl (V.loadAggF (m := j) rfl rfl rfl rfl rfl Item.len hej (vs := Item.vs ej) rfl (by decide)) ?_
 refine RW.build1 (c := Item.c) (v := ej) rfl rfl rfl rfl rfl rfl (DW.v (DW.v (DW.v DW.e))) Item.len (by decide) (by decide) fun X11 => ?_
 refine RW.appendSR (c := Item.c) (l1 := (lowL k.items it ++ [it] ++ highL (k.items.take j) it)) (l2 := [ej]) rfl rfl rfl rfl rfl rfl rfl rfl (.al (k := none) (i := 71) (sz := 3) (V := X11) rfl rfl nofun) (by decide) (Nat.le_of_ble_eq_true rfl) Item.len (fun _ => rfl) rfl q6 q6 fun X12 => ?_
 refine RW.assignMove rfl rfl rfl (by decide) (Nat.le_of_ble_eq_true rfl) (Nat.le_of_ble_eq_true rfl) ?_
 refine RW.pullT (k := 0) (l := 67) (j := 1) 0 67 1 rfl rfl rfl (by decide) rfl rfl rfl ?_
 refine RW.g XK 80 [.p,.e [0,3,5,7],.o 1] rfl rfl rfl ?_
 refine RW.v rfl (V.inc rfl rfl rfl hij hl2) ?_
 refine RW.g XK 80 [.o 1,.p] rfl rfl rfl ?_
 exact ⟨(j + 1, _), by simp only []; omega, (by omega), rfl, Le.c rfl <| Le.c rfl <| Le.c (Dw_congr (by rw [highL_snoc hej]; split <;> simp_all [sLt, sGt])) <| Le.c rfl <| Le.e⟩
 refine CW.g XK 80 [.p,.e [0,3,5,7],.o 1] rfl rfl rfl ?_
 refine RW.v rfl (V.inc rfl rfl rfl hij hl2) ?_
 refine RW.g XK 80 [.o 1,.p] rfl rfl rfl ?_
 exact ⟨(j + 1, _), by simp only []; omega, (by omega), rfl, Le.c rfl <| Le.c rfl <| Le.c (Dw_congr (by rw [highL_snoc hej]; split <;> simp_all [sLt, sGt])) <| Le.c rfl <| Le.e⟩
 have hij : k.items.length ≤ j := by have := h9; simp at this; first | exact this | omega | (simp; done) | (simp; omega)
 have hdj : k.items.drop j = [] := List.drop_eq_nil_of_le hij
 refine CW.exit ?_
 refine CW.g XK 80 [.e [0,5],.n 1,.e [0,5,75]] rfl rfl rfl ?_
 refine CW.cond rfl (fun h13 => ?_) (fun h13 => ?_)
 have hbg := bigP_of hij h13
 refine CW.g XK 80 [.n 1,.e [0,4]] rfl rfl rfl ?_
 refine CW.ret ?_
 exact Post.one (RV.b rfl (by rw [hbg]; rfl)) (AOs.obE (f := fun e => (Keep.c e).map .w) (e' := k) rfl (DT.w (DT.w DT.e)) (by first | exact (putSK_t hbg).symm | exact putSK_f hbg hij) (AOs.a rfl AOs.e))
 have hbg := bigP_of hij h13
 refine CW.g XK 80 [.p,.e [0,5],.o 5,.e [0,5]] rfl rfl rfl ?_
 refine RW.pullT (k := 0) (l := 5) (j := 1) 0 5 1 rfl rfl rfl (by decide) rfl rfl rfl ?_
 refine RW.g XK 80 [.e [0],.p,.e [0],.n 1,.e [0,4]] rfl rfl rfl ?_
 refine CW.ret ?_
 exact Post.one (RV.b rfl (by rw [hbg]; rfl)) (AOs.obE (f := fun e => (Keep.c e).map .w) (e' := (⟨k.sessions, (lowL k.items it ++ [it] ++ highL (k.items.take j) it)⟩ : Keep)) rfl (DT.w (DT.w DT.e)) (by first | exact (putSK_t hbg).symm | exact putSK_f hbg hij) (AOs.a rfl AOs.e))
end Go.Proofs.YtdipdkfbaehglaaGreatDoor.Y
