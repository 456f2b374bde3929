import Derived.Test.YtaeagpakloggfaaDoorWFoldsB
namespace Go.Proofs.YtaeagpakloggfaaDoor.Y
open Go Go.RowKit Go.Eng Go.Proofs
set_option maxRecDepth 10000
set_option maxHeartbeats 4000000 in
theorem spec_l15Open_fn (k : Keep) (n : Int) (hok : okToKeep k) (hko : keepOk k = true) (hn : 1 ≤ n ∧ n ≤ 400000) : Eng.Fn E.P 57 [.agg ((Keep.c k).map .r), .one (.r (.v (.int .i64 n)))] (.tup [.agg ((Keep.c (openK k n)).map .w), .one (.w (.v (.string (tOpen ++ itoaB n))))]) [.agg ((Keep.c k).map .r), .one (.r (.v (.int .i64 n)))] := by
 refine Eng.Fn.intro (E := E) (rvs := [.cell 4 31, .tmp 5]) Tryd.func57 rfl rfl rfl (by simp [outSlots, moved, rvSlot, sl]) ?_
 intro B g bo
 refine CW.keep 77 [0,1] rfl ?_;(conv=>whnf);refine ⟨?_⟩
 have hl1 : k.sessions.length ≤ maxLen := by have := hok.1.1; simp only [maxLen]; omega
 have hl2 : k.items.length ≤ maxLen := by have := hok.2.1; simp only [maxLen]; omega
 have hn1 := hn.1; have hn2 := hn.2
 refine CW.seq ?_
 refine CW.region ?_
 refine RW.k XK 77 1 rfl ?_
 (conv=>whnf);intro b1;(conv=>whnf);refine ⟨rfl,?_⟩
 refine RW.freezeB (ts := (Keep.c k)) 2 rfl (DRd.r (DRd.r DRd.e)) ?_
 refine RW.k XK 77 2 rfl ?_
 (conv=>whnf);intro b2;(conv=>whnf);refine ⟨rfl,?_⟩
 refine RW.nil ?_
 refine CW.keep 77 [1,2,4] rfl ?_;(conv=>whnf);refine ⟨?_⟩
 refine CW.seq ?_
 refine CW.region ?_
 refine RW.k XK 77 1 rfl ?_
 (conv=>whnf);refine ⟨rfl,?_⟩
 refine RW.call rfl (spec_l15Copy_fn k hok) rfl (.cons (.agg (.cons (.r .r) (.cons (.r .r) (.nil)))) (.nil)) fun g3 => ?_
 refine RW.k XK 77 2 rfl ?_
 (conv=>whnf);intro b4;(conv=>whnf);refine ⟨rfl,?_⟩
 refine RW.keep 77 [1,2,4,6,11] rfl ?_;(conv=>whnf);refine ⟨?_⟩
 refine RW.pullA (k := 6) (l := 11) (j := 0) 6 11 0 rfl rfl rfl (by decide) rfl rfl rfl rfl ?_
 refine RW.keep 77 [1,2,4,6,11] rfl ?_;(conv=>whnf);refine ⟨?_⟩
 refine RW.pullA (k := 6) (l := 11) (j := 1) 6 11 1 rfl rfl rfl (by decide) rfl rfl rfl rfl ?_
 refine RW.keep 77 [1,2,4,6] rfl ?_;(conv=>whnf);refine ⟨?_⟩
 refine RW.nil ?_
 refine CW.keep 77 [1,2,4,6] rfl ?_;(conv=>whnf);refine ⟨?_⟩
 refine CW.seq ?_
 refine CW.region ?_
 refine RW.build0 Session.c rfl rfl rfl rfl rfl fun X5 => ?_
 refine RW.assignMove rfl rfl rfl (by decide) (Nat.le_of_ble_eq_true rfl) (Nat.le_of_ble_eq_true rfl) ?_
 refine RW.nil ?_
 refine CW.keep 77 [1,2,4,6,7] rfl ?_;(conv=>whnf);refine ⟨?_⟩
 refine CW.seq ?_
 refine CW.k XK 77 1 [1,2,4,6,7,8] rfl ?_
 (conv=>whnf);refine ⟨rfl,?_⟩
 refine CW.block ?_
 refine CW.loopI 77 (fun (zz : Nat × Value) => match zz with | (i, X) => [(1, I n), (2, .rp (Keep.c k)), (4, .obj b2 [.r (.v (.slice none 0 0)), .r (.v (.slice none 0 0))]), (6, .obj b4 [.w (sl 3 Session.c k.sessions) (g3 0 0), .w (sl 3 Item.c k.items) (g3 0 1)]), (7, .w (sl 3 Session.c (lowS (k.sessions.take i) n)) X), (8, I (i : Int))]) (fun (zz : Nat × Value) => match zz with | (i, X) => i ≤ k.sessions.length) (fun (zz : Nat × Value) => match zz with | (i, X) => k.sessions.length - i) (0, _) rfl (Le.c rfl <| Le.c rfl <| Le.c rfl <| Le.c rfl <| Le.c rfl <| Le.c rfl <| Le.e) (by omega) ?_
 rintro ⟨i, X⟩ hb
 refine CW.seq ?_
 refine CW.k XK 77 1 [1,2,4,6,7,8,17] rfl ?_
 (conv=>whnf);refine ⟨rfl,?_⟩
 refine CW.cond rfl (fun h6 => ?_) (fun h6 => ?_)
 ·skip
  have hii : i < k.sessions.length := by have := h6; simp at this; first | exact this | omega | (simp; done) | (simp; omega)
  obtain ⟨ei, hei⟩ : ∃ e, k.sessions[i]? = some e := ⟨_, List.getElem?_eq_getElem hii⟩
  have hdi := drop_get hei
  refine CW.skip ?_
  refine CW.keep 77 [1,2,4,6,7,8] rfl ?_;(conv=>whnf);refine ⟨?_⟩
  refine CW.seq ?_
  refine CW.block ?_
  refine CW.seq ?_
  refine CW.region ?_
  refine RW.k XK 77 3 rfl ?_
  (conv=>whnf);refine ⟨rfl,?_⟩
  refine RW.v rfl (V.indexS rfl rfl rfl rfl rfl rfl Session.len hei) ?_
  refine RW.k XK 77 4 rfl ?_
  (conv=>whnf);refine ⟨rfl,?_⟩
  refine RW.nil ?_
  refine CW.keep 77 [1,2,4,6,7,8,27] rfl ?_;(conv=>whnf);refine ⟨?_⟩
  refine CW.cond rfl (fun h7 => ?_) (fun h7 => ?_)
  ·skip
   refine CW.region ?_
   refine RW.k XK 77 4 rfl ?_
   (conv=>whnf);refine ⟨rfl,?_⟩
   refine RW.v rfl (V.indexS rfl rfl rfl rfl rfl rfl Session.len hei) ?_
   refine RW.k XK 77 1 rfl ?_
   (conv=>whnf);refine ⟨rfl,?_⟩
   refine RW.build1 (c := Session.c) (v := ei) rfl rfl rfl rfl rfl rfl (DW.v (DW.v (DW.v DW.e))) Session.len (by decide) (by decide) fun X8 => ?_
   refine RW.appendSR (c := Session.c) (l1 := (lowS (k.sessions.take i) n)) (l2 := [ei]) rfl rfl rfl rfl rfl rfl rfl rfl (.al (k := none) (i := 34) (sz := 3) (V := X8) rfl rfl nofun) (by decide) (Nat.le_of_ble_eq_true rfl) Session.len (fun _ => rfl) rfl (by have h9 := lowS_len (k.sessions.take i) n; have h10 : (k.sessions.take i).length ≤ k.sessions.length := (by rw [List.length_take]; omega); have h11 := hok.1.1; first | (simp only [maxLen, List.length_singleton, List.length_append, List.length_nil]; omega) | (have h7 := lowS_len k.sessions n; have h8 := highS_len (k.sessions.take j) n; have h6 : (k.sessions.take j).length ≤ k.sessions.length := (by rw [List.length_take]; omega); simp only [maxLen, List.length_singleton, List.length_append, List.length_nil, List.length_drop]; omega)) (by have h9 := lowS_len (k.sessions.take i) n; have h10 : (k.sessions.take i).length ≤ k.sessions.length := (by rw [List.length_take]; omega); have h11 := hok.1.1; first | (simp only [maxLen, List.length_singleton, List.length_append, List.length_nil]; omega) | (have h7 := lowS_len k.sessions n; have h8 := highS_len (k.sessions.take j) n; have h6 : (k.sessions.take j).length ≤ k.sessions.length := (by rw [List.length_take]; omega); simp only [maxLen, List.length_singleton, List.length_append, List.length_nil, List.length_drop]; omega)) fun X9 => ?_
   refine RW.assignMove rfl rfl rfl (by decide) (Nat.le_of_ble_eq_true rfl) (Nat.le_of_ble_eq_true rfl) ?_
   refine RW.nil ?_
   refine CW.keep 77 [1,2,4,6,7,8] rfl ?_;(conv=>whnf);refine ⟨?_⟩
   refine CW.region ?_
   refine RW.k XK 77 1 rfl ?_
   (conv=>whnf);refine ⟨rfl,?_⟩
   refine RW.v rfl (V.inc rfl rfl rfl hii hl1) ?_
   refine RW.k XK 77 1 rfl ?_
   (conv=>whnf);refine ⟨rfl,?_⟩
   refine RW.nil ?_
   exact ⟨(i + 1, _), by simp only []; omega, (by omega), rfl, Le.c rfl <| Le.c rfl <| Le.c rfl <| Le.c rfl <| Le.c (Dw_congr (by rw [lowS_snoc hei]; simp_all [sLt, sGt])) <| Le.c rfl <| Le.e⟩
  ·skip
   refine CW.skip ?_
   refine CW.keep 77 [1,2,4,6,7,8] rfl ?_;(conv=>whnf);refine ⟨?_⟩
   refine CW.region ?_
   refine RW.k XK 77 1 rfl ?_
   (conv=>whnf);refine ⟨rfl,?_⟩
   refine RW.v rfl (V.inc rfl rfl rfl hii hl1) ?_
   refine RW.k XK 77 1 rfl ?_
   (conv=>whnf);refine ⟨rfl,?_⟩
   refine RW.nil ?_
   exact ⟨(i + 1, _), by simp only []; omega, (by omega), rfl, Le.c rfl <| Le.c rfl <| Le.c rfl <| Le.c rfl <| Le.c (Dw_congr (by rw [lowS_snoc hei]; simp_all [sLt, sGt])) <| Le.c rfl <| Le.e⟩
 ·skip
  have hii : k.sessions.length ≤ i := by have := h6; simp at this; first | exact this | omega | (simp; done) | (simp; omega)
  have hdi : k.sessions.drop i = [] := List.drop_eq_nil_of_le hii
  refine CW.exit ?_
  refine CW.keep 77 [1,2,4,6,7] rfl ?_;(conv=>whnf);refine ⟨?_⟩
  refine CW.seq ?_
  refine CW.region ?_
  refine RW.k XK 77 3 rfl ?_
  (conv=>whnf);refine ⟨rfl,?_⟩
  refine RW.build1 (c := Session.c) (v := (⟨n, 0, ⟨#[]⟩⟩ : Session)) rfl rfl rfl rfl rfl rfl (DW.v (DW.v (DW.v DW.e))) Session.len (by decide) (by decide) fun X10 => ?_
  refine RW.appendSR (c := Session.c) (l1 := (lowS (k.sessions.take i) n)) (l2 := [(⟨n, 0, ⟨#[]⟩⟩ : Session)]) rfl rfl rfl rfl rfl rfl rfl rfl (.al (k := none) (i := 39) (sz := 3) (V := X10) rfl rfl nofun) (by decide) (Nat.le_of_ble_eq_true rfl) Session.len (fun _ => rfl) rfl (by have h9 := lowS_len (k.sessions.take i) n; have h10 : (k.sessions.take i).length ≤ k.sessions.length := (by rw [List.length_take]; omega); have h11 := hok.1.1; first | (simp only [maxLen, List.length_singleton, List.length_append, List.length_nil]; omega) | (have h7 := lowS_len k.sessions n; have h8 := highS_len (k.sessions.take j) n; have h6 : (k.sessions.take j).length ≤ k.sessions.length := (by rw [List.length_take]; omega); simp only [maxLen, List.length_singleton, List.length_append, List.length_nil, List.length_drop]; omega)) (by have h9 := lowS_len (k.sessions.take i) n; have h10 : (k.sessions.take i).length ≤ k.sessions.length := (by rw [List.length_take]; omega); have h11 := hok.1.1; first | (simp only [maxLen, List.length_singleton, List.length_append, List.length_nil]; omega) | (have h7 := lowS_len k.sessions n; have h8 := highS_len (k.sessions.take j) n; have h6 : (k.sessions.take j).length ≤ k.sessions.length := (by rw [List.length_take]; omega); simp only [maxLen, List.length_singleton, List.length_append, List.length_nil, List.length_drop]; omega)) fun X11 => ?_
  refine RW.assignMove rfl rfl rfl (by decide) (Nat.le_of_ble_eq_true rfl) (Nat.le_of_ble_eq_true rfl) ?_
  refine RW.nil ?_
  refine CW.keep 77 [1,2,4,6,7] rfl ?_;(conv=>whnf);refine ⟨?_⟩
  refine CW.seq ?_
  refine CW.k XK 77 1 [1,2,4,6,7,9] rfl ?_
  (conv=>whnf);refine ⟨rfl,?_⟩
  refine CW.block ?_
  refine CW.loopI 77 (fun (zz : Nat × Value) => match zz with | (j, X) => [(1, I n), (2, .rp (Keep.c k)), (4, .obj b2 [.r (.v (.slice none 0 0)), .r (.v (.slice none 0 0))]), (6, .obj b4 [.w (sl 3 Session.c k.sessions) (g3 0 0), .w (sl 3 Item.c k.items) (g3 0 1)]), (7, .w (sl 3 Session.c (lowS k.sessions n ++ [newS n] ++ highS (k.sessions.take j) n)) X), (9, I (j : Int))]) (fun (zz : Nat × Value) => match zz with | (j, X) => j ≤ k.sessions.length) (fun (zz : Nat × Value) => match zz with | (j, X) => k.sessions.length - j) (0, _) rfl (Le.c rfl <| Le.c rfl <| Le.c rfl <| Le.c rfl <| Le.c (Dw_congr (by rw [List.take_of_length_le hii]; simp [highS, newS])) <| Le.c rfl <| Le.e) (by omega) ?_
  rintro ⟨j, X⟩ hc
  refine CW.seq ?_
  refine CW.k XK 77 1 [1,2,4,6,7,9,45] rfl ?_
  (conv=>whnf);refine ⟨rfl,?_⟩
  refine CW.cond rfl (fun h12 => ?_) (fun h12 => ?_)
  ·skip
   have hij : j < k.sessions.length := by have := h12; simp at this; first | exact this | omega | (simp; done) | (simp; omega)
   obtain ⟨ej, hej⟩ : ∃ e, k.sessions[j]? = some e := ⟨_, List.getElem?_eq_getElem hij⟩
   have hdj := drop_get hej
   refine CW.skip ?_
   refine CW.keep 77 [1,2,4,6,7,9] rfl ?_;(conv=>whnf);refine ⟨?_⟩
   refine CW.seq ?_
   refine CW.block ?_
   refine CW.seq ?_
   refine CW.region ?_
   refine RW.k XK 77 3 rfl ?_
   (conv=>whnf);refine ⟨rfl,?_⟩
   refine RW.v rfl (V.indexS rfl rfl rfl rfl rfl rfl Session.len hej) ?_
   refine RW.k XK 77 4 rfl ?_
   (conv=>whnf);refine ⟨rfl,?_⟩
   refine RW.nil ?_
   refine CW.keep 77 [1,2,4,6,7,9,55] rfl ?_;(conv=>whnf);refine ⟨?_⟩
   refine CW.cond rfl (fun h13 => ?_) (fun h13 => ?_)
   ·skip
    refine CW.region ?_
    refine RW.k XK 77 4 rfl ?_
    (conv=>whnf);refine ⟨rfl,?_⟩
    refine RW.v rfl (V.indexS rfl rfl rfl rfl rfl rfl Session.len hej) ?_
    refine RW.k XK 77 1 rfl ?_
    (conv=>whnf);refine ⟨rfl,?_⟩
    refine RW.build1 (c := Session.c) (v := ej) rfl rfl rfl rfl rfl rfl (DW.v (DW.v (DW.v DW.e))) Session.len (by decide) (by decide) fun X14 => ?_
    refine RW.appendSR (c := Session.c) (l1 := (lowS k.sessions n ++ [newS n] ++ highS (k.sessions.take j) n)) (l2 := [ej]) rfl rfl rfl rfl rfl rfl rfl rfl (.al (k := none) (i := 62) (sz := 3) (V := X14) rfl rfl nofun) (by decide) (Nat.le_of_ble_eq_true rfl) Session.len (fun _ => rfl) rfl (by have h9 := lowS_len (k.sessions.take i) n; have h10 : (k.sessions.take i).length ≤ k.sessions.length := (by rw [List.length_take]; omega); have h11 := hok.1.1; first | (simp only [maxLen, List.length_singleton, List.length_append, List.length_nil]; omega) | (have h7 := lowS_len k.sessions n; have h8 := highS_len (k.sessions.take j) n; have h6 : (k.sessions.take j).length ≤ k.sessions.length := (by rw [List.length_take]; omega); simp only [maxLen, List.length_singleton, List.length_append, List.length_nil, List.length_drop]; omega)) (by have h9 := lowS_len (k.sessions.take i) n; have h10 : (k.sessions.take i).length ≤ k.sessions.length := (by rw [List.length_take]; omega); have h11 := hok.1.1; first | (simp only [maxLen, List.length_singleton, List.length_append, List.length_nil]; omega) | (have h7 := lowS_len k.sessions n; have h8 := highS_len (k.sessions.take j) n; have h6 : (k.sessions.take j).length ≤ k.sessions.length := (by rw [List.length_take]; omega); simp only [maxLen, List.length_singleton, List.length_append, List.length_nil, List.length_drop]; omega)) fun X15 => ?_
    refine RW.assignMove rfl rfl rfl (by decide) (Nat.le_of_ble_eq_true rfl) (Nat.le_of_ble_eq_true rfl) ?_
    refine RW.nil ?_
    refine CW.keep 77 [1,2,4,6,7,9] rfl ?_;(conv=>whnf);refine ⟨?_⟩
    refine CW.region ?_
    refine RW.k XK 77 1 rfl ?_
    (conv=>whnf);refine ⟨rfl,?_⟩
    refine RW.v rfl (V.inc rfl rfl rfl hij hl1) ?_
    refine RW.k XK 77 1 rfl ?_
    (conv=>whnf);refine ⟨rfl,?_⟩
    refine RW.nil ?_
    exact ⟨(j + 1, _), by simp only []; omega, (by omega), rfl, Le.c rfl <| Le.c rfl <| Le.c rfl <| Le.c rfl <| Le.c (Dw_congr (by rw [highS_snoc hej]; split <;> simp_all [sLt, sGt])) <| Le.c rfl <| Le.e⟩
   ·skip
    refine CW.skip ?_
    refine CW.keep 77 [1,2,4,6,7,9] rfl ?_;(conv=>whnf);refine ⟨?_⟩
    refine CW.region ?_
    refine RW.k XK 77 1 rfl ?_
    (conv=>whnf);refine ⟨rfl,?_⟩
    refine RW.v rfl (V.inc rfl rfl rfl hij hl1) ?_
    refine RW.k XK 77 1 rfl ?_
    (conv=>whnf);refine ⟨rfl,?_⟩
    refine RW.nil ?_
    exact ⟨(j + 1, _), by simp only []; omega, (by omega), rfl, Le.c rfl <| Le.c rfl <| Le.c rfl <| Le.c rfl <| Le.c (Dw_congr (by rw [highS_snoc hej]; split <;> simp_all [sLt, sGt])) <| Le.c rfl <| Le.e⟩
  ·skip
   have hij : k.sessions.length ≤ j := by have := h12; simp at this; first | exact this | omega | (simp; done) | (simp; omega)
   have hdj : k.sessions.drop j = [] := List.drop_eq_nil_of_le hij
   refine CW.exit ?_
   refine CW.keep 77 [1,4,6,7] rfl ?_;(conv=>whnf);refine ⟨?_⟩
   refine CW.seq ?_
   refine CW.k XK 77 1 [1,4,6,7,66] rfl ?_
   (conv=>whnf);refine ⟨rfl,?_⟩
   refine CW.cond rfl (fun h16 => ?_) (fun h16 => ?_)
   ·skip
    have hgt := of_decide_eq_true h16
    refine CW.region ?_
    refine RW.build0 Session.c rfl rfl rfl rfl rfl fun X17 => ?_
    refine RW.k XK 77 1 rfl ?_
    (conv=>whnf);refine ⟨rfl,?_⟩
    refine RW.v rfl (V.cutLo (m := 1) rfl rfl rfl rfl rfl (.w rfl) rfl rfl (by omega)) ?_
    refine RW.appendSR (c := Session.c) (l1 := ([] : List Session)) (l2 := ((lowS k.sessions n ++ [newS n] ++ highS (k.sessions.take j) n).drop 1)) rfl rfl rfl rfl rfl rfl rfl rfl (.dropW rfl Session.len (by omega) nofun) (by decide) (Nat.le_of_ble_eq_true rfl) Session.len (fun _ => rfl) rfl (by have h9 := lowS_len (k.sessions.take i) n; have h10 : (k.sessions.take i).length ≤ k.sessions.length := (by rw [List.length_take]; omega); have h11 := hok.1.1; first | (simp only [maxLen, List.length_singleton, List.length_append, List.length_nil]; omega) | (have h7 := lowS_len k.sessions n; have h8 := highS_len (k.sessions.take j) n; have h6 : (k.sessions.take j).length ≤ k.sessions.length := (by rw [List.length_take]; omega); simp only [maxLen, List.length_singleton, List.length_append, List.length_nil, List.length_drop]; omega)) (by have h9 := lowS_len (k.sessions.take i) n; have h10 : (k.sessions.take i).length ≤ k.sessions.length := (by rw [List.length_take]; omega); have h11 := hok.1.1; first | (simp only [maxLen, List.length_singleton, List.length_append, List.length_nil]; omega) | (have h7 := lowS_len k.sessions n; have h8 := highS_len (k.sessions.take j) n; have h6 : (k.sessions.take j).length ≤ k.sessions.length := (by rw [List.length_take]; omega); simp only [maxLen, List.length_singleton, List.length_append, List.length_nil, List.length_drop]; omega)) fun X18 => ?_
    refine RW.assignMove rfl rfl rfl (by decide) (Nat.le_of_ble_eq_true rfl) (Nat.le_of_ble_eq_true rfl) ?_
    refine RW.nil ?_
    refine CW.keep 77 [1,4,6,7] rfl ?_;(conv=>whnf);refine ⟨?_⟩
    refine CW.seq ?_
    refine CW.region ?_
    refine RW.k XK 77 3 rfl ?_
    (conv=>whnf);refine ⟨rfl,?_⟩
    refine RW.keep 77 [1,4,6,7] rfl ?_;(conv=>whnf);refine ⟨?_⟩
    refine RW.pullT (k := 6) (l := 7) (j := 0) 6 7 0 rfl rfl rfl (by decide) rfl rfl rfl ?_
    refine RW.keep 77 [1,4,6] rfl ?_;(conv=>whnf);refine ⟨?_⟩
    refine RW.nil ?_
    refine CW.keep 77 [1,4,6] rfl ?_;(conv=>whnf);refine ⟨?_⟩
    refine CW.anyJ2 (fc := []) (L0 := []) 77 (fun (go19_2_1 : (Nat → Nat → Value)) => [(4, .obj b2 [.w (sl 3 Session.c (([] : List Session) ++ ((lowS k.sessions n ++ [newS n] ++ highS (k.sessions.take j) n).drop 1))) X18, .w (sl 3 Item.c k.items) (g3 0 1)]), (5, S ((⟨#[111, 112, 101, 110, 32]⟩ : ByteArray) ++ (itoaB n)))]) (fun all hall f hf b0 hb K hK => ?_) ?_
    ·skip
     have ro19_4 : ∀ B, ∀ (go19_2_1 : Nat → Nat → Value), RA f E B all 0 (bt 6 63) ⟨77, [(4, .obj b2 [.w (sl 3 Session.c (([] : List Session) ++ ((lowS k.sessions n ++ [newS n] ++ highS (k.sessions.take j) n).drop 1))) X18, .w (sl 3 Item.c k.items) (g3 0 1)]), (5, S ((⟨#[111, 112, 101, 110, 32]⟩ : ByteArray) ++ (itoaB n)))] ++ b0⟩ K := by
      intro B go19_2_1
      exact RA.of2 hall hf hb (RA.finH (Tell.of rfl) (by kernel_rfl) (hK go19_2_1 _ rfl (Le.of rfl)))
     have ro19_3 : ∀ B, ∀ (go19_2_1 : Nat → Nat → Value), RA f E B all 2 (bt 6 15) ⟨77, [(4, .obj b2 [.r (.v (.slice none 0 0)), .r (.v (.slice none 0 0))]), (6, .obj b4 [.w (sl 3 Session.c (([] : List Session) ++ ((lowS k.sessions n ++ [newS n] ++ highS (k.sessions.take j) n).drop 1))) X18, .w (sl 3 Item.c k.items) (g3 0 1)]), (73, .agg [.al 6 (some 0) 3 ((([] : List Session) ++ ((lowS k.sessions n ++ [newS n] ++ highS (k.sessions.take j) n).drop 1)).length) X18 0, .al 6 (some 1) 3 k.items.length (g3 0 1) 0]), (76, S ((⟨#[111, 112, 101, 110, 32]⟩ : ByteArray) ++ (itoaB n)))] ++ b0⟩ K := by
      intro B go19_2_1
      refine RA.of2 hall hf hb (RA.stepH (L := [4]) (Tell.of rfl) (by kernel_rfl) (by simp) (RA.each ?_ (RA.each0)))
      ·skip
       refine RO.storeAgg (es := [.al 6 (some 0) 3 ((([] : List Session) ++ ((lowS k.sessions n ++ [newS n] ++ highS (k.sessions.take j) n).drop 1)).length) X18 0, .al 6 (some 1) 3 k.items.length (g3 0 1) 0]) rfl rfl rfl rfl rfl rfl rfl rfl rfl rfl (Nat.le_of_ble_eq_true rfl) rfl ?_
       refine RA.keep 77 [4,6,76] rfl ?_;(conv=>whnf);refine ⟨?_⟩
       refine RA.pullO (k := 4) (l := 6) (j := 0) 4 6 0 rfl rfl rfl (by decide) rfl rfl rfl rfl ?_
       refine RA.keep 77 [4,6,76] rfl ?_;(conv=>whnf);refine ⟨?_⟩
       refine RA.pullO (k := 4) (l := 6) (j := 1) 4 6 1 rfl rfl rfl (by decide) rfl rfl rfl rfl ?_
       refine RA.keep 77 [4,76] rfl ?_;(conv=>whnf);refine ⟨?_⟩
       refine RA.fr XK 77 0 [5] (bt 6 63) rfl rfl (by kernel_rfl) (Tell.of rfl) ?_
       (conv=>whnf);refine ⟨rfl,fun B=>?_⟩
       exact RA.to2 hall hf hb (ro19_4 B go19_2_1) rfl rfl (by kernel_rfl)
     have ro19_2 : ∀ B, ∀ (go19_2_1 : Nat → Nat → Value), RA f E B all 3 (bt 6 14) ⟨77, [(4, .obj b2 [.r (.v (.slice none 0 0)), .r (.v (.slice none 0 0))]), (6, .obj b4 [.w (sl 3 Session.c (([] : List Session) ++ ((lowS k.sessions n ++ [newS n] ++ highS (k.sessions.take j) n).drop 1))) X18, .w (sl 3 Item.c k.items) (g3 0 1)]), (76, S ((⟨#[111, 112, 101, 110, 32]⟩ : ByteArray) ++ (itoaB n)))] ++ b0⟩ K := by
      intro B go19_2_1
      refine RA.of2 hall hf hb (RA.stepH (L := [0]) (Tell.of rfl) (by kernel_rfl) (by simp) (RA.each ?_ (RA.each0)))
      ·skip
       refine RO.v rfl rfl (V.loadAgg rfl rfl rfl rfl rfl (Nat.le_of_ble_eq_true rfl)) rfl ?_
       exact RA.to2 hall hf hb (ro19_3 B go19_2_1) rfl rfl (by kernel_rfl)
     have ro19_1 : ∀ B, RA f E B all 4 (bt 6 3) ⟨77, [(4, .obj b2 [.r (.v (.slice none 0 0)), .r (.v (.slice none 0 0))]), (6, .obj b4 [.w (sl 3 Session.c (([] : List Session) ++ ((lowS k.sessions n ++ [newS n] ++ highS (k.sessions.take j) n).drop 1))) X18, .w (sl 3 Item.c k.items) (g3 0 1)]), (73, .agg [.al 6 (some 0) 3 ((([] : List Session) ++ ((lowS k.sessions n ++ [newS n] ++ highS (k.sessions.take j) n).drop 1)).length) X18 0, .al 6 (some 1) 3 k.items.length (g3 0 1) 0]), (74, I n)] ++ b0⟩ K := by
      intro B
      refine RA.of2 hall hf hb (RA.stepH (L := [2]) (Tell.of rfl) (by kernel_rfl) (by simp) (RA.each ?_ (RA.each0)))
      ·skip
       refine RO.call rfl rfl (spec_Decimal_fn n ⟨by omega, by omega⟩) rfl (.cons (.one (.r .r)) (.nil)) rfl fun go19_2_1 => ?_
       refine RA.first (i := 3) (ls' := (bt 6 15)) (Tell.of rfl) (by kernel_rfl) rfl rfl rfl (VF.p (V.cat rfl rfl rfl (by have := itoa_len (n := n) (by omega) (by omega); simp only [maxLen, ByteArray.size_append]; first | omega | (show 5 + _ ≤ _; omega)))) ?_
       exact RA.to2 hall hf hb (ro19_3 B go19_2_1) rfl rfl (by kernel_rfl)
     have ro19_0 : ∀ B, RA f E B all 5 (bt 6 2) ⟨77, [(4, .obj b2 [.r (.v (.slice none 0 0)), .r (.v (.slice none 0 0))]), (6, .obj b4 [.w (sl 3 Session.c (([] : List Session) ++ ((lowS k.sessions n ++ [newS n] ++ highS (k.sessions.take j) n).drop 1))) X18, .w (sl 3 Item.c k.items) (g3 0 1)]), (74, I n)] ++ b0⟩ K := by
      intro B
      refine RA.of2 hall hf hb (RA.stepH (L := [0, 2]) (Tell.of rfl) (by kernel_rfl) (by simp) (RA.each ?_ (RA.each ?_ (RA.each0))))
      ·skip
       refine RO.v rfl rfl (V.loadAgg rfl rfl rfl rfl rfl (Nat.le_of_ble_eq_true rfl)) rfl ?_
       exact RA.to2 hall hf hb (ro19_1 B) rfl rfl (by kernel_rfl)
      ·skip
       refine RO.call rfl rfl (spec_Decimal_fn n ⟨by omega, by omega⟩) rfl (.cons (.one (.r .r)) (.nil)) rfl fun go19_2_1 => ?_
       refine RA.first (i := 3) (ls' := (bt 6 14)) (Tell.of rfl) (by kernel_rfl) rfl rfl rfl (VF.p (V.cat rfl rfl rfl (by have := itoa_len (n := n) (by omega) (by omega); simp only [maxLen, ByteArray.size_append]; first | omega | (show 5 + _ ≤ _; omega)))) ?_
       exact RA.to2 hall hf hb (ro19_2 B go19_2_1) rfl rfl (by kernel_rfl)
     refine RA.start (by kernel_rfl) (by kernel_rfl) (m := 6) (ls' := (bt 6 0)) ?_
     refine RA.fr XK 77 5 [1] (bt 6 2) rfl rfl (by kernel_rfl) (Tell.of rfl) ?_
     (conv=>whnf);refine ⟨rfl,fun B=>?_⟩
     exact RA.to2 hall hf hb (ro19_0 B) rfl rfl (by kernel_rfl)
    ·rintro go19_2_1
     refine CW.ret ?_
     exact Post.tup (by decide) (RVs.c (RV.c (f := fun e => (Keep.c e).map .w) (e' := (⟨(([] : List Session) ++ ((lowS k.sessions n ++ [newS n] ++ highS (k.sessions.take j) n).drop 1)), k.items⟩ : Keep)) rfl rfl rfl rfl (DT.w (DT.w DT.e)) (by first | exact openS_cut hko hij (by assumption) | exact openS_no hko hij (by assumption))) (RVs.c (RV.s rfl (by rfl)) RVs.e)) (AOs.a rfl (AOs.r AOs.e))
   ·skip
    refine CW.skip ?_
    refine CW.keep 77 [1,4,6,7] rfl ?_;(conv=>whnf);refine ⟨?_⟩
    refine CW.seq ?_
    refine CW.region ?_
    refine RW.k XK 77 3 rfl ?_
    (conv=>whnf);refine ⟨rfl,?_⟩
    refine RW.keep 77 [1,4,6,7] rfl ?_;(conv=>whnf);refine ⟨?_⟩
    refine RW.pullT (k := 6) (l := 7) (j := 0) 6 7 0 rfl rfl rfl (by decide) rfl rfl rfl ?_
    refine RW.keep 77 [1,4,6] rfl ?_;(conv=>whnf);refine ⟨?_⟩
    refine RW.nil ?_
    refine CW.keep 77 [1,4,6] rfl ?_;(conv=>whnf);refine ⟨?_⟩
    refine CW.anyJ2 (fc := []) (L0 := []) 77 (fun (go20_2_1 : (Nat → Nat → Value)) => [(4, .obj b2 [.w (sl 3 Session.c (lowS k.sessions n ++ [newS n] ++ highS (k.sessions.take j) n)) X, .w (sl 3 Item.c k.items) (g3 0 1)]), (5, S ((⟨#[111, 112, 101, 110, 32]⟩ : ByteArray) ++ (itoaB n)))]) (fun all hall f hf b0 hb K hK => ?_) ?_
    ·skip
     have ro20_4 : ∀ B, ∀ (go20_2_1 : Nat → Nat → Value), RA f E B all 0 (bt 6 63) ⟨77, [(4, .obj b2 [.w (sl 3 Session.c (lowS k.sessions n ++ [newS n] ++ highS (k.sessions.take j) n)) X, .w (sl 3 Item.c k.items) (g3 0 1)]), (5, S ((⟨#[111, 112, 101, 110, 32]⟩ : ByteArray) ++ (itoaB n)))] ++ b0⟩ K := by
      intro B go20_2_1
      exact RA.of2 hall hf hb (RA.finH (Tell.of rfl) (by kernel_rfl) (hK go20_2_1 _ rfl (Le.of rfl)))
     have ro20_3 : ∀ B, ∀ (go20_2_1 : Nat → Nat → Value), RA f E B all 2 (bt 6 15) ⟨77, [(4, .obj b2 [.r (.v (.slice none 0 0)), .r (.v (.slice none 0 0))]), (6, .obj b4 [.w (sl 3 Session.c (lowS k.sessions n ++ [newS n] ++ highS (k.sessions.take j) n)) X, .w (sl 3 Item.c k.items) (g3 0 1)]), (73, .agg [.al 6 (some 0) 3 ((lowS k.sessions n ++ [newS n] ++ highS (k.sessions.take j) n).length) X 0, .al 6 (some 1) 3 k.items.length (g3 0 1) 0]), (76, S ((⟨#[111, 112, 101, 110, 32]⟩ : ByteArray) ++ (itoaB n)))] ++ b0⟩ K := by
      intro B go20_2_1
      refine RA.of2 hall hf hb (RA.stepH (L := [4]) (Tell.of rfl) (by kernel_rfl) (by simp) (RA.each ?_ (RA.each0)))
      ·skip
       refine RO.storeAgg (es := [.al 6 (some 0) 3 ((lowS k.sessions n ++ [newS n] ++ highS (k.sessions.take j) n).length) X 0, .al 6 (some 1) 3 k.items.length (g3 0 1) 0]) rfl rfl rfl rfl rfl rfl rfl rfl rfl rfl (Nat.le_of_ble_eq_true rfl) rfl ?_
       refine RA.keep 77 [4,6,76] rfl ?_;(conv=>whnf);refine ⟨?_⟩
       refine RA.pullO (k := 4) (l := 6) (j := 0) 4 6 0 rfl rfl rfl (by decide) rfl rfl rfl rfl ?_
       refine RA.keep 77 [4,6,76] rfl ?_;(conv=>whnf);refine ⟨?_⟩
       refine RA.pullO (k := 4) (l := 6) (j := 1) 4 6 1 rfl rfl rfl (by decide) rfl rfl rfl rfl ?_
       refine RA.keep 77 [4,76] rfl ?_;(conv=>whnf);refine ⟨?_⟩
       refine RA.fr XK 77 0 [5] (bt 6 63) rfl rfl (by kernel_rfl) (Tell.of rfl) ?_
       (conv=>whnf);refine ⟨rfl,fun B=>?_⟩
       exact RA.to2 hall hf hb (ro20_4 B go20_2_1) rfl rfl (by kernel_rfl)
     have ro20_2 : ∀ B, ∀ (go20_2_1 : Nat → Nat → Value), RA f E B all 3 (bt 6 14) ⟨77, [(4, .obj b2 [.r (.v (.slice none 0 0)), .r (.v (.slice none 0 0))]), (6, .obj b4 [.w (sl 3 Session.c (lowS k.sessions n ++ [newS n] ++ highS (k.sessions.take j) n)) X, .w (sl 3 Item.c k.items) (g3 0 1)]), (76, S ((⟨#[111, 112, 101, 110, 32]⟩ : ByteArray) ++ (itoaB n)))] ++ b0⟩ K := by
      intro B go20_2_1
      refine RA.of2 hall hf hb (RA.stepH (L := [0]) (Tell.of rfl) (by kernel_rfl) (by simp) (RA.each ?_ (RA.each0)))
      ·skip
       refine RO.v rfl rfl (V.loadAgg rfl rfl rfl rfl rfl (Nat.le_of_ble_eq_true rfl)) rfl ?_
       exact RA.to2 hall hf hb (ro20_3 B go20_2_1) rfl rfl (by kernel_rfl)
     have ro20_1 : ∀ B, RA f E B all 4 (bt 6 3) ⟨77, [(4, .obj b2 [.r (.v (.slice none 0 0)), .r (.v (.slice none 0 0))]), (6, .obj b4 [.w (sl 3 Session.c (lowS k.sessions n ++ [newS n] ++ highS (k.sessions.take j) n)) X, .w (sl 3 Item.c k.items) (g3 0 1)]), (73, .agg [.al 6 (some 0) 3 ((lowS k.sessions n ++ [newS n] ++ highS (k.sessions.take j) n).length) X 0, .al 6 (some 1) 3 k.items.length (g3 0 1) 0]), (74, I n)] ++ b0⟩ K := by
      intro B
      refine RA.of2 hall hf hb (RA.stepH (L := [2]) (Tell.of rfl) (by kernel_rfl) (by simp) (RA.each ?_ (RA.each0)))
      ·skip
       refine RO.call rfl rfl (spec_Decimal_fn n ⟨by omega, by omega⟩) rfl (.cons (.one (.r .r)) (.nil)) rfl fun go20_2_1 => ?_
       refine RA.first (i := 3) (ls' := (bt 6 15)) (Tell.of rfl) (by kernel_rfl) rfl rfl rfl (VF.p (V.cat rfl rfl rfl (by have := itoa_len (n := n) (by omega) (by omega); simp only [maxLen, ByteArray.size_append]; first | omega | (show 5 + _ ≤ _; omega)))) ?_
       exact RA.to2 hall hf hb (ro20_3 B go20_2_1) rfl rfl (by kernel_rfl)
     have ro20_0 : ∀ B, RA f E B all 5 (bt 6 2) ⟨77, [(4, .obj b2 [.r (.v (.slice none 0 0)), .r (.v (.slice none 0 0))]), (6, .obj b4 [.w (sl 3 Session.c (lowS k.sessions n ++ [newS n] ++ highS (k.sessions.take j) n)) X, .w (sl 3 Item.c k.items) (g3 0 1)]), (74, I n)] ++ b0⟩ K := by
      intro B
      refine RA.of2 hall hf hb (RA.stepH (L := [0, 2]) (Tell.of rfl) (by kernel_rfl) (by simp) (RA.each ?_ (RA.each ?_ (RA.each0))))
      ·skip
       refine RO.v rfl rfl (V.loadAgg rfl rfl rfl rfl rfl (Nat.le_of_ble_eq_true rfl)) rfl ?_
       exact RA.to2 hall hf hb (ro20_1 B) rfl rfl (by kernel_rfl)
      ·skip
       refine RO.call rfl rfl (spec_Decimal_fn n ⟨by omega, by omega⟩) rfl (.cons (.one (.r .r)) (.nil)) rfl fun go20_2_1 => ?_
       refine RA.first (i := 3) (ls' := (bt 6 14)) (Tell.of rfl) (by kernel_rfl) rfl rfl rfl (VF.p (V.cat rfl rfl rfl (by have := itoa_len (n := n) (by omega) (by omega); simp only [maxLen, ByteArray.size_append]; first | omega | (show 5 + _ ≤ _; omega)))) ?_
       exact RA.to2 hall hf hb (ro20_2 B go20_2_1) rfl rfl (by kernel_rfl)
     refine RA.start (by kernel_rfl) (by kernel_rfl) (m := 6) (ls' := (bt 6 0)) ?_
     refine RA.fr XK 77 5 [1] (bt 6 2) rfl rfl (by kernel_rfl) (Tell.of rfl) ?_
     (conv=>whnf);refine ⟨rfl,fun B=>?_⟩
     exact RA.to2 hall hf hb (ro20_0 B) rfl rfl (by kernel_rfl)
    ·rintro go20_2_1
     refine CW.ret ?_
     exact Post.tup (by decide) (RVs.c (RV.c (f := fun e => (Keep.c e).map .w) (e' := (⟨(lowS k.sessions n ++ [newS n] ++ highS (k.sessions.take j) n), k.items⟩ : Keep)) rfl rfl rfl rfl (DT.w (DT.w DT.e)) (by first | exact openS_cut hko hij (by assumption) | exact openS_no hko hij (by assumption))) (RVs.c (RV.s rfl (by rfl)) RVs.e)) (AOs.a rfl (AOs.r AOs.e))
set_option maxHeartbeats 4000000 in
theorem spec_l15Do_fn (k : Keep) (n : Int) (x : Command) (hok : okToKeep k) (hko : keepOk k = true) (hn : 1 ≤ n ∧ n ≤ 400000) : Eng.Fn E.P 59 [.ob ((Keep.c k).map .w), .one (.r (.v (.int .i64 n))), .agg ((Command.c x).map .r)] (.one (.one (.w (.v (.string ((doK k n x).2)))))) [.ob ((Keep.c ((doK k n x).1)).map .w), .one (.r (.v (.int .i64 n))), .agg ((Command.c x).map .r)] := by
 refine Eng.Fn.intro (E := E) (rvs := [.tmp 6]) Tryd.func59 rfl rfl rfl (by simp [outSlots, moved, rvSlot, sl]) ?_
 intro B g bo
 refine CW.keep 98 [0,1,2] rfl ?_;(conv=>whnf);refine ⟨?_⟩
 have hl1 : k.sessions.length ≤ maxLen := by have := hok.1.1; simp only [maxLen]; omega
 have hl2 : k.items.length ≤ maxLen := by have := hok.2.1; simp only [maxLen]; omega
 have hn1 := hn.1; have hn2 := hn.2
 refine CW.seq ?_
 refine CW.region ?_
 refine RW.k XK 98 1 rfl ?_
 (conv=>whnf);intro b1;(conv=>whnf);refine ⟨rfl,?_⟩
 refine RW.freezeB (ts := (Command.c x)) 5 rfl (DRd.r (DRd.r (DRd.r (DRd.r (DRd.r (DRd.r DRd.e)))))) ?_
 refine RW.k XK 98 1 rfl ?_
 (conv=>whnf);refine ⟨rfl,?_⟩
 refine RW.nil ?_
 refine CW.keep 98 [0,1,5] rfl ?_;(conv=>whnf);refine ⟨?_⟩
 refine CW.anyJ2 (fc := [(0, (bo 0), [(g 0 0), (g 0 1)])]) (L0 := [(0, .obj (bo 0) [.w (sl 3 Session.c k.sessions) (g 0 0), .w (sl 3 Item.c k.items) (g 0 1)]), (1, I n), (5, .rp (Command.c x))]) 98 (fun (zz : Nat × (Nat → Nat → Value)) => match zz with | (bo2_9_1, go2_5_1) => [(7, .obj bo2_9_1 ((Item.c ((itemOf k x.key).1)).map .r)), (8, Bo ((itemOf k x.key).2))]) (fun all hall f hf b0 hb K hK => ?_) ?_
 ·skip
  have ro2_13 : ∀ B, ∀ (bo2_9_1 : Nat), ∀ (go2_5_1 : Nat → Nat → Value), RA f E B all 0 (bt 12 4095) ⟨98, [(7, .obj bo2_9_1 ((Item.c ((itemOf k x.key).1)).map .r)), (8, Bo ((itemOf k x.key).2))] ++ b0⟩ K := by
   intro B bo2_9_1 go2_5_1
   exact RA.of2 hall hf hb (RA.finH (Tell.of rfl) (by kernel_rfl) (hK (bo2_9_1, go2_5_1) _ rfl (Le.of rfl)))
  have ro2_12 : ∀ B, ∀ (bo2_9_1 : Nat), ∀ (go2_5_1 : Nat → Nat → Value), RA f E B all 2 (bt 12 1791) ⟨98, [(7, .obj bo2_9_1 ((Item.c ((itemOf k x.key).1)).map .r)), (11, .tup [.u, Bo ((itemOf k x.key).2)])] ++ b0⟩ K := by
   intro B bo2_9_1 go2_5_1
   refine RA.of2 hall hf hb (RA.stepH (L := [8]) (Tell.of rfl) (by kernel_rfl) (by simp) (RA.each ?_ (RA.each0)))
   ·skip
    refine RO.extract (d := Bo ((itemOf k x.key).2)) rfl rfl rfl rfl rfl (by decide) (Nat.le_of_ble_eq_true rfl) rfl rfl ?_
    refine RA.fr XK 98 0 [11] (bt 12 4095) rfl rfl (by kernel_rfl) (Tell.of rfl) ?_
    (conv=>whnf);refine ⟨rfl,fun B=>?_⟩
    exact RA.to2 hall hf hb (ro2_13 B bo2_9_1 go2_5_1) rfl rfl (by kernel_rfl)
  have ro2_11 : ∀ B, ∀ (bo2_9_1 : Nat), ∀ (go2_5_1 : Nat → Nat → Value), RA f E B all 2 (bt 12 1023) ⟨98, [(7, .obj bo2_9_1 [S (⟨#[]⟩), S (⟨#[]⟩), I 0]), (18, .agg ((Item.c ((itemOf k x.key).1)).map .r)), (19, Bo ((itemOf k x.key).2))] ++ b0⟩ K := by
   intro B bo2_9_1 go2_5_1
   refine RA.of2 hall hf hb (RA.stepH (L := [10]) (Tell.of rfl) (by kernel_rfl) (by simp) (RA.each ?_ (RA.each0)))
   ·skip
    refine RO.storeAgg (es := ((Item.c ((itemOf k x.key).1)).map .r)) rfl rfl rfl rfl rfl rfl rfl rfl rfl rfl (Nat.le_of_ble_eq_true rfl) rfl ?_
    refine RA.fr XK 98 0 [11] (bt 12 4095) rfl rfl (by kernel_rfl) (Tell.of rfl) ?_
    (conv=>whnf);refine ⟨rfl,fun B=>?_⟩
    exact RA.to2 hall hf hb (ro2_13 B bo2_9_1 go2_5_1) rfl rfl (by kernel_rfl)
  have ro2_10 : ∀ B, ∀ (bo2_9_1 : Nat), ∀ (go2_5_1 : Nat → Nat → Value), RA f E B all 3 (bt 12 895) ⟨98, [(7, .obj bo2_9_1 [S (⟨#[]⟩), S (⟨#[]⟩), I 0]), (11, .tup [.agg ((Item.c ((itemOf k x.key).1)).map .r), .u]), (19, Bo ((itemOf k x.key).2))] ++ b0⟩ K := by
   intro B bo2_9_1 go2_5_1
   refine RA.of2 hall hf hb (RA.stepH (L := [7]) (Tell.of rfl) (by kernel_rfl) (by simp) (RA.each ?_ (RA.each0)))
   ·skip
    refine RO.extract (d := .agg ((Item.c ((itemOf k x.key).1)).map .r)) rfl rfl rfl rfl rfl (by decide) (Nat.le_of_ble_eq_true rfl) rfl rfl ?_
    exact RA.to2 hall hf hb (ro2_11 B bo2_9_1 go2_5_1) rfl rfl (by kernel_rfl)
  have ro2_9 : ∀ B, ∀ (bo2_9_1 : Nat), ∀ (go2_5_1 : Nat → Nat → Value), RA f E B all 3 (bt 12 767) ⟨98, [(7, .obj bo2_9_1 [S (⟨#[]⟩), S (⟨#[]⟩), I 0]), (11, .tup [.u, Bo ((itemOf k x.key).2)]), (18, .agg ((Item.c ((itemOf k x.key).1)).map .r))] ++ b0⟩ K := by
   intro B bo2_9_1 go2_5_1
   refine RA.of2 hall hf hb (RA.stepH (L := [8, 10]) (Tell.of rfl) (by kernel_rfl) (by simp) (RA.each ?_ (RA.each ?_ (RA.each0))))
   ·skip
    refine RO.extract (d := Bo ((itemOf k x.key).2)) rfl rfl rfl rfl rfl (by decide) (Nat.le_of_ble_eq_true rfl) rfl rfl ?_
    exact RA.to2 hall hf hb (ro2_11 B bo2_9_1 go2_5_1) rfl rfl (by kernel_rfl)
   ·skip
    refine RO.storeAgg (es := ((Item.c ((itemOf k x.key).1)).map .r)) rfl rfl rfl rfl rfl rfl rfl rfl rfl rfl (Nat.le_of_ble_eq_true rfl) rfl ?_
    exact RA.to2 hall hf hb (ro2_12 B bo2_9_1 go2_5_1) rfl rfl (by kernel_rfl)
  have ro2_8 : ∀ B, ∀ (go2_5_1 : Nat → Nat → Value), RA f E B all 3 (bt 12 511) ⟨98, [(18, .agg ((Item.c ((itemOf k x.key).1)).map .r)), (19, Bo ((itemOf k x.key).2))] ++ b0⟩ K := by
   intro B go2_5_1
   refine RA.of2 hall hf hb (RA.stepH (L := [9]) (Tell.of rfl) (by kernel_rfl) (by simp) (RA.each ?_ (RA.each0)))
   ·skip
    refine RO.alloc (ds := [S (⟨#[]⟩), S (⟨#[]⟩), I 0]) rfl rfl rfl rfl rfl rfl fun bo2_9_1 => ?_
    exact RA.to2 hall hf hb (ro2_11 B bo2_9_1 go2_5_1) rfl rfl (by kernel_rfl)
  have ro2_7 : ∀ B, ∀ (bo2_9_1 : Nat), ∀ (go2_5_1 : Nat → Nat → Value), RA f E B all 4 (bt 12 639) ⟨98, [(7, .obj bo2_9_1 [S (⟨#[]⟩), S (⟨#[]⟩), I 0]), (11, .tup [.agg ((Item.c ((itemOf k x.key).1)).map .r), Bo ((itemOf k x.key).2)])] ++ b0⟩ K := by
   intro B bo2_9_1 go2_5_1
   refine RA.of2 hall hf hb (RA.stepH (L := [7, 8]) (Tell.of rfl) (by kernel_rfl) (by simp) (RA.each ?_ (RA.each ?_ (RA.each0))))
   ·skip
    refine RO.extract (d := .agg ((Item.c ((itemOf k x.key).1)).map .r)) rfl rfl rfl rfl rfl (by decide) (Nat.le_of_ble_eq_true rfl) rfl rfl ?_
    exact RA.to2 hall hf hb (ro2_9 B bo2_9_1 go2_5_1) rfl rfl (by kernel_rfl)
   ·skip
    refine RO.extract (d := Bo ((itemOf k x.key).2)) rfl rfl rfl rfl rfl (by decide) (Nat.le_of_ble_eq_true rfl) rfl rfl ?_
    exact RA.to2 hall hf hb (ro2_10 B bo2_9_1 go2_5_1) rfl rfl (by kernel_rfl)
  have ro2_6 : ∀ B, ∀ (go2_5_1 : Nat → Nat → Value), RA f E B all 4 (bt 12 383) ⟨98, [(11, .tup [.agg ((Item.c ((itemOf k x.key).1)).map .r), .u]), (19, Bo ((itemOf k x.key).2))] ++ b0⟩ K := by
   intro B go2_5_1
   refine RA.of2 hall hf hb (RA.stepH (L := [7, 9]) (Tell.of rfl) (by kernel_rfl) (by simp) (RA.each ?_ (RA.each ?_ (RA.each0))))
   ·skip
    refine RO.extract (d := .agg ((Item.c ((itemOf k x.key).1)).map .r)) rfl rfl rfl rfl rfl (by decide) (Nat.le_of_ble_eq_true rfl) rfl rfl ?_
    exact RA.to2 hall hf hb (ro2_8 B go2_5_1) rfl rfl (by kernel_rfl)
   ·skip
    refine RO.alloc (ds := [S (⟨#[]⟩), S (⟨#[]⟩), I 0]) rfl rfl rfl rfl rfl rfl fun bo2_9_1 => ?_
    exact RA.to2 hall hf hb (ro2_10 B bo2_9_1 go2_5_1) rfl rfl (by kernel_rfl)
  have ro2_5 : ∀ B, ∀ (go2_5_1 : Nat → Nat → Value), RA f E B all 4 (bt 12 255) ⟨98, [(11, .tup [.u, Bo ((itemOf k x.key).2)]), (18, .agg ((Item.c ((itemOf k x.key).1)).map .r))] ++ b0⟩ K := by
   intro B go2_5_1
   refine RA.of2 hall hf hb (RA.stepH (L := [8, 9]) (Tell.of rfl) (by kernel_rfl) (by simp) (RA.each ?_ (RA.each ?_ (RA.each0))))
   ·skip
    refine RO.extract (d := Bo ((itemOf k x.key).2)) rfl rfl rfl rfl rfl (by decide) (Nat.le_of_ble_eq_true rfl) rfl rfl ?_
    exact RA.to2 hall hf hb (ro2_8 B go2_5_1) rfl rfl (by kernel_rfl)
   ·skip
    refine RO.alloc (ds := [S (⟨#[]⟩), S (⟨#[]⟩), I 0]) rfl rfl rfl rfl rfl rfl fun bo2_9_1 => ?_
    exact RA.to2 hall hf hb (ro2_9 B bo2_9_1 go2_5_1) rfl rfl (by kernel_rfl)
  have ro2_4 : ∀ B, ∀ (bo2_9_1 : Nat), ∀ (go2_5_1 : Nat → Nat → Value), RA f E B all 5 (bt 12 575) ⟨98, [(7, .obj bo2_9_1 [S (⟨#[]⟩), S (⟨#[]⟩), I 0]), (17, .tup [.agg ((Item.c ((itemOf k x.key).1)).map .r), Bo ((itemOf k x.key).2)])] ++ b0⟩ K := by
   intro B bo2_9_1 go2_5_1
   refine RA.of2 hall hf hb (RA.stepH (L := [6]) (Tell.of rfl) (by kernel_rfl) (by simp) (RA.each ?_ (RA.each0)))
   ·skip
    refine RO.moveMove rfl rfl rfl rfl rfl (by decide) (Nat.le_of_ble_eq_true rfl) (Nat.le_of_ble_eq_true rfl) ?_
    exact RA.to2 hall hf hb (ro2_7 B bo2_9_1 go2_5_1) rfl rfl (by kernel_rfl)
  have ro2_3 : ∀ B, ∀ (go2_5_1 : Nat → Nat → Value), RA f E B all 5 (bt 12 127) ⟨98, [(11, .tup [.agg ((Item.c ((itemOf k x.key).1)).map .r), Bo ((itemOf k x.key).2)])] ++ b0⟩ K := by
   intro B go2_5_1
   refine RA.of2 hall hf hb (RA.stepH (L := [7, 8, 9]) (Tell.of rfl) (by kernel_rfl) (by simp) (RA.each ?_ (RA.each ?_ (RA.each ?_ (RA.each0)))))
   ·skip
    refine RO.extract (d := .agg ((Item.c ((itemOf k x.key).1)).map .r)) rfl rfl rfl rfl rfl (by decide) (Nat.le_of_ble_eq_true rfl) rfl rfl ?_
    exact RA.to2 hall hf hb (ro2_5 B go2_5_1) rfl rfl (by kernel_rfl)
   ·skip
    refine RO.extract (d := Bo ((itemOf k x.key).2)) rfl rfl rfl rfl rfl (by decide) (Nat.le_of_ble_eq_true rfl) rfl rfl ?_
    exact RA.to2 hall hf hb (ro2_6 B go2_5_1) rfl rfl (by kernel_rfl)
   ·skip
    refine RO.alloc (ds := [S (⟨#[]⟩), S (⟨#[]⟩), I 0]) rfl rfl rfl rfl rfl rfl fun bo2_9_1 => ?_
    exact RA.to2 hall hf hb (ro2_7 B bo2_9_1 go2_5_1) rfl rfl (by kernel_rfl)
  have ro2_2 : ∀ B, ∀ (bo2_9_1 : Nat), RA f E B all 6 (bt 12 543) ⟨98, [(7, .obj bo2_9_1 [S (⟨#[]⟩), S (⟨#[]⟩), I 0]), (14, .agg [.al 0 (some 0) 3 k.sessions.length (g 0 0) 0, .al 0 (some 1) 3 k.items.length (g 0 1) 0]), (16, S x.key)] ++ b0⟩ K := by
   intro B bo2_9_1
   refine RA.of2 hall hf hb (RA.stepH (L := [5]) (Tell.of rfl) (by kernel_rfl) (by simp) (RA.each ?_ (RA.each0)))
   ·skip
    refine RO.callOwn rfl rfl (spec_ItemOf_fn k x.key hok) rfl (.cons (.agg (.cons (.r (.alo (k := none) (i := 0) (j := 0) (sz := 3) (V := (g 0 0)) rfl rfl rfl nofun)) (.cons (.r (.alo (k := none) (i := 0) (j := 1) (sz := 3) (V := (g 0 1)) rfl rfl rfl nofun)) (.nil)))) (.cons (.one (.r .r)) (.nil))) rfl rfl fun go2_5_1 => ?_
    exact RA.to2 hall hf hb (ro2_4 B bo2_9_1 go2_5_1) rfl rfl (by kernel_rfl)
  have ro2_1 : ∀ B, ∀ (go2_5_1 : Nat → Nat → Value), RA f E B all 6 (bt 12 63) ⟨98, [(17, .tup [.agg ((Item.c ((itemOf k x.key).1)).map .r), Bo ((itemOf k x.key).2)])] ++ b0⟩ K := by
   intro B go2_5_1
   refine RA.of2 hall hf hb (RA.stepH (L := [6, 9]) (Tell.of rfl) (by kernel_rfl) (by simp) (RA.each ?_ (RA.each ?_ (RA.each0))))
   ·skip
    refine RO.moveMove rfl rfl rfl rfl rfl (by decide) (Nat.le_of_ble_eq_true rfl) (Nat.le_of_ble_eq_true rfl) ?_
    exact RA.to2 hall hf hb (ro2_3 B go2_5_1) rfl rfl (by kernel_rfl)
   ·skip
    refine RO.alloc (ds := [S (⟨#[]⟩), S (⟨#[]⟩), I 0]) rfl rfl rfl rfl rfl rfl fun bo2_9_1 => ?_
    exact RA.to2 hall hf hb (ro2_4 B bo2_9_1 go2_5_1) rfl rfl (by kernel_rfl)
  have ro2_0 : ∀ B, RA f E B all 7 (bt 12 31) ⟨98, [(14, .agg [.al 0 (some 0) 3 k.sessions.length (g 0 0) 0, .al 0 (some 1) 3 k.items.length (g 0 1) 0]), (16, S x.key)] ++ b0⟩ K := by
   intro B
   refine RA.of2 hall hf hb (RA.stepH (L := [5, 9]) (Tell.of rfl) (by kernel_rfl) (by simp) (RA.each ?_ (RA.each ?_ (RA.each0))))
   ·skip
    refine RO.callOwn rfl rfl (spec_ItemOf_fn k x.key hok) rfl (.cons (.agg (.cons (.r (.alo (k := none) (i := 0) (j := 0) (sz := 3) (V := (g 0 0)) rfl rfl rfl nofun)) (.cons (.r (.alo (k := none) (i := 0) (j := 1) (sz := 3) (V := (g 0 1)) rfl rfl rfl nofun)) (.nil)))) (.cons (.one (.r .r)) (.nil))) rfl rfl fun go2_5_1 => ?_
    exact RA.to2 hall hf hb (ro2_1 B go2_5_1) rfl rfl (by kernel_rfl)
   ·skip
    refine RO.alloc (ds := [S (⟨#[]⟩), S (⟨#[]⟩), I 0]) rfl rfl rfl rfl rfl rfl fun bo2_9_1 => ?_
    exact RA.to2 hall hf hb (ro2_2 B bo2_9_1) rfl rfl (by kernel_rfl)
  refine RA.start (by kernel_rfl) (by kernel_rfl) (m := 12) (ls' := (bt 12 0)) ?_
  refine RA.fr XK 98 7 [0,1,2,3,4] (bt 12 31) rfl rfl (by kernel_rfl) (Tell.of rfl) ?_
  (conv=>whnf);refine ⟨rfl,fun B=>?_⟩
  exact RA.to2 hall hf hb (ro2_0 B) rfl rfl (by kernel_rfl)
 ·rintro ⟨bo2_9_1, go2_5_1⟩
  refine CW.seq ?_
  refine CW.k XK 98 1 [0,1,5,7,8,21] rfl ?_
  (conv=>whnf);refine ⟨rfl,?_⟩
  refine CW.block ?_
  refine CW.k XK 98 1 [0,1,5,7,8,21,22] rfl ?_
  (conv=>whnf);refine ⟨rfl,?_⟩
  refine CW.cond rfl (fun h3 => ?_) (fun h3 => ?_)
  ·skip
   refine CW.seq ?_
   refine CW.k XK 98 1 [0,7,25] rfl ?_
   (conv=>whnf);refine ⟨rfl,?_⟩
   refine CW.cond rfl (fun h4 => ?_) (fun h4 => ?_)
   ·skip
    refine CW.k XK 98 1 [0,6] rfl ?_
    (conv=>whnf);refine ⟨rfl,?_⟩
    refine CW.ret ?_
    exact Post.one (RV.s rfl (by first | (rw [List.take_of_length_le hii, do_drop1 (k := k) (n := n) (x := x) (by assumption) (by assumption) (nF (by assumption))] <;> rfl) | (rw [do_get1 (k := k) (n := n) (x := x) (by assumption) (nF (by assumption))] <;> rfl) | (rw [do_get0 (k := k) (n := n) (x := x) (by assumption) (nT (by assumption))] <;> rfl) | (rw [do_drop1 (k := k) (n := n) (x := x) (by assumption) (by assumption) (nF (by assumption))] <;> rfl) | (rw [do_dropS (k := k) (n := n) (x := x) (by assumption) (by assumption) (nT (by assumption))] <;> rfl) | (rw [do_swap0 (k := k) (n := n) (x := x) (by assumption) (by assumption) (by assumption) (by assumption)] <;> rfl) | (rw [do_swapN (k := k) (n := n) (x := x) (by assumption) (by assumption) (by assumption) (by assumption) (by assumption)] <;> rfl) | (rw [do_fullS (k := k) (n := n) (x := x) hko (by assumption) (by assumption) (by first | exact .inl (by assumption) | exact .inr ⟨by assumption, by assumption⟩) hbg] <;> rfl) | (rw [do_putS (k := k) (n := n) (x := x) hko (by assumption) (by assumption) (by first | exact .inl (by assumption) | exact .inr ⟨by assumption, by assumption⟩) hbg] <;> rfl))) (AOs.obE (f := fun e => (Keep.c e).map .w) (e' := k) rfl (DT.w (DT.w DT.e)) (by first | (rw [List.take_of_length_le hii, do_drop1 (k := k) (n := n) (x := x) (by assumption) (by assumption) (nF (by assumption))] <;> rfl) | (rw [do_get1 (k := k) (n := n) (x := x) (by assumption) (nF (by assumption))] <;> rfl) | (rw [do_get0 (k := k) (n := n) (x := x) (by assumption) (nT (by assumption))] <;> rfl) | (rw [do_drop1 (k := k) (n := n) (x := x) (by assumption) (by assumption) (nF (by assumption))] <;> rfl) | (rw [do_dropS (k := k) (n := n) (x := x) (by assumption) (by assumption) (nT (by assumption))] <;> rfl) | (rw [do_swap0 (k := k) (n := n) (x := x) (by assumption) (by assumption) (by assumption) (by assumption)] <;> rfl) | (rw [do_swapN (k := k) (n := n) (x := x) (by assumption) (by assumption) (by assumption) (by assumption) (by assumption)] <;> rfl) | (rw [do_fullS (k := k) (n := n) (x := x) hko (by assumption) (by assumption) (by first | exact .inl (by assumption) | exact .inr ⟨by assumption, by assumption⟩) hbg] <;> rfl) | (rw [do_putS (k := k) (n := n) (x := x) hko (by assumption) (by assumption) (by first | exact .inl (by assumption) | exact .inr ⟨by assumption, by assumption⟩) hbg] <;> rfl)) (AOs.r (AOs.a rfl AOs.e)))
   ·skip
    refine CW.skip ?_
    refine CW.keep 98 [0,7] rfl ?_;(conv=>whnf);refine ⟨?_⟩
    refine CW.anyJ2 (fc := [(0, (bo 0), [(g 0 0), (g 0 1)]), (7, bo2_9_1, [.string (((itemOf k x.key).1).key), .string (((itemOf k x.key).1).val), .int .i64 (((itemOf k x.key).1).ver)])]) (L0 := [(0, .obj (bo 0) [.w (sl 3 Session.c k.sessions) (g 0 0), .w (sl 3 Item.c k.items) (g 0 1)]), (7, .obj bo2_9_1 ((Item.c ((itemOf k x.key).1)).map .r))]) 98 (fun (go5_2_1 : (Nat → Nat → Value)) => [(6, S ((((⟨#[105, 115, 32]⟩ : ByteArray) ++ (itoaB (((itemOf k x.key).1).ver))) ++ (⟨#[32]⟩ : ByteArray)) ++ (((itemOf k x.key).1).val)))]) (fun all hall f hf b0 hb K hK => ?_) ?_
    ·skip
     have ro5_1 : ∀ B, ∀ (go5_2_1 : Nat → Nat → Value), RA f E B all 0 (bt 9 511) ⟨98, [(6, S ((((⟨#[105, 115, 32]⟩ : ByteArray) ++ (itoaB (((itemOf k x.key).1).ver))) ++ (⟨#[32]⟩ : ByteArray)) ++ (((itemOf k x.key).1).val)))] ++ b0⟩ K := by
      intro B go5_2_1
      exact RA.of2 hall hf hb (RA.finH (Tell.of rfl) (by kernel_rfl) (hK go5_2_1 _ rfl (Le.of rfl)))
     have ro5_0 : ∀ B, RA f E B all 5 (bt 9 99) ⟨98, [(27, I (((itemOf k x.key).1).ver)), (32, S (((itemOf k x.key).1).val))] ++ b0⟩ K := by
      intro B
      refine RA.of2 hall hf hb (RA.stepH (L := [2]) (Tell.of rfl) (by kernel_rfl) (by simp) (RA.each ?_ (RA.each0)))
      ·skip
       refine RO.call rfl rfl (spec_Decimal_fn (((itemOf k x.key).1).ver) (by first | exact ⟨by omega, by omega⟩ | (have h9 := item_in (key := x.key) hko (by first | assumption | simp_all); have h91 := h9.n1; have h92 := h9.n9; exact ⟨by omega, by omega⟩))) rfl (.cons (.one (.r .r)) (.nil)) rfl fun go5_2_1 => ?_
       refine RA.first (i := 3) (ls' := (bt 9 111)) (Tell.of rfl) (by kernel_rfl) rfl rfl rfl (VF.p (V.cat rfl rfl rfl (by have c1 := itoa_len (n := n) (by omega) (by omega); have c3 : (⟨#[32]⟩ : ByteArray).size = 1 := rfl; have c4 : (⟨#[105, 115, 32]⟩ : ByteArray).size = 3 := rfl; have c5 : (⟨#[110, 111, 116, 32]⟩ : ByteArray).size = 4 := rfl; have c6 : (⟨#[112, 117, 116, 32]⟩ : ByteArray).size = 4 := rfl; simp only [maxLen, ByteArray.size_append, c3, c4, c5, c6]; first | omega | (have h9 := item_in (key := x.key) hko (by first | assumption | simp_all); have h93 := h9.len; have h94 := h9.v; omega)))) ?_
       refine RA.first (i := 4) (ls' := (bt 9 127)) (Tell.of rfl) (by kernel_rfl) rfl rfl rfl (VF.p (V.cat rfl rfl rfl (by have c1 := itoa_len (n := n) (by omega) (by omega); have c3 : (⟨#[32]⟩ : ByteArray).size = 1 := rfl; have c4 : (⟨#[105, 115, 32]⟩ : ByteArray).size = 3 := rfl; have c5 : (⟨#[110, 111, 116, 32]⟩ : ByteArray).size = 4 := rfl; have c6 : (⟨#[112, 117, 116, 32]⟩ : ByteArray).size = 4 := rfl; simp only [maxLen, ByteArray.size_append, c3, c4, c5, c6]; first | omega | (have h9 := item_in (key := x.key) hko (by first | assumption | simp_all); have h93 := h9.len; have h94 := h9.v; omega)))) ?_
       refine RA.first (i := 7) (ls' := (bt 9 255)) (Tell.of rfl) (by kernel_rfl) rfl rfl rfl (VF.p (V.cat rfl rfl rfl (by have c1 := itoa_len (n := n) (by omega) (by omega); have c3 : (⟨#[32]⟩ : ByteArray).size = 1 := rfl; have c4 : (⟨#[105, 115, 32]⟩ : ByteArray).size = 3 := rfl; have c5 : (⟨#[110, 111, 116, 32]⟩ : ByteArray).size = 4 := rfl; have c6 : (⟨#[112, 117, 116, 32]⟩ : ByteArray).size = 4 := rfl; simp only [maxLen, ByteArray.size_append, c3, c4, c5, c6]; first | omega | (have h9 := item_in (key := x.key) hko (by first | assumption | simp_all); have h93 := h9.len; have h94 := h9.v; omega)))) ?_
       refine RA.fr XK 98 0 [8] (bt 9 511) rfl rfl (by kernel_rfl) (Tell.of rfl) ?_
       (conv=>whnf);refine ⟨rfl,fun B=>?_⟩
       exact RA.to2 hall hf hb (ro5_1 B go5_2_1) rfl rfl (by kernel_rfl)
     refine RA.start (by kernel_rfl) (by kernel_rfl) (m := 9) (ls' := (bt 9 0)) ?_
     refine RA.fr XK 98 5 [0,1,5,6] (bt 9 99) rfl rfl (by kernel_rfl) (Tell.of rfl) ?_
     (conv=>whnf);refine ⟨rfl,fun B=>?_⟩
     exact RA.to2 hall hf hb (ro5_0 B) rfl rfl (by kernel_rfl)
    ·rintro go5_2_1
     refine CW.ret ?_
     exact Post.one (RV.s rfl (by first | (rw [List.take_of_length_le hii, do_drop1 (k := k) (n := n) (x := x) (by assumption) (by assumption) (nF (by assumption))] <;> rfl) | (rw [do_get1 (k := k) (n := n) (x := x) (by assumption) (nF (by assumption))] <;> rfl) | (rw [do_get0 (k := k) (n := n) (x := x) (by assumption) (nT (by assumption))] <;> rfl) | (rw [do_drop1 (k := k) (n := n) (x := x) (by assumption) (by assumption) (nF (by assumption))] <;> rfl) | (rw [do_dropS (k := k) (n := n) (x := x) (by assumption) (by assumption) (nT (by assumption))] <;> rfl) | (rw [do_swap0 (k := k) (n := n) (x := x) (by assumption) (by assumption) (by assumption) (by assumption)] <;> rfl) | (rw [do_swapN (k := k) (n := n) (x := x) (by assumption) (by assumption) (by assumption) (by assumption) (by assumption)] <;> rfl) | (rw [do_fullS (k := k) (n := n) (x := x) hko (by assumption) (by assumption) (by first | exact .inl (by assumption) | exact .inr ⟨by assumption, by assumption⟩) hbg] <;> rfl) | (rw [do_putS (k := k) (n := n) (x := x) hko (by assumption) (by assumption) (by first | exact .inl (by assumption) | exact .inr ⟨by assumption, by assumption⟩) hbg] <;> rfl))) (AOs.obE (f := fun e => (Keep.c e).map .w) (e' := k) rfl (DT.w (DT.w DT.e)) (by first | (rw [List.take_of_length_le hii, do_drop1 (k := k) (n := n) (x := x) (by assumption) (by assumption) (nF (by assumption))] <;> rfl) | (rw [do_get1 (k := k) (n := n) (x := x) (by assumption) (nF (by assumption))] <;> rfl) | (rw [do_get0 (k := k) (n := n) (x := x) (by assumption) (nT (by assumption))] <;> rfl) | (rw [do_drop1 (k := k) (n := n) (x := x) (by assumption) (by assumption) (nF (by assumption))] <;> rfl) | (rw [do_dropS (k := k) (n := n) (x := x) (by assumption) (by assumption) (nT (by assumption))] <;> rfl) | (rw [do_swap0 (k := k) (n := n) (x := x) (by assumption) (by assumption) (by assumption) (by assumption)] <;> rfl) | (rw [do_swapN (k := k) (n := n) (x := x) (by assumption) (by assumption) (by assumption) (by assumption) (by assumption)] <;> rfl) | (rw [do_fullS (k := k) (n := n) (x := x) hko (by assumption) (by assumption) (by first | exact .inl (by assumption) | exact .inr ⟨by assumption, by assumption⟩) hbg] <;> rfl) | (rw [do_putS (k := k) (n := n) (x := x) hko (by assumption) (by assumption) (by first | exact .inl (by assumption) | exact .inr ⟨by assumption, by assumption⟩) hbg] <;> rfl)) (AOs.r (AOs.a rfl AOs.e)))
  ·skip
   refine CW.k XK 98 1 [0,1,5,7,8,21,34] rfl ?_
   (conv=>whnf);refine ⟨rfl,?_⟩
   refine CW.cond rfl (fun h6 => ?_) (fun h6 => ?_)
   ·skip
    refine CW.seq ?_
    refine CW.k XK 98 1 [0,5,37] rfl ?_
    (conv=>whnf);refine ⟨rfl,?_⟩
    refine CW.cond rfl (fun h7 => ?_) (fun h7 => ?_)
    ·skip
     refine CW.k XK 98 1 [0,6] rfl ?_
     (conv=>whnf);refine ⟨rfl,?_⟩
     refine CW.ret ?_
     exact Post.one (RV.s rfl (by first | (rw [List.take_of_length_le hii, do_drop1 (k := k) (n := n) (x := x) (by assumption) (by assumption) (nF (by assumption))] <;> rfl) | (rw [do_get1 (k := k) (n := n) (x := x) (by assumption) (nF (by assumption))] <;> rfl) | (rw [do_get0 (k := k) (n := n) (x := x) (by assumption) (nT (by assumption))] <;> rfl) | (rw [do_drop1 (k := k) (n := n) (x := x) (by assumption) (by assumption) (nF (by assumption))] <;> rfl) | (rw [do_dropS (k := k) (n := n) (x := x) (by assumption) (by assumption) (nT (by assumption))] <;> rfl) | (rw [do_swap0 (k := k) (n := n) (x := x) (by assumption) (by assumption) (by assumption) (by assumption)] <;> rfl) | (rw [do_swapN (k := k) (n := n) (x := x) (by assumption) (by assumption) (by assumption) (by assumption) (by assumption)] <;> rfl) | (rw [do_fullS (k := k) (n := n) (x := x) hko (by assumption) (by assumption) (by first | exact .inl (by assumption) | exact .inr ⟨by assumption, by assumption⟩) hbg] <;> rfl) | (rw [do_putS (k := k) (n := n) (x := x) hko (by assumption) (by assumption) (by first | exact .inl (by assumption) | exact .inr ⟨by assumption, by assumption⟩) hbg] <;> rfl))) (AOs.obE (f := fun e => (Keep.c e).map .w) (e' := k) rfl (DT.w (DT.w DT.e)) (by first | (rw [List.take_of_length_le hii, do_drop1 (k := k) (n := n) (x := x) (by assumption) (by assumption) (nF (by assumption))] <;> rfl) | (rw [do_get1 (k := k) (n := n) (x := x) (by assumption) (nF (by assumption))] <;> rfl) | (rw [do_get0 (k := k) (n := n) (x := x) (by assumption) (nT (by assumption))] <;> rfl) | (rw [do_drop1 (k := k) (n := n) (x := x) (by assumption) (by assumption) (nF (by assumption))] <;> rfl) | (rw [do_dropS (k := k) (n := n) (x := x) (by assumption) (by assumption) (nT (by assumption))] <;> rfl) | (rw [do_swap0 (k := k) (n := n) (x := x) (by assumption) (by assumption) (by assumption) (by assumption)] <;> rfl) | (rw [do_swapN (k := k) (n := n) (x := x) (by assumption) (by assumption) (by assumption) (by assumption) (by assumption)] <;> rfl) | (rw [do_fullS (k := k) (n := n) (x := x) hko (by assumption) (by assumption) (by first | exact .inl (by assumption) | exact .inr ⟨by assumption, by assumption⟩) hbg] <;> rfl) | (rw [do_putS (k := k) (n := n) (x := x) hko (by assumption) (by assumption) (by first | exact .inl (by assumption) | exact .inr ⟨by assumption, by assumption⟩) hbg] <;> rfl)) (AOs.r (AOs.a rfl AOs.e)))
    ·skip
     refine CW.skip ?_
     refine CW.keep 98 [0,5] rfl ?_;(conv=>whnf);refine ⟨?_⟩
     refine CW.seq ?_
     refine CW.region ?_
     refine RW.build0 Item.c rfl rfl rfl rfl rfl fun X8 => ?_
     refine RW.assignMove rfl rfl rfl (by decide) (Nat.le_of_ble_eq_true rfl) (Nat.le_of_ble_eq_true rfl) ?_
     refine RW.nil ?_
     refine CW.keep 98 [0,5,9] rfl ?_;(conv=>whnf);refine ⟨?_⟩
     refine CW.seq ?_
     refine CW.k XK 98 1 [0,5,9,10] rfl ?_
     (conv=>whnf);refine ⟨rfl,?_⟩
     refine CW.block ?_
     refine CW.loopI 98 (fun (zz : Nat × Value) => match zz with | (i, X) => [(0, .obj (bo 0) [.w (sl 3 Session.c k.sessions) (g 0 0), .w (sl 3 Item.c k.items) (g 0 1)]), (5, .rp (Command.c x)), (9, .w (sl 3 Item.c (withoutL (k.items.take i) x.key)) X), (10, I (i : Int))]) (fun (zz : Nat × Value) => match zz with | (i, X) => i ≤ k.items.length) (fun (zz : Nat × Value) => match zz with | (i, X) => k.items.length - i) (0, _) rfl (Le.c rfl <| Le.c rfl <| Le.c rfl <| Le.c rfl <| Le.e) (by omega) ?_
     rintro ⟨i, X⟩ hb
     refine CW.seq ?_
     refine CW.k XK 98 1 [0,5,9,10,45] rfl ?_
     (conv=>whnf);refine ⟨rfl,?_⟩
     refine CW.cond rfl (fun h9 => ?_) (fun h9 => ?_)
     ·skip
      have hii : i < k.items.length := by have := h9; simp at this; first | exact this | omega | (simp; done) | (simp; omega)
      obtain ⟨ei, hei⟩ : ∃ e, k.items[i]? = some e := ⟨_, List.getElem?_eq_getElem hii⟩
      have hdi := drop_get hei
      refine CW.skip ?_
      refine CW.keep 98 [0,5,9,10] rfl ?_;(conv=>whnf);refine ⟨?_⟩
      refine CW.seq ?_
      refine CW.block ?_
      refine CW.seq ?_
      refine CW.drawn (by kernel_rfl) ?_
      refine RQ.k XK 98 5 rfl ?_
      (conv=>whnf);refine ⟨rfl,?_⟩
      refine RQ.swapO 51 0 1 (by decide) rfl rfl rfl ?_
      refine RQ.v rfl (V.indexW rfl rfl rfl rfl rfl rfl rfl hii) ?_
      refine RQ.k XK 98 1 rfl ?_
      (conv=>whnf);refine ⟨rfl,?_⟩
      refine RQ.v rfl (V.loadF (m := i) (off := 0) rfl rfl (.inl rfl) rfl rfl Item.len hei (by decide) rfl) ?_
      refine RQ.k XK 98 3 rfl ?_
      (conv=>whnf);refine ⟨rfl,?_⟩
      refine RQ.pullT (k := 0) (l := 51) (j := 1) 0 51 1 rfl rfl rfl (by decide) rfl rfl rfl ?_
      refine RQ.nil ?_
      refine CW.keep 98 [0,5,9,10,58] rfl ?_;(conv=>whnf);refine ⟨?_⟩
      refine CW.cond rfl (fun h10 => ?_) (fun h10 => ?_)
      ·skip
       refine CW.region ?_
       refine RW.k XK 98 6 rfl ?_
       (conv=>whnf);refine ⟨rfl,?_⟩
       refine RW.swapO 63 0 1 (by decide) rfl rfl rfl ?_
       refine RW.v rfl (V.indexW rfl rfl rfl rfl rfl rfl rfl hii) ?_
       refine RW.v rfl (V.loadAggF (m := i) rfl rfl rfl rfl rfl Item.len hei (vs := Item.vs ei) rfl (by decide)) ?_
       refine RW.build1 (c := Item.c) (v := ei) rfl rfl rfl rfl rfl rfl (DW.v (DW.v (DW.v DW.e))) Item.len (by decide) (by decide) fun X11 => ?_
       refine RW.appendSR (c := Item.c) (l1 := (withoutL (k.items.take i) x.key)) (l2 := [ei]) rfl rfl rfl rfl rfl rfl rfl rfl (.al (k := none) (i := 67) (sz := 3) (V := X11) rfl rfl nofun) (by decide) (Nat.le_of_ble_eq_true rfl) Item.len (fun _ => rfl) rfl (by have h9 := without_len (k.items.take i) x.key; have h10 : (k.items.take i).length ≤ k.items.length := (by rw [List.length_take]; omega); have h11 := hok.2.1; simp only [maxLen, List.length_singleton]; omega) (by have h9 := without_len (k.items.take i) x.key; have h10 : (k.items.take i).length ≤ k.items.length := (by rw [List.length_take]; omega); have h11 := hok.2.1; simp only [maxLen, List.length_singleton]; omega) fun X12 => ?_
       refine RW.assignMove rfl rfl rfl (by decide) (Nat.le_of_ble_eq_true rfl) (Nat.le_of_ble_eq_true rfl) ?_
       refine RW.pullT (k := 0) (l := 63) (j := 1) 0 63 1 rfl rfl rfl (by decide) rfl rfl rfl ?_
       refine RW.nil ?_
       refine CW.keep 98 [0,5,9,10] rfl ?_;(conv=>whnf);refine ⟨?_⟩
       refine CW.region ?_
       refine RW.k XK 98 1 rfl ?_
       (conv=>whnf);refine ⟨rfl,?_⟩
       refine RW.v rfl (V.inc rfl rfl rfl hii hl2) ?_
       refine RW.k XK 98 1 rfl ?_
       (conv=>whnf);refine ⟨rfl,?_⟩
       refine RW.nil ?_
       exact ⟨(i + 1, _), by simp only []; omega, (by omega), rfl, Le.c rfl <| Le.c rfl <| Le.c (Dw_congr (by rw [without_snoc hei]; simp_all [isKey, sEq])) <| Le.c rfl <| Le.e⟩
      ·skip
       refine CW.skip ?_
       refine CW.keep 98 [0,5,9,10] rfl ?_;(conv=>whnf);refine ⟨?_⟩
       refine CW.region ?_
       refine RW.k XK 98 1 rfl ?_
       (conv=>whnf);refine ⟨rfl,?_⟩
       refine RW.v rfl (V.inc rfl rfl rfl hii hl2) ?_
       refine RW.k XK 98 1 rfl ?_
       (conv=>whnf);refine ⟨rfl,?_⟩
       refine RW.nil ?_
       exact ⟨(i + 1, _), by simp only []; omega, (by omega), rfl, Le.c rfl <| Le.c rfl <| Le.c (Dw_congr (by rw [without_snoc hei]; simp_all [isKey, sEq])) <| Le.c rfl <| Le.e⟩
     ·skip
      have hii : k.items.length ≤ i := by have := h9; simp at this; first | exact this | omega | (simp; done) | (simp; omega)
      have hdi : k.items.drop i = [] := List.drop_eq_nil_of_le hii
      refine CW.exit ?_
      refine CW.keep 98 [0,9] rfl ?_;(conv=>whnf);refine ⟨?_⟩
      refine CW.seq ?_
      refine CW.region ?_
      refine RW.k XK 98 5 rfl ?_
      (conv=>whnf);refine ⟨rfl,?_⟩
      refine RW.keep 98 [0,9] rfl ?_;(conv=>whnf);refine ⟨?_⟩
      refine RW.pullT (k := 0) (l := 9) (j := 1) 0 9 1 rfl rfl rfl (by decide) rfl rfl rfl ?_
      refine RW.keep 98 [0] rfl ?_;(conv=>whnf);refine ⟨?_⟩
      refine RW.nil ?_
      refine CW.keep 98 [0] rfl ?_;(conv=>whnf);refine ⟨?_⟩
      refine CW.k XK 98 1 [0,6] rfl ?_
      (conv=>whnf);refine ⟨rfl,?_⟩
      refine CW.ret ?_
      exact Post.one (RV.s rfl (by first | (rw [List.take_of_length_le hii, do_drop1 (k := k) (n := n) (x := x) (by assumption) (by assumption) (nF (by assumption))] <;> rfl) | (rw [do_get1 (k := k) (n := n) (x := x) (by assumption) (nF (by assumption))] <;> rfl) | (rw [do_get0 (k := k) (n := n) (x := x) (by assumption) (nT (by assumption))] <;> rfl) | (rw [do_drop1 (k := k) (n := n) (x := x) (by assumption) (by assumption) (nF (by assumption))] <;> rfl) | (rw [do_dropS (k := k) (n := n) (x := x) (by assumption) (by assumption) (nT (by assumption))] <;> rfl) | (rw [do_swap0 (k := k) (n := n) (x := x) (by assumption) (by assumption) (by assumption) (by assumption)] <;> rfl) | (rw [do_swapN (k := k) (n := n) (x := x) (by assumption) (by assumption) (by assumption) (by assumption) (by assumption)] <;> rfl) | (rw [do_fullS (k := k) (n := n) (x := x) hko (by assumption) (by assumption) (by first | exact .inl (by assumption) | exact .inr ⟨by assumption, by assumption⟩) hbg] <;> rfl) | (rw [do_putS (k := k) (n := n) (x := x) hko (by assumption) (by assumption) (by first | exact .inl (by assumption) | exact .inr ⟨by assumption, by assumption⟩) hbg] <;> rfl))) (AOs.obE (f := fun e => (Keep.c e).map .w) (e' := (⟨k.sessions, (withoutL (k.items.take i) x.key)⟩ : Keep)) rfl (DT.w (DT.w DT.e)) (by first | (rw [List.take_of_length_le hii, do_drop1 (k := k) (n := n) (x := x) (by assumption) (by assumption) (nF (by assumption))] <;> rfl) | (rw [do_get1 (k := k) (n := n) (x := x) (by assumption) (nF (by assumption))] <;> rfl) | (rw [do_get0 (k := k) (n := n) (x := x) (by assumption) (nT (by assumption))] <;> rfl) | (rw [do_drop1 (k := k) (n := n) (x := x) (by assumption) (by assumption) (nF (by assumption))] <;> rfl) | (rw [do_dropS (k := k) (n := n) (x := x) (by assumption) (by assumption) (nT (by assumption))] <;> rfl) | (rw [do_swap0 (k := k) (n := n) (x := x) (by assumption) (by assumption) (by assumption) (by assumption)] <;> rfl) | (rw [do_swapN (k := k) (n := n) (x := x) (by assumption) (by assumption) (by assumption) (by assumption) (by assumption)] <;> rfl) | (rw [do_fullS (k := k) (n := n) (x := x) hko (by assumption) (by assumption) (by first | exact .inl (by assumption) | exact .inr ⟨by assumption, by assumption⟩) hbg] <;> rfl) | (rw [do_putS (k := k) (n := n) (x := x) hko (by assumption) (by assumption) (by first | exact .inl (by assumption) | exact .inr ⟨by assumption, by assumption⟩) hbg] <;> rfl)) (AOs.r (AOs.a rfl AOs.e)))
   ·skip
    refine CW.k XK 98 1 [0,1,5,7,8,73] rfl ?_
    (conv=>whnf);refine ⟨rfl,?_⟩
    refine CW.cond rfl (fun h13 => ?_) (fun h13 => ?_)
    ·skip
     refine CW.seq ?_
     refine CW.k XK 98 1 [0,1,5,7,76] rfl ?_
     (conv=>whnf);refine ⟨rfl,?_⟩
     refine CW.cond rfl (fun h14 => ?_) (fun h14 => ?_)
     ·skip
      refine CW.k XK 98 1 [0,6] rfl ?_
      (conv=>whnf);refine ⟨rfl,?_⟩
      refine CW.ret ?_
      exact Post.one (RV.s rfl (by first | (rw [List.take_of_length_le hii, do_drop1 (k := k) (n := n) (x := x) (by assumption) (by assumption) (nF (by assumption))] <;> rfl) | (rw [do_get1 (k := k) (n := n) (x := x) (by assumption) (nF (by assumption))] <;> rfl) | (rw [do_get0 (k := k) (n := n) (x := x) (by assumption) (nT (by assumption))] <;> rfl) | (rw [do_drop1 (k := k) (n := n) (x := x) (by assumption) (by assumption) (nF (by assumption))] <;> rfl) | (rw [do_dropS (k := k) (n := n) (x := x) (by assumption) (by assumption) (nT (by assumption))] <;> rfl) | (rw [do_swap0 (k := k) (n := n) (x := x) (by assumption) (by assumption) (by assumption) (by assumption)] <;> rfl) | (rw [do_swapN (k := k) (n := n) (x := x) (by assumption) (by assumption) (by assumption) (by assumption) (by assumption)] <;> rfl) | (rw [do_fullS (k := k) (n := n) (x := x) hko (by assumption) (by assumption) (by first | exact .inl (by assumption) | exact .inr ⟨by assumption, by assumption⟩) hbg] <;> rfl) | (rw [do_putS (k := k) (n := n) (x := x) hko (by assumption) (by assumption) (by first | exact .inl (by assumption) | exact .inr ⟨by assumption, by assumption⟩) hbg] <;> rfl))) (AOs.obE (f := fun e => (Keep.c e).map .w) (e' := k) rfl (DT.w (DT.w DT.e)) (by first | (rw [List.take_of_length_le hii, do_drop1 (k := k) (n := n) (x := x) (by assumption) (by assumption) (nF (by assumption))] <;> rfl) | (rw [do_get1 (k := k) (n := n) (x := x) (by assumption) (nF (by assumption))] <;> rfl) | (rw [do_get0 (k := k) (n := n) (x := x) (by assumption) (nT (by assumption))] <;> rfl) | (rw [do_drop1 (k := k) (n := n) (x := x) (by assumption) (by assumption) (nF (by assumption))] <;> rfl) | (rw [do_dropS (k := k) (n := n) (x := x) (by assumption) (by assumption) (nT (by assumption))] <;> rfl) | (rw [do_swap0 (k := k) (n := n) (x := x) (by assumption) (by assumption) (by assumption) (by assumption)] <;> rfl) | (rw [do_swapN (k := k) (n := n) (x := x) (by assumption) (by assumption) (by assumption) (by assumption) (by assumption)] <;> rfl) | (rw [do_fullS (k := k) (n := n) (x := x) hko (by assumption) (by assumption) (by first | exact .inl (by assumption) | exact .inr ⟨by assumption, by assumption⟩) hbg] <;> rfl) | (rw [do_putS (k := k) (n := n) (x := x) hko (by assumption) (by assumption) (by first | exact .inl (by assumption) | exact .inr ⟨by assumption, by assumption⟩) hbg] <;> rfl)) (AOs.r (AOs.a rfl AOs.e)))
     ·skip
      refine CW.skip ?_
      refine CW.keep 98 [0,1,5,7] rfl ?_;(conv=>whnf);refine ⟨?_⟩
      refine CW.k XK 98 1 [0,1,5,7,81] rfl ?_
      (conv=>whnf);refine ⟨rfl,?_⟩
      refine CW.cond rfl (fun h15 => ?_) (fun h15 => ?_)
      ·skip
       refine CW.seq ?_
       refine CW.region ?_
       refine RW.k XK 98 2 rfl ?_
       (conv=>whnf);refine ⟨rfl,?_⟩
       refine RW.call rfl (spec_Decimal_fn (((itemOf k x.key).1).ver) (by first | exact ⟨by omega, by omega⟩ | (have h9 := item_in (key := x.key) hko (by first | assumption | simp_all); have h91 := h9.n1; have h92 := h9.n9; exact ⟨by omega, by omega⟩))) rfl (.cons (.one (.r .r)) (.nil)) fun g16 => ?_
       refine RW.v rfl (V.cat rfl rfl rfl (by have c1 := itoa_len (n := n) (by omega) (by omega); have c3 : (⟨#[32]⟩ : ByteArray).size = 1 := rfl; have c4 : (⟨#[105, 115, 32]⟩ : ByteArray).size = 3 := rfl; have c5 : (⟨#[110, 111, 116, 32]⟩ : ByteArray).size = 4 := rfl; have c6 : (⟨#[112, 117, 116, 32]⟩ : ByteArray).size = 4 := rfl; simp only [maxLen, ByteArray.size_append, c3, c4, c5, c6]; first | omega | (have h9 := item_in (key := x.key) hko (by first | assumption | simp_all); have h93 := h9.len; have h94 := h9.v; omega))) ?_
       refine RW.k XK 98 1 rfl ?_
       (conv=>whnf);refine ⟨rfl,?_⟩
       refine RW.nil ?_
       refine CW.keep 98 [0,6] rfl ?_;(conv=>whnf);refine ⟨?_⟩
       refine CW.ret ?_
       exact Post.one (RV.s rfl (by first | (rw [List.take_of_length_le hii, do_drop1 (k := k) (n := n) (x := x) (by assumption) (by assumption) (nF (by assumption))] <;> rfl) | (rw [do_get1 (k := k) (n := n) (x := x) (by assumption) (nF (by assumption))] <;> rfl) | (rw [do_get0 (k := k) (n := n) (x := x) (by assumption) (nT (by assumption))] <;> rfl) | (rw [do_drop1 (k := k) (n := n) (x := x) (by assumption) (by assumption) (nF (by assumption))] <;> rfl) | (rw [do_dropS (k := k) (n := n) (x := x) (by assumption) (by assumption) (nT (by assumption))] <;> rfl) | (rw [do_swap0 (k := k) (n := n) (x := x) (by assumption) (by assumption) (by assumption) (by assumption)] <;> rfl) | (rw [do_swapN (k := k) (n := n) (x := x) (by assumption) (by assumption) (by assumption) (by assumption) (by assumption)] <;> rfl) | (rw [do_fullS (k := k) (n := n) (x := x) hko (by assumption) (by assumption) (by first | exact .inl (by assumption) | exact .inr ⟨by assumption, by assumption⟩) hbg] <;> rfl) | (rw [do_putS (k := k) (n := n) (x := x) hko (by assumption) (by assumption) (by first | exact .inl (by assumption) | exact .inr ⟨by assumption, by assumption⟩) hbg] <;> rfl))) (AOs.obE (f := fun e => (Keep.c e).map .w) (e' := k) rfl (DT.w (DT.w DT.e)) (by first | (rw [List.take_of_length_le hii, do_drop1 (k := k) (n := n) (x := x) (by assumption) (by assumption) (nF (by assumption))] <;> rfl) | (rw [do_get1 (k := k) (n := n) (x := x) (by assumption) (nF (by assumption))] <;> rfl) | (rw [do_get0 (k := k) (n := n) (x := x) (by assumption) (nT (by assumption))] <;> rfl) | (rw [do_drop1 (k := k) (n := n) (x := x) (by assumption) (by assumption) (nF (by assumption))] <;> rfl) | (rw [do_dropS (k := k) (n := n) (x := x) (by assumption) (by assumption) (nT (by assumption))] <;> rfl) | (rw [do_swap0 (k := k) (n := n) (x := x) (by assumption) (by assumption) (by assumption) (by assumption)] <;> rfl) | (rw [do_swapN (k := k) (n := n) (x := x) (by assumption) (by assumption) (by assumption) (by assumption) (by assumption)] <;> rfl) | (rw [do_fullS (k := k) (n := n) (x := x) hko (by assumption) (by assumption) (by first | exact .inl (by assumption) | exact .inr ⟨by assumption, by assumption⟩) hbg] <;> rfl) | (rw [do_putS (k := k) (n := n) (x := x) hko (by assumption) (by assumption) (by first | exact .inl (by assumption) | exact .inr ⟨by assumption, by assumption⟩) hbg] <;> rfl)) (AOs.r (AOs.a rfl AOs.e)))
      ·skip
       refine CW.skip ?_
       refine CW.keep 98 [0,1,5] rfl ?_;(conv=>whnf);refine ⟨?_⟩
       refine CW.seq ?_
       refine CW.seq ?_
       refine CW.region ?_
       refine RW.k XK 98 7 rfl ?_
       (conv=>whnf);refine ⟨rfl,?_⟩
       refine RW.callW (k := 0) (spec_l15Put_fn k (⟨x.key, x.val, n⟩ : Item) hok) rfl rfl (Nat.le_of_ble_eq_true rfl) (by decide) (.here (AsW.ob (DT.w (DT.w DT.e)) rfl) (.cons (.agg (.cons (.r .r) (.cons (.r .r) (.cons (.r .r) (.nil))))) (.nil))) rfl fun g17 q18 => ?_
       refine RW.k XK 98 1 rfl ?_
       (conv=>whnf);refine ⟨rfl,?_⟩
       refine RW.nil ?_
       refine CW.keep 98 [0,1,94] rfl ?_;(conv=>whnf);refine ⟨?_⟩
       refine CW.cond rfl (fun h19 => ?_) (fun h19 => ?_)
       ·skip
        have hbg : bigP k (⟨x.key, x.val, n⟩ : Item) = true := by simpa using h19
        refine CW.k XK 98 1 [0,6] rfl ?_
        (conv=>whnf);refine ⟨rfl,?_⟩
        refine CW.ret ?_
        exact Post.one (RV.s rfl (by first | (rw [List.take_of_length_le hii, do_drop1 (k := k) (n := n) (x := x) (by assumption) (by assumption) (nF (by assumption))] <;> rfl) | (rw [do_get1 (k := k) (n := n) (x := x) (by assumption) (nF (by assumption))] <;> rfl) | (rw [do_get0 (k := k) (n := n) (x := x) (by assumption) (nT (by assumption))] <;> rfl) | (rw [do_drop1 (k := k) (n := n) (x := x) (by assumption) (by assumption) (nF (by assumption))] <;> rfl) | (rw [do_dropS (k := k) (n := n) (x := x) (by assumption) (by assumption) (nT (by assumption))] <;> rfl) | (rw [do_swap0 (k := k) (n := n) (x := x) (by assumption) (by assumption) (by assumption) (by assumption)] <;> rfl) | (rw [do_swapN (k := k) (n := n) (x := x) (by assumption) (by assumption) (by assumption) (by assumption) (by assumption)] <;> rfl) | (rw [do_fullS (k := k) (n := n) (x := x) hko (by assumption) (by assumption) (by first | exact .inl (by assumption) | exact .inr ⟨by assumption, by assumption⟩) hbg] <;> rfl) | (rw [do_putS (k := k) (n := n) (x := x) hko (by assumption) (by assumption) (by first | exact .inl (by assumption) | exact .inr ⟨by assumption, by assumption⟩) hbg] <;> rfl))) (AOs.obE (f := fun e => (Keep.c e).map .w) (e' := (putSK k (⟨x.key, x.val, n⟩ : Item))) rfl (DT.w (DT.w DT.e)) (by first | (rw [List.take_of_length_le hii, do_drop1 (k := k) (n := n) (x := x) (by assumption) (by assumption) (nF (by assumption))] <;> rfl) | (rw [do_get1 (k := k) (n := n) (x := x) (by assumption) (nF (by assumption))] <;> rfl) | (rw [do_get0 (k := k) (n := n) (x := x) (by assumption) (nT (by assumption))] <;> rfl) | (rw [do_drop1 (k := k) (n := n) (x := x) (by assumption) (by assumption) (nF (by assumption))] <;> rfl) | (rw [do_dropS (k := k) (n := n) (x := x) (by assumption) (by assumption) (nT (by assumption))] <;> rfl) | (rw [do_swap0 (k := k) (n := n) (x := x) (by assumption) (by assumption) (by assumption) (by assumption)] <;> rfl) | (rw [do_swapN (k := k) (n := n) (x := x) (by assumption) (by assumption) (by assumption) (by assumption) (by assumption)] <;> rfl) | (rw [do_fullS (k := k) (n := n) (x := x) hko (by assumption) (by assumption) (by first | exact .inl (by assumption) | exact .inr ⟨by assumption, by assumption⟩) hbg] <;> rfl) | (rw [do_putS (k := k) (n := n) (x := x) hko (by assumption) (by assumption) (by first | exact .inl (by assumption) | exact .inr ⟨by assumption, by assumption⟩) hbg] <;> rfl)) (AOs.r (AOs.a rfl AOs.e)))
       ·skip
        have hbg : bigP k (⟨x.key, x.val, n⟩ : Item) = false := by simpa using h19
        refine CW.skip ?_
        refine CW.keep 98 [0,1] rfl ?_;(conv=>whnf);refine ⟨?_⟩
        refine CW.seq ?_
        refine CW.region ?_
        refine RW.k XK 98 1 rfl ?_
        (conv=>whnf);refine ⟨rfl,?_⟩
        refine RW.call rfl (spec_Decimal_fn n (by first | exact ⟨by omega, by omega⟩ | (have h9 := item_in (key := x.key) hko (by first | assumption | simp_all); have h91 := h9.n1; have h92 := h9.n9; exact ⟨by omega, by omega⟩))) rfl (.cons (.one (.r .r)) (.nil)) fun g20 => ?_
        refine RW.v rfl (V.cat rfl rfl rfl (by have c1 := itoa_len (n := n) (by omega) (by omega); have c3 : (⟨#[32]⟩ : ByteArray).size = 1 := rfl; have c4 : (⟨#[105, 115, 32]⟩ : ByteArray).size = 3 := rfl; have c5 : (⟨#[110, 111, 116, 32]⟩ : ByteArray).size = 4 := rfl; have c6 : (⟨#[112, 117, 116, 32]⟩ : ByteArray).size = 4 := rfl; simp only [maxLen, ByteArray.size_append, c3, c4, c5, c6]; first | omega | (have h9 := item_in (key := x.key) hko (by first | assumption | simp_all); have h93 := h9.len; have h94 := h9.v; omega))) ?_
        refine RW.k XK 98 1 rfl ?_
        (conv=>whnf);refine ⟨rfl,?_⟩
        refine RW.nil ?_
        refine CW.keep 98 [0,6] rfl ?_;(conv=>whnf);refine ⟨?_⟩
        refine CW.ret ?_
        exact Post.one (RV.s rfl (by first | (rw [List.take_of_length_le hii, do_drop1 (k := k) (n := n) (x := x) (by assumption) (by assumption) (nF (by assumption))] <;> rfl) | (rw [do_get1 (k := k) (n := n) (x := x) (by assumption) (nF (by assumption))] <;> rfl) | (rw [do_get0 (k := k) (n := n) (x := x) (by assumption) (nT (by assumption))] <;> rfl) | (rw [do_drop1 (k := k) (n := n) (x := x) (by assumption) (by assumption) (nF (by assumption))] <;> rfl) | (rw [do_dropS (k := k) (n := n) (x := x) (by assumption) (by assumption) (nT (by assumption))] <;> rfl) | (rw [do_swap0 (k := k) (n := n) (x := x) (by assumption) (by assumption) (by assumption) (by assumption)] <;> rfl) | (rw [do_swapN (k := k) (n := n) (x := x) (by assumption) (by assumption) (by assumption) (by assumption) (by assumption)] <;> rfl) | (rw [do_fullS (k := k) (n := n) (x := x) hko (by assumption) (by assumption) (by first | exact .inl (by assumption) | exact .inr ⟨by assumption, by assumption⟩) hbg] <;> rfl) | (rw [do_putS (k := k) (n := n) (x := x) hko (by assumption) (by assumption) (by first | exact .inl (by assumption) | exact .inr ⟨by assumption, by assumption⟩) hbg] <;> rfl))) (AOs.obE (f := fun e => (Keep.c e).map .w) (e' := (putSK k (⟨x.key, x.val, n⟩ : Item))) rfl (DT.w (DT.w DT.e)) (by first | (rw [List.take_of_length_le hii, do_drop1 (k := k) (n := n) (x := x) (by assumption) (by assumption) (nF (by assumption))] <;> rfl) | (rw [do_get1 (k := k) (n := n) (x := x) (by assumption) (nF (by assumption))] <;> rfl) | (rw [do_get0 (k := k) (n := n) (x := x) (by assumption) (nT (by assumption))] <;> rfl) | (rw [do_drop1 (k := k) (n := n) (x := x) (by assumption) (by assumption) (nF (by assumption))] <;> rfl) | (rw [do_dropS (k := k) (n := n) (x := x) (by assumption) (by assumption) (nT (by assumption))] <;> rfl) | (rw [do_swap0 (k := k) (n := n) (x := x) (by assumption) (by assumption) (by assumption) (by assumption)] <;> rfl) | (rw [do_swapN (k := k) (n := n) (x := x) (by assumption) (by assumption) (by assumption) (by assumption) (by assumption)] <;> rfl) | (rw [do_fullS (k := k) (n := n) (x := x) hko (by assumption) (by assumption) (by first | exact .inl (by assumption) | exact .inr ⟨by assumption, by assumption⟩) hbg] <;> rfl) | (rw [do_putS (k := k) (n := n) (x := x) hko (by assumption) (by assumption) (by first | exact .inl (by assumption) | exact .inr ⟨by assumption, by assumption⟩) hbg] <;> rfl)) (AOs.r (AOs.a rfl AOs.e)))
    ·skip
     refine CW.skip ?_
     refine CW.keep 98 [0,1,5] rfl ?_;(conv=>whnf);refine ⟨?_⟩
     refine CW.seq ?_
     refine CW.seq ?_
     refine CW.region ?_
     refine RW.k XK 98 7 rfl ?_
     (conv=>whnf);refine ⟨rfl,?_⟩
     refine RW.callW (k := 0) (spec_l15Put_fn k (⟨x.key, x.val, n⟩ : Item) hok) rfl rfl (Nat.le_of_ble_eq_true rfl) (by decide) (.here (AsW.ob (DT.w (DT.w DT.e)) rfl) (.cons (.agg (.cons (.r .r) (.cons (.r .r) (.cons (.r .r) (.nil))))) (.nil))) rfl fun g21 q22 => ?_
     refine RW.k XK 98 1 rfl ?_
     (conv=>whnf);refine ⟨rfl,?_⟩
     refine RW.nil ?_
     refine CW.keep 98 [0,1,94] rfl ?_;(conv=>whnf);refine ⟨?_⟩
     refine CW.cond rfl (fun h23 => ?_) (fun h23 => ?_)
     ·skip
      have hbg : bigP k (⟨x.key, x.val, n⟩ : Item) = true := by simpa using h23
      refine CW.k XK 98 1 [0,6] rfl ?_
      (conv=>whnf);refine ⟨rfl,?_⟩
      refine CW.ret ?_
      exact Post.one (RV.s rfl (by first | (rw [List.take_of_length_le hii, do_drop1 (k := k) (n := n) (x := x) (by assumption) (by assumption) (nF (by assumption))] <;> rfl) | (rw [do_get1 (k := k) (n := n) (x := x) (by assumption) (nF (by assumption))] <;> rfl) | (rw [do_get0 (k := k) (n := n) (x := x) (by assumption) (nT (by assumption))] <;> rfl) | (rw [do_drop1 (k := k) (n := n) (x := x) (by assumption) (by assumption) (nF (by assumption))] <;> rfl) | (rw [do_dropS (k := k) (n := n) (x := x) (by assumption) (by assumption) (nT (by assumption))] <;> rfl) | (rw [do_swap0 (k := k) (n := n) (x := x) (by assumption) (by assumption) (by assumption) (by assumption)] <;> rfl) | (rw [do_swapN (k := k) (n := n) (x := x) (by assumption) (by assumption) (by assumption) (by assumption) (by assumption)] <;> rfl) | (rw [do_fullS (k := k) (n := n) (x := x) hko (by assumption) (by assumption) (by first | exact .inl (by assumption) | exact .inr ⟨by assumption, by assumption⟩) hbg] <;> rfl) | (rw [do_putS (k := k) (n := n) (x := x) hko (by assumption) (by assumption) (by first | exact .inl (by assumption) | exact .inr ⟨by assumption, by assumption⟩) hbg] <;> rfl))) (AOs.obE (f := fun e => (Keep.c e).map .w) (e' := (putSK k (⟨x.key, x.val, n⟩ : Item))) rfl (DT.w (DT.w DT.e)) (by first | (rw [List.take_of_length_le hii, do_drop1 (k := k) (n := n) (x := x) (by assumption) (by assumption) (nF (by assumption))] <;> rfl) | (rw [do_get1 (k := k) (n := n) (x := x) (by assumption) (nF (by assumption))] <;> rfl) | (rw [do_get0 (k := k) (n := n) (x := x) (by assumption) (nT (by assumption))] <;> rfl) | (rw [do_drop1 (k := k) (n := n) (x := x) (by assumption) (by assumption) (nF (by assumption))] <;> rfl) | (rw [do_dropS (k := k) (n := n) (x := x) (by assumption) (by assumption) (nT (by assumption))] <;> rfl) | (rw [do_swap0 (k := k) (n := n) (x := x) (by assumption) (by assumption) (by assumption) (by assumption)] <;> rfl) | (rw [do_swapN (k := k) (n := n) (x := x) (by assumption) (by assumption) (by assumption) (by assumption) (by assumption)] <;> rfl) | (rw [do_fullS (k := k) (n := n) (x := x) hko (by assumption) (by assumption) (by first | exact .inl (by assumption) | exact .inr ⟨by assumption, by assumption⟩) hbg] <;> rfl) | (rw [do_putS (k := k) (n := n) (x := x) hko (by assumption) (by assumption) (by first | exact .inl (by assumption) | exact .inr ⟨by assumption, by assumption⟩) hbg] <;> rfl)) (AOs.r (AOs.a rfl AOs.e)))
     ·skip
      have hbg : bigP k (⟨x.key, x.val, n⟩ : Item) = false := by simpa using h23
      refine CW.skip ?_
      refine CW.keep 98 [0,1] rfl ?_;(conv=>whnf);refine ⟨?_⟩
      refine CW.seq ?_
      refine CW.region ?_
      refine RW.k XK 98 1 rfl ?_
      (conv=>whnf);refine ⟨rfl,?_⟩
      refine RW.call rfl (spec_Decimal_fn n (by first | exact ⟨by omega, by omega⟩ | (have h9 := item_in (key := x.key) hko (by first | assumption | simp_all); have h91 := h9.n1; have h92 := h9.n9; exact ⟨by omega, by omega⟩))) rfl (.cons (.one (.r .r)) (.nil)) fun g24 => ?_
      refine RW.v rfl (V.cat rfl rfl rfl (by have c1 := itoa_len (n := n) (by omega) (by omega); have c3 : (⟨#[32]⟩ : ByteArray).size = 1 := rfl; have c4 : (⟨#[105, 115, 32]⟩ : ByteArray).size = 3 := rfl; have c5 : (⟨#[110, 111, 116, 32]⟩ : ByteArray).size = 4 := rfl; have c6 : (⟨#[112, 117, 116, 32]⟩ : ByteArray).size = 4 := rfl; simp only [maxLen, ByteArray.size_append, c3, c4, c5, c6]; first | omega | (have h9 := item_in (key := x.key) hko (by first | assumption | simp_all); have h93 := h9.len; have h94 := h9.v; omega))) ?_
      refine RW.k XK 98 1 rfl ?_
      (conv=>whnf);refine ⟨rfl,?_⟩
      refine RW.nil ?_
      refine CW.keep 98 [0,6] rfl ?_;(conv=>whnf);refine ⟨?_⟩
      refine CW.ret ?_
      exact Post.one (RV.s rfl (by first | (rw [List.take_of_length_le hii, do_drop1 (k := k) (n := n) (x := x) (by assumption) (by assumption) (nF (by assumption))] <;> rfl) | (rw [do_get1 (k := k) (n := n) (x := x) (by assumption) (nF (by assumption))] <;> rfl) | (rw [do_get0 (k := k) (n := n) (x := x) (by assumption) (nT (by assumption))] <;> rfl) | (rw [do_drop1 (k := k) (n := n) (x := x) (by assumption) (by assumption) (nF (by assumption))] <;> rfl) | (rw [do_dropS (k := k) (n := n) (x := x) (by assumption) (by assumption) (nT (by assumption))] <;> rfl) | (rw [do_swap0 (k := k) (n := n) (x := x) (by assumption) (by assumption) (by assumption) (by assumption)] <;> rfl) | (rw [do_swapN (k := k) (n := n) (x := x) (by assumption) (by assumption) (by assumption) (by assumption) (by assumption)] <;> rfl) | (rw [do_fullS (k := k) (n := n) (x := x) hko (by assumption) (by assumption) (by first | exact .inl (by assumption) | exact .inr ⟨by assumption, by assumption⟩) hbg] <;> rfl) | (rw [do_putS (k := k) (n := n) (x := x) hko (by assumption) (by assumption) (by first | exact .inl (by assumption) | exact .inr ⟨by assumption, by assumption⟩) hbg] <;> rfl))) (AOs.obE (f := fun e => (Keep.c e).map .w) (e' := (putSK k (⟨x.key, x.val, n⟩ : Item))) rfl (DT.w (DT.w DT.e)) (by first | (rw [List.take_of_length_le hii, do_drop1 (k := k) (n := n) (x := x) (by assumption) (by assumption) (nF (by assumption))] <;> rfl) | (rw [do_get1 (k := k) (n := n) (x := x) (by assumption) (nF (by assumption))] <;> rfl) | (rw [do_get0 (k := k) (n := n) (x := x) (by assumption) (nT (by assumption))] <;> rfl) | (rw [do_drop1 (k := k) (n := n) (x := x) (by assumption) (by assumption) (nF (by assumption))] <;> rfl) | (rw [do_dropS (k := k) (n := n) (x := x) (by assumption) (by assumption) (nT (by assumption))] <;> rfl) | (rw [do_swap0 (k := k) (n := n) (x := x) (by assumption) (by assumption) (by assumption) (by assumption)] <;> rfl) | (rw [do_swapN (k := k) (n := n) (x := x) (by assumption) (by assumption) (by assumption) (by assumption) (by assumption)] <;> rfl) | (rw [do_fullS (k := k) (n := n) (x := x) hko (by assumption) (by assumption) (by first | exact .inl (by assumption) | exact .inr ⟨by assumption, by assumption⟩) hbg] <;> rfl) | (rw [do_putS (k := k) (n := n) (x := x) hko (by assumption) (by assumption) (by first | exact .inl (by assumption) | exact .inr ⟨by assumption, by assumption⟩) hbg] <;> rfl)) (AOs.r (AOs.a rfl AOs.e)))
set_option maxHeartbeats 4000000 in
theorem impl_Perform_fn (k : Keep) (n : Int) (x : Command) (hok : okToKeep k) : Eng.Fn E.P 19 [.agg ((Keep.c k).map .r), .one (.r (.v (.int .i64 n))), .agg ((Command.c x).map .r)] (.tup [.agg ((Keep.c ((perfK k n x).1)).map .r), .one (.w (.v (.string ((perfK k n x).2.1)))), .one (.w (.v (.bool ((perfK k n x).2.2))))]) [.agg ((Keep.c k).map .r), .one (.r (.v (.int .i64 n))), .agg ((Command.c x).map .r)] := by
 refine Eng.Fn.intro (E := E) (rvs := [.cell 6 31, .tmp 7, .tmp 8]) Tryd.func19 rfl rfl rfl (by simp [outSlots, moved, rvSlot, sl]) ?_
 intro B g bo
 refine CW.keep 100 [0,1,2] rfl ?_;(conv=>whnf);refine ⟨?_⟩
 have hl1 : k.sessions.length ≤ maxLen := by have := hok.1.1; simp only [maxLen]; omega
 have hl2 : k.items.length ≤ maxLen := by have := hok.2.1; simp only [maxLen]; omega
 refine CW.seq ?_
 refine CW.region ?_
 refine RW.k XK 100 1 rfl ?_
 (conv=>whnf);intro b1;(conv=>whnf);refine ⟨rfl,?_⟩
 refine RW.freezeB (ts := (Keep.c k)) 3 rfl (DRd.r (DRd.r DRd.e)) ?_
 refine RW.k XK 100 1 rfl ?_
 (conv=>whnf);intro b2;(conv=>whnf);refine ⟨rfl,?_⟩
 refine RW.freezeB (ts := (Command.c x)) 5 rfl (DRd.r (DRd.r (DRd.r (DRd.r (DRd.r (DRd.r DRd.e)))))) ?_
 refine RW.k XK 100 3 rfl ?_
 (conv=>whnf);intro b3;(conv=>whnf);refine ⟨rfl,?_⟩
 refine RW.nil ?_
 refine CW.keep 100 [1,3,5,6] rfl ?_;(conv=>whnf);refine ⟨?_⟩
 refine CW.seq ?_
 refine CW.seqJ 100 (fun (v4 : Bool) => [(1, I n), (3, .rp (Keep.c k)), (5, .rp (Command.c x)), (6, .obj b3 [.r (.v (.slice none 0 0)), .r (.v (.slice none 0 0))]), (26, Bo v4)]) (fun v4 => v4 = (((!(keepOk k)) || (!(inR n 1 400000))) || (!(cmdOk x)))) ?_ ?_
 ·refine CW.region ?_
  refine RW.k XK 100 1 rfl ?_
  (conv=>whnf);refine ⟨rfl,?_⟩
  refine RW.call rfl (impl_KeepOk_fn k hok) rfl (.cons (.agg (.cons (.r .r) (.cons (.r .r) (.nil)))) (.nil)) fun g5 => ?_
  refine RW.k XK 100 2 rfl ?_
  (conv=>whnf);refine ⟨rfl,?_⟩
  refine RW.gv rfl rfl rfl rfl (fun h6 => V.mv (d := I n) rfl rfl) (fun h6 => ?_) (fun h6 => ?_)
  ·skip
   refine RW.gcall rfl rfl rfl rfl (impl_within_fn n 1 400000) rfl (.cons (.one (.r .r)) (.cons (.one (.r .r)) (.cons (.one (.r .r)) (.nil)))) fun g7 => ?_
   refine RW.k XK 100 3 rfl ?_
   (conv=>whnf);refine ⟨rfl,?_⟩
   refine RW.gv rfl rfl rfl rfl (fun h8 => V.loadAggR rfl rfl rfl rfl (Nat.le_of_ble_eq_true rfl)) (fun h8 => ?_) (fun h8 => ?_)
   ·skip
    refine RW.gcall rfl rfl rfl rfl (impl_CommandOk_fn x) rfl (.cons (.agg (.cons (.r .r) (.cons (.r .r) (.cons (.r .r) (.cons (.r .r) (.cons (.r .r) (.cons (.r .r) (.nil)))))))) (.nil)) fun g9 => ?_
    refine RW.k XK 100 2 rfl ?_
    (conv=>whnf);refine ⟨rfl,?_⟩
    refine RW.nil ?_
    exact ⟨_, by first | rfl | (simp_all; done) | (simp_all; omega) | grind, rfl, Le.of rfl⟩
   ·skip
    refine RW.k XK 100 3 rfl ?_
    (conv=>whnf);refine ⟨rfl,?_⟩
    refine RW.nil ?_
    exact ⟨_, by first | rfl | (simp_all; done) | (simp_all; omega) | grind, rfl, Le.of rfl⟩
  ·skip
   refine RW.k XK 100 8 rfl ?_
   (conv=>whnf);refine ⟨rfl,?_⟩
   refine RW.nil ?_
   exact ⟨_, by first | rfl | (simp_all; done) | (simp_all; omega) | grind, rfl, Le.of rfl⟩
 ·intro v4 hv10
  refine CW.cond rfl (fun h11 => ?_) (fun h11 => ?_)
  ·skip
   refine CW.k XK 100 1 [6,7,8] rfl ?_
   (conv=>whnf);refine ⟨rfl,?_⟩
   refine CW.ret ?_
   exact Post.tup (by decide) (RVs.c (RV.c (f := fun e => (Keep.c e).map .r) (e' := (⟨[], []⟩ : Keep)) rfl rfl rfl rfl (DT.nr (DT.nr DT.e)) (by rw [perf_no (k := k) (n := n) (x := x) (by rw [hv10] at h11; simp only [perfOk]; revert h11; cases keepOk k <;> cases inR n 1 400000 <;> cases cmdOk x <;> simp)] <;> rfl)) (RVs.c (RV.s rfl (by rw [perf_no (k := k) (n := n) (x := x) (by rw [hv10] at h11; simp only [perfOk]; revert h11; cases keepOk k <;> cases inR n 1 400000 <;> cases cmdOk x <;> simp)] <;> rfl)) (RVs.c (RV.b rfl (by rw [perf_no (k := k) (n := n) (x := x) (by rw [hv10] at h11; simp only [perfOk]; revert h11; cases keepOk k <;> cases inR n 1 400000 <;> cases cmdOk x <;> simp)] <;> rfl)) RVs.e))) (AOs.a rfl (AOs.r (AOs.a rfl AOs.e)))
  ·skip
   have hpf : PfOk k n x := PfOk.of (by rw [hv10] at h11; simp only [perfOk]; revert h11; cases keepOk k <;> cases inR n 1 400000 <;> cases cmdOk x <;> simp)
   refine CW.skip ?_
   refine CW.keep 100 [1,3,5,6] rfl ?_;(conv=>whnf);refine ⟨?_⟩
   refine CW.seq ?_
   refine CW.region ?_
   refine RW.k XK 100 1 rfl ?_
   (conv=>whnf);refine ⟨rfl,?_⟩
   refine RW.call rfl (impl_copyKeep_fn k hok) rfl (.cons (.agg (.cons (.r .r) (.cons (.r .r) (.nil)))) (.nil)) fun g12 => ?_
   refine RW.k XK 100 2 rfl ?_
   (conv=>whnf);intro b13;(conv=>whnf);refine ⟨rfl,?_⟩
   refine RW.keep 100 [1,3,5,6,9,29] rfl ?_;(conv=>whnf);refine ⟨?_⟩
   refine RW.pullA (k := 9) (l := 29) (j := 0) 9 29 0 rfl rfl rfl (by decide) rfl rfl rfl rfl ?_
   refine RW.keep 100 [1,3,5,6,9,29] rfl ?_;(conv=>whnf);refine ⟨?_⟩
   refine RW.pullA (k := 9) (l := 29) (j := 1) 9 29 1 rfl rfl rfl (by decide) rfl rfl rfl rfl ?_
   refine RW.keep 100 [1,3,5,6,9] rfl ?_;(conv=>whnf);refine ⟨?_⟩
   refine RW.nil ?_
   refine CW.keep 100 [1,3,5,6,9] rfl ?_;(conv=>whnf);refine ⟨?_⟩
   refine CW.seq ?_
   refine CW.k XK 100 1 [1,3,5,6,9,32] rfl ?_
   (conv=>whnf);refine ⟨rfl,?_⟩
   refine CW.cond rfl (fun h14 => ?_) (fun h14 => ?_)
   ·skip
    refine CW.seq ?_
    refine CW.region ?_
    refine RW.k XK 100 1 rfl ?_
    (conv=>whnf);refine ⟨rfl,?_⟩
    refine RW.callW (k := 9) (__impl_Keep__open_fn k n hok hpf.n) rfl rfl (Nat.le_of_ble_eq_true rfl) (by decide) (.here (AsW.ob (DT.w (DT.w DT.e)) rfl) (.cons (.one (.r .r)) (.nil))) rfl fun g15 q16 => ?_
    refine RW.k XK 100 1 rfl ?_
    (conv=>whnf);refine ⟨rfl,?_⟩
    refine RW.nil ?_
    refine CW.keep 100 [6,9,10] rfl ?_;(conv=>whnf);refine ⟨?_⟩
    refine CW.seq ?_
    refine CW.region ?_
    refine RW.k XK 100 3 rfl ?_
    (conv=>whnf);refine ⟨rfl,?_⟩
    refine RW.keep 100 [6,9,36] rfl ?_;(conv=>whnf);refine ⟨?_⟩
    refine RW.pullO (k := 6) (l := 9) (j := 0) 6 9 0 rfl rfl rfl (by decide) rfl rfl rfl rfl ?_
    refine RW.keep 100 [6,9,36] rfl ?_;(conv=>whnf);refine ⟨?_⟩
    refine RW.pullO (k := 6) (l := 9) (j := 1) 6 9 1 rfl rfl rfl (by decide) rfl rfl rfl rfl ?_
    refine RW.keep 100 [6,36] rfl ?_;(conv=>whnf);refine ⟨?_⟩
    refine RW.k XK 100 2 rfl ?_
    (conv=>whnf);refine ⟨rfl,?_⟩
    refine RW.nil ?_
    refine CW.keep 100 [6,7,8] rfl ?_;(conv=>whnf);refine ⟨?_⟩
    refine CW.freeze 6 (d' := .obj b3 ((Keep.c (openK k n)).map .r)) rfl rfl ?_
    refine CW.ret ?_
    exact Post.tup (by decide) (RVs.c (RV.c (f := fun e => (Keep.c e).map .r) (e' := (openK k n)) rfl rfl rfl rfl (DT.r (DT.r DT.e)) (by rw [perf_open hpf h14] <;> rfl)) (RVs.c (RV.s rfl (by rw [perf_open hpf h14] <;> rfl)) (RVs.c (RV.b rfl (by rw [perf_open hpf h14] <;> rfl)) RVs.e))) (AOs.a rfl (AOs.r (AOs.a rfl AOs.e)))
   ·skip
    refine CW.skip ?_
    refine CW.keep 100 [1,3,5,6,9] rfl ?_;(conv=>whnf);refine ⟨?_⟩
    refine CW.seq ?_
    refine CW.k XK 100 1 [1,5,6,9,38,39,40] rfl ?_
    (conv=>whnf);refine ⟨rfl,?_⟩
    refine CW.block ?_
    refine CW.loopI 100 (fun (i : Nat) => [(1, I n), (5, .rp (Command.c x)), (6, .obj b3 [.r (.v (.slice none 0 0)), .r (.v (.slice none 0 0))]), (9, .obj b13 [.w (sl 3 Session.c k.sessions) (g12 0 0), .w (sl 3 Item.c k.items) (g12 0 1)]), (38, .r (sl 3 Session.c k.sessions)), (39, I (k.sessions.length : Int)), (40, I (i : Int))]) (fun (i : Nat) => i ≤ k.sessions.length ∧ (k.sessions.take i).any (isTok x.token) = false) (fun (i : Nat) => k.sessions.length - i) 0 rfl (Le.c rfl <| Le.c rfl <| Le.c rfl <| Le.c rfl <| Le.c rfl <| Le.c rfl <| Le.c rfl <| Le.e) ⟨by omega, by simp⟩ ?_
    rintro i ⟨hb, hr⟩
    refine CW.k XK 100 1 [1,5,6,9,38,39,40,41] rfl ?_
    (conv=>whnf);refine ⟨rfl,?_⟩
    refine CW.seq ?_
    refine CW.cond rfl (fun h17 => ?_) (fun h17 => ?_)
    ·skip
     have hii : i < k.sessions.length := by have := h17; simp at this; first | exact this | omega | (simp; done) | (simp; omega)
     obtain ⟨ei, hei⟩ : ∃ e, k.sessions[i]? = some e := ⟨_, List.getElem?_eq_getElem hii⟩
     have hdi := drop_get hei
     refine CW.skip ?_
     refine CW.keep 100 [1,5,6,9,38,39,40] rfl ?_;(conv=>whnf);refine ⟨?_⟩
     refine CW.seq ?_
     refine CW.block ?_
     refine CW.seq ?_
     refine CW.region ?_
     refine RW.k XK 100 1 rfl ?_
     (conv=>whnf);refine ⟨rfl,?_⟩
     refine RW.v rfl (V.indexS rfl rfl rfl rfl rfl rfl Session.len hei) ?_
     refine RW.k XK 100 4 rfl ?_
     (conv=>whnf);intro b18;(conv=>whnf);refine ⟨rfl,?_⟩
     refine RW.freezeB (ts := (Session.c ei)) 12 rfl (DRd.r (DRd.r (DRd.r DRd.e))) ?_
     refine RW.nil ?_
     refine CW.keep 100 [1,5,6,9,11,12,38,39,40] rfl ?_;(conv=>whnf);refine ⟨?_⟩
     refine CW.block ?_
     refine CW.k XK 100 1 [1,5,6,9,11,12,38,39,40,63] rfl ?_
     (conv=>whnf);refine ⟨rfl,?_⟩
     refine CW.cond rfl (fun h19 => ?_) (fun h19 => ?_)
     ·skip
      refine CW.skip ?_
      refine CW.keep 100 [1,5,6,9,38,39,40] rfl ?_;(conv=>whnf);refine ⟨?_⟩
      refine CW.region ?_
      refine RW.v rfl (V.inc rfl rfl rfl hii hl1) ?_
      refine RW.k XK 100 1 rfl ?_
      (conv=>whnf);refine ⟨rfl,?_⟩
      refine RW.nil ?_
      exact ⟨i + 1, by omega, ⟨by omega, any_snoc hr hei (by simp_all [isTok])⟩, rfl, Le.c rfl <| Le.c rfl <| Le.c rfl <| Le.c rfl <| Le.c rfl <| Le.c rfl <| Le.c rfl <| Le.e⟩
     ·skip
      have hat : At k x i ei := at_of hr hei (by simp_all [isTok])
      refine CW.k XK 100 1 [1,5,6,9,11,12,69] rfl ?_
      (conv=>whnf);refine ⟨rfl,?_⟩
      refine CW.cond rfl (fun h20 => ?_) (fun h20 => ?_)
      ·skip
       refine CW.seq ?_
       refine CW.region ?_
       refine RW.k XK 100 2 rfl ?_
       (conv=>whnf);refine ⟨rfl,?_⟩
       refine RW.keep 100 [6,9] rfl ?_;(conv=>whnf);refine ⟨?_⟩
       refine RW.pullO (k := 6) (l := 9) (j := 0) 6 9 0 rfl rfl rfl (by decide) rfl rfl rfl rfl ?_
       refine RW.keep 100 [6,9] rfl ?_;(conv=>whnf);refine ⟨?_⟩
       refine RW.pullO (k := 6) (l := 9) (j := 1) 6 9 1 rfl rfl rfl (by decide) rfl rfl rfl rfl ?_
       refine RW.keep 100 [6] rfl ?_;(conv=>whnf);refine ⟨?_⟩
       refine RW.k XK 100 2 rfl ?_
       (conv=>whnf);refine ⟨rfl,?_⟩
       refine RW.nil ?_
       refine CW.keep 100 [6,7,8] rfl ?_;(conv=>whnf);refine ⟨?_⟩
       refine CW.freeze 6 (d' := .obj b3 ((Keep.c k).map .r)) rfl rfl ?_
       refine CW.ret ?_
       exact Post.tup (by decide) (RVs.c (RV.c (f := fun e => (Keep.c e).map .r) (e' := k) rfl rfl rfl rfl (DT.r (DT.r DT.e)) (by rw [perf_gap hpf h14 hat h20] <;> rfl)) (RVs.c (RV.s rfl (by rw [perf_gap hpf h14 hat h20] <;> rfl)) (RVs.c (RV.b rfl (by rw [perf_gap hpf h14 hat h20] <;> rfl)) RVs.e))) (AOs.a rfl (AOs.r (AOs.a rfl AOs.e)))
      ·skip
       refine CW.seqJ 100 (fun (v21 : Bool) => [(1, I n), (5, .rp (Command.c x)), (6, .obj b3 [.r (.v (.slice none 0 0)), .r (.v (.slice none 0 0))]), (9, .obj b13 [.w (sl 3 Session.c k.sessions) (g12 0 0), .w (sl 3 Item.c k.items) (g12 0 1)]), (11, I (i : Int)), (12, .rp (Session.c ei)), (77, Bo v21)]) (fun v21 => v21 = (decide (x.seq < ei.last) || (x.seq == 0))) ?_ ?_
       ·refine CW.region ?_
        refine RW.k XK 100 6 rfl ?_
        (conv=>whnf);refine ⟨rfl,?_⟩
        refine RW.gv rfl rfl rfl rfl (fun h22 => V.fieldR rfl rfl rfl rfl (by decide) rfl (Nat.le_of_ble_eq_true rfl)) (fun h22 => ?_) (fun h22 => ?_)
        ·skip
         refine RW.k XK 100 4 rfl ?_
         (conv=>whnf);refine ⟨rfl,?_⟩
         refine RW.nil ?_
         exact ⟨_, by first | rfl | (simp_all; done) | (simp_all; omega) | grind, rfl, Le.of rfl⟩
        ·skip
         refine RW.k XK 100 4 rfl ?_
         (conv=>whnf);refine ⟨rfl,?_⟩
         refine RW.nil ?_
         exact ⟨_, by first | rfl | (simp_all; done) | (simp_all; omega) | grind, rfl, Le.of rfl⟩
       ·intro v21 hv23
        refine CW.cond rfl (fun h24 => ?_) (fun h24 => ?_)
        ·skip
         refine CW.seq ?_
         refine CW.region ?_
         refine RW.k XK 100 2 rfl ?_
         (conv=>whnf);refine ⟨rfl,?_⟩
         refine RW.keep 100 [6,9] rfl ?_;(conv=>whnf);refine ⟨?_⟩
         refine RW.pullO (k := 6) (l := 9) (j := 0) 6 9 0 rfl rfl rfl (by decide) rfl rfl rfl rfl ?_
         refine RW.keep 100 [6,9] rfl ?_;(conv=>whnf);refine ⟨?_⟩
         refine RW.pullO (k := 6) (l := 9) (j := 1) 6 9 1 rfl rfl rfl (by decide) rfl rfl rfl rfl ?_
         refine RW.keep 100 [6] rfl ?_;(conv=>whnf);refine ⟨?_⟩
         refine RW.k XK 100 2 rfl ?_
         (conv=>whnf);refine ⟨rfl,?_⟩
         refine RW.nil ?_
         refine CW.keep 100 [6,7,8] rfl ?_;(conv=>whnf);refine ⟨?_⟩
         refine CW.freeze 6 (d' := .obj b3 ((Keep.c k).map .r)) rfl rfl ?_
         refine CW.ret ?_
         exact Post.tup (by decide) (RVs.c (RV.c (f := fun e => (Keep.c e).map .r) (e' := k) rfl rfl rfl rfl (DT.r (DT.r DT.e)) (by rw [perf_old hpf h14 hat h20 (hv23.symm.trans h24)] <;> rfl)) (RVs.c (RV.s rfl (by rw [perf_old hpf h14 hat h20 (hv23.symm.trans h24)] <;> rfl)) (RVs.c (RV.b rfl (by rw [perf_old hpf h14 hat h20 (hv23.symm.trans h24)] <;> rfl)) RVs.e))) (AOs.a rfl (AOs.r (AOs.a rfl AOs.e)))
        ·skip
         refine CW.k XK 100 1 [1,5,6,9,11,12,89] rfl ?_
         (conv=>whnf);refine ⟨rfl,?_⟩
         refine CW.cond rfl (fun h25 => ?_) (fun h25 => ?_)
         ·skip
          refine CW.anyJ2 (fc := []) (L0 := []) 100 (fun (_ : Unit) => [(6, .obj b3 [.w (sl 3 Session.c k.sessions) (g12 0 0), .w (sl 3 Item.c k.items) (g12 0 1)]), (7, S ei.reply), (8, Bo true)]) (fun all hall f hf b0 hb K hK => ?_) ?_
          ·skip
           have ro26_2 : ∀ B, RA f E B all 0 (bt 6 63) ⟨100, [(6, .obj b3 [.w (sl 3 Session.c k.sessions) (g12 0 0), .w (sl 3 Item.c k.items) (g12 0 1)]), (7, S ei.reply), (8, Bo true)] ++ b0⟩ K := by
            intro B
            exact RA.of2 hall hf hb (RA.finH (Tell.of rfl) (by kernel_rfl) (hK () _ rfl (Le.of rfl)))
           have ro26_1 : ∀ B, RA f E B all 3 (bt 6 7) ⟨100, [(6, .obj b3 [.r (.v (.slice none 0 0)), .r (.v (.slice none 0 0))]), (9, .obj b13 [.w (sl 3 Session.c k.sessions) (g12 0 0), .w (sl 3 Item.c k.items) (g12 0 1)]), (95, .agg [.al 9 (some 0) 3 k.sessions.length (g12 0 0) 0, .al 9 (some 1) 3 k.items.length (g12 0 1) 0]), (97, S ei.reply)] ++ b0⟩ K := by
            intro B
            refine RA.of2 hall hf hb (RA.stepH (L := [3]) (Tell.of rfl) (by kernel_rfl) (by simp) (RA.each ?_ (RA.each0)))
            ·skip
             refine RO.storeAgg (es := [.al 9 (some 0) 3 k.sessions.length (g12 0 0) 0, .al 9 (some 1) 3 k.items.length (g12 0 1) 0]) rfl rfl rfl rfl rfl rfl rfl rfl rfl rfl (Nat.le_of_ble_eq_true rfl) rfl ?_
             refine RA.keep 100 [6,9,97] rfl ?_;(conv=>whnf);refine ⟨?_⟩
             refine RA.pullO (k := 6) (l := 9) (j := 0) 6 9 0 rfl rfl rfl (by decide) rfl rfl rfl rfl ?_
             refine RA.keep 100 [6,9,97] rfl ?_;(conv=>whnf);refine ⟨?_⟩
             refine RA.pullO (k := 6) (l := 9) (j := 1) 6 9 1 rfl rfl rfl (by decide) rfl rfl rfl rfl ?_
             refine RA.keep 100 [6,97] rfl ?_;(conv=>whnf);refine ⟨?_⟩
             refine RA.fr XK 100 0 [4,5] (bt 6 63) rfl rfl (by kernel_rfl) (Tell.of rfl) ?_
             (conv=>whnf);refine ⟨rfl,fun B=>?_⟩
             exact RA.to2 hall hf hb (ro26_2 B) rfl rfl (by kernel_rfl)
           have ro26_0 : ∀ B, RA f E B all 4 (bt 6 6) ⟨100, [(6, .obj b3 [.r (.v (.slice none 0 0)), .r (.v (.slice none 0 0))]), (9, .obj b13 [.w (sl 3 Session.c k.sessions) (g12 0 0), .w (sl 3 Item.c k.items) (g12 0 1)]), (97, S ei.reply)] ++ b0⟩ K := by
            intro B
            refine RA.of2 hall hf hb (RA.stepH (L := [0]) (Tell.of rfl) (by kernel_rfl) (by simp) (RA.each ?_ (RA.each0)))
            ·skip
             refine RO.v rfl rfl (V.loadAgg rfl rfl rfl rfl rfl (Nat.le_of_ble_eq_true rfl)) rfl ?_
             exact RA.to2 hall hf hb (ro26_1 B) rfl rfl (by kernel_rfl)
           refine RA.start (by kernel_rfl) (by kernel_rfl) (m := 6) (ls' := (bt 6 0)) ?_
           refine RA.fr XK 100 4 [1,2] (bt 6 6) rfl rfl (by kernel_rfl) (Tell.of rfl) ?_
           (conv=>whnf);refine ⟨rfl,fun B=>?_⟩
           exact RA.to2 hall hf hb (ro26_0 B) rfl rfl (by kernel_rfl)
          ·rintro _
           refine CW.freeze 6 (d' := .obj b3 ((Keep.c k).map .r)) rfl rfl ?_
           refine CW.ret ?_
           exact Post.tup (by decide) (RVs.c (RV.c (f := fun e => (Keep.c e).map .r) (e' := k) rfl rfl rfl rfl (DT.r (DT.r DT.e)) (by rw [perf_same hpf h14 hat h20 (hv23.symm.trans h24) h25] <;> rfl)) (RVs.c (RV.s rfl (by rw [perf_same hpf h14 hat h20 (hv23.symm.trans h24) h25] <;> rfl)) (RVs.c (RV.b rfl (by rw [perf_same hpf h14 hat h20 (hv23.symm.trans h24) h25] <;> rfl)) RVs.e))) (AOs.a rfl (AOs.r (AOs.a rfl AOs.e)))
         ·skip
          refine CW.seq ?_
          refine CW.region ?_
          refine RW.k XK 100 2 rfl ?_
          (conv=>whnf);refine ⟨rfl,?_⟩
          refine RW.callW (k := 9) (__impl_Keep__does_fn k n x hok hpf.k hpf.n) rfl rfl (Nat.le_of_ble_eq_true rfl) (by decide) (.here (AsW.ob (DT.w (DT.w DT.e)) rfl) (.cons (.one (.r .r)) (.cons (.agg (.cons (.r .r) (.cons (.r .r) (.cons (.r .r) (.cons (.r .r) (.cons (.r .r) (.cons (.r .r) (.nil)))))))) (.nil)))) rfl fun g27 q28 => ?_
          refine RW.k XK 100 1 rfl ?_
          (conv=>whnf);refine ⟨rfl,?_⟩
          refine RW.nil ?_
          refine CW.keep 100 [5,6,9,11,13] rfl ?_;(conv=>whnf);refine ⟨?_⟩
          refine CW.seq ?_
          refine CW.region ?_
          refine RW.k XK 100 9 rfl ?_
          (conv=>whnf);refine ⟨rfl,?_⟩
          refine RW.swapO 49 9 0 (by decide) rfl rfl rfl ?_
          refine RW.v rfl (V.indexW rfl rfl rfl rfl rfl rfl rfl (by first | exact hii | (rw [do_sess]; exact hii) | (rw [List.length_set]; exact hii) | (rw [List.length_set, do_sess]; exact hii))) ?_
          refine RW.k XK 100 1 rfl ?_
          (conv=>whnf);refine ⟨rfl,?_⟩
          refine RW.storeF (m := i) (off := 1) (v := ei) (v' := (⟨ei.token, x.seq, ei.reply⟩ : Session)) (u := .v (.int .i64 x.seq)) (c := Session.c) rfl rfl rfl rfl rfl rfl rfl (.inl rfl) Session.len (by first | exact hei | (rw [do_sess]; exact hei)) (by decide) rfl rfl ?_
          refine RW.relabel 52 49 none ((((doK k n x).1).sessions).set i (⟨ei.token, x.seq, ei.reply⟩ : Session)).length (by simp) rfl ?_
          refine RW.v rfl (V.indexW rfl rfl rfl rfl rfl rfl rfl (by first | exact hii | (rw [do_sess]; exact hii) | (rw [List.length_set]; exact hii) | (rw [List.length_set, do_sess]; exact hii))) ?_
          refine RW.k XK 100 1 rfl ?_
          (conv=>whnf);refine ⟨rfl,?_⟩
          refine RW.storeF (m := i) (off := 2) (v := (⟨ei.token, x.seq, ei.reply⟩ : Session)) (v' := (⟨ei.token, x.seq, ((doK k n x).2)⟩ : Session)) (u := .v (.string ((doK k n x).2))) (c := Session.c) rfl rfl rfl rfl rfl rfl rfl (.inl rfl) Session.len (List.getElem?_set_self (by first | exact hii | (rw [do_sess]; exact hii) | (simp; omega))) (by decide) rfl rfl ?_
          refine RW.pullN (k := 9) (l := 49) (j := 0) 9 49 0 rfl rfl rfl (by decide) rfl rfl rfl (by simp) ?_
          refine RW.nil ?_
          refine CW.keep 100 [6,9,13] rfl ?_;(conv=>whnf);refine ⟨?_⟩
          refine CW.seq ?_
          refine CW.region ?_
          refine RW.k XK 100 3 rfl ?_
          (conv=>whnf);refine ⟨rfl,?_⟩
          refine RW.keep 100 [6,9,62] rfl ?_;(conv=>whnf);refine ⟨?_⟩
          refine RW.pullO (k := 6) (l := 9) (j := 0) 6 9 0 rfl rfl rfl (by decide) rfl rfl rfl rfl ?_
          refine RW.keep 100 [6,9,62] rfl ?_;(conv=>whnf);refine ⟨?_⟩
          refine RW.pullO (k := 6) (l := 9) (j := 1) 6 9 1 rfl rfl rfl (by decide) rfl rfl rfl rfl ?_
          refine RW.keep 100 [6,9,62] rfl ?_;(conv=>whnf);refine ⟨?_⟩
          refine RW.k XK 100 2 rfl ?_
          (conv=>whnf);refine ⟨rfl,?_⟩
          refine RW.nil ?_
          refine CW.keep 100 [6,7,8] rfl ?_;(conv=>whnf);refine ⟨?_⟩
          refine CW.freeze 6 (d' := .obj b3 [.r (sl 3 Session.c (((((doK k n x).1).sessions).set i (⟨ei.token, x.seq, ei.reply⟩ : Session)).set i (⟨ei.token, x.seq, ((doK k n x).2)⟩ : Session))), .r (sl 3 Item.c (((doK k n x).1).items))]) rfl rfl ?_
          refine CW.ret ?_
          exact Post.tup (by decide) (RVs.c (RV.c (f := fun e => (Keep.c e).map .r) (e' := (⟨(((((doK k n x).1).sessions).set i (⟨ei.token, x.seq, ei.reply⟩ : Session)).set i (⟨ei.token, x.seq, ((doK k n x).2)⟩ : Session)), ((doK k n x).1).items⟩ : Keep)) rfl rfl rfl rfl (DT.r (DT.r DT.e)) (by rw [perf_do hpf h14 hat h20 (hv23.symm.trans h24) h25]; simp [do_sess, List.set_set])) (RVs.c (RV.s rfl (by rw [perf_do hpf h14 hat h20 (hv23.symm.trans h24) h25] <;> rfl)) (RVs.c (RV.b rfl (by rw [perf_do hpf h14 hat h20 (hv23.symm.trans h24) h25] <;> rfl)) RVs.e))) (AOs.a rfl (AOs.r (AOs.a rfl AOs.e)))
    ·skip
     have hii : k.sessions.length ≤ i := by have := h17; simp at this; first | exact this | omega | (simp; done) | (simp; omega)
     have hdi : k.sessions.drop i = [] := List.drop_eq_nil_of_le hii
     refine CW.exit ?_
     refine CW.keep 100 [6,9] rfl ?_;(conv=>whnf);refine ⟨?_⟩
     refine CW.seq ?_
     refine CW.region ?_
     refine RW.k XK 100 2 rfl ?_
     (conv=>whnf);refine ⟨rfl,?_⟩
     refine RW.keep 100 [6,9] rfl ?_;(conv=>whnf);refine ⟨?_⟩
     refine RW.pullO (k := 6) (l := 9) (j := 0) 6 9 0 rfl rfl rfl (by decide) rfl rfl rfl rfl ?_
     refine RW.keep 100 [6,9] rfl ?_;(conv=>whnf);refine ⟨?_⟩
     refine RW.pullO (k := 6) (l := 9) (j := 1) 6 9 1 rfl rfl rfl (by decide) rfl rfl rfl rfl ?_
     refine RW.keep 100 [6,9] rfl ?_;(conv=>whnf);refine ⟨?_⟩
     refine RW.k XK 100 2 rfl ?_
     (conv=>whnf);refine ⟨rfl,?_⟩
     refine RW.nil ?_
     refine CW.keep 100 [6,7,8] rfl ?_;(conv=>whnf);refine ⟨?_⟩
     refine CW.freeze 6 (d' := .obj b3 ((Keep.c k).map .r)) rfl rfl ?_
     refine CW.ret ?_
     exact Post.tup (by decide) (RVs.c (RV.c (f := fun e => (Keep.c e).map .r) (e' := k) rfl rfl rfl rfl (DT.r (DT.r DT.e)) (by rw [perf_none hpf h14 hr hii] <;> rfl)) (RVs.c (RV.s rfl (by rw [perf_none hpf h14 hr hii] <;> rfl)) (RVs.c (RV.b rfl (by rw [perf_none hpf h14 hr hii] <;> rfl)) RVs.e))) (AOs.a rfl (AOs.r (AOs.a rfl AOs.e)))
end Go.Proofs.YtaeagpakloggfaaDoor.Y
