import Derived.Test.YtaeagpakloggfaaDoorWFoldsA
namespace Go.Proofs.YtaeagpakloggfaaDoor.Y
open Go Go.RowKit Go.Eng Go.Proofs
set_option maxRecDepth 10000
set_option maxHeartbeats 4000000 in
theorem __impl_Keep__open_fn (k : Keep) (n : Int) (hok : okToKeep k) (hn : 1 ≤ n ∧ n ≤ 400000) : Eng.Fn E.P 54 [.ob ((Keep.c k).map .w), .one (.r (.v (.int .i64 n)))] (.one (.one (.w (.v (.string (tOpen ++ itoaB n)))))) [.ob ((Keep.c (openK k n)).map .w), .one (.r (.v (.int .i64 n)))] := by
 refine Eng.Fn.intro (E := E) (rvs := [.tmp 4]) Tryd.func54 rfl rfl rfl (by simp [outSlots, moved, rvSlot, sl]) ?_
 intro B g bo
 refine CW.keep 60 [0,1] rfl ?_;(conv=>whnf);refine ⟨?_⟩
 have hl1 : k.sessions.length ≤ maxLen := by have := hok.1.1; simp only [maxLen]; omega
 have hl2 : k.items.length ≤ maxLen := by have := hok.2.1; simp only [maxLen]; omega
 have hn1 := hn.1; have hn2 := hn.2
 refine CW.k XK 60 1 [0,1] rfl ?_
 (conv=>whnf);refine ⟨rfl,?_⟩
 refine CW.seq ?_
 refine CW.region ?_
 refine RW.build0 Session.c rfl rfl rfl rfl rfl fun X1 => ?_
 refine RW.assignMove rfl rfl rfl (by decide) (Nat.le_of_ble_eq_true rfl) (Nat.le_of_ble_eq_true rfl) ?_
 refine RW.nil ?_
 refine CW.keep 60 [0,1,5] rfl ?_;(conv=>whnf);refine ⟨?_⟩
 refine CW.k XK 60 1 [0,1,5,6] rfl ?_
 (conv=>whnf);refine ⟨rfl,?_⟩
 refine CW.seq ?_
 refine CW.k XK 60 1 [0,1,5,6,13,14,15] rfl ?_
 (conv=>whnf);refine ⟨rfl,?_⟩
 refine CW.block ?_
 refine CW.loopI 60 (fun (zz : Nat × List Session × Bool × Value) => match zz with | (i, rest, p, X) => [(0, .obj (bo 0) [.w (sl 3 Session.c k.sessions) (g 0 0), .w (sl 3 Item.c k.items) (g 0 1)]), (1, I n), (5, .w (sl 3 Session.c rest) X), (6, Bo p), (13, .al 0 (some 0) 3 k.sessions.length (g 0 0) 0), (14, I (k.sessions.length : Int)), (15, I (i : Int))]) (fun (zz : Nat × List Session × Bool × Value) => match zz with | (i, rest, p, X) => OpenP n k.sessions i rest p) (fun (zz : Nat × List Session × Bool × Value) => match zz with | (i, rest, p, X) => k.sessions.length - i) (0, _, _, _) rfl (Le.c rfl <| Le.c rfl <| Le.c rfl <| Le.c rfl <| Le.c rfl <| Le.c rfl <| Le.c rfl <| Le.e) (OpenP.init _ _) ?_
 rintro ⟨i, rest, p, X⟩ hP
 have hPl := hP.len1
 have hPe := hP.le
 refine CW.k XK 60 1 [0,1,5,6,13,14,15,16] rfl ?_
 (conv=>whnf);refine ⟨rfl,?_⟩
 refine CW.seq ?_
 refine CW.cond rfl (fun h2 => ?_) (fun h2 => ?_)
 ·skip
  have hii : i < k.sessions.length := by have := h2; simp at this; first | exact this | omega | (simp; done) | (simp; omega)
  obtain ⟨ei, hei⟩ : ∃ e, k.sessions[i]? = some e := ⟨_, List.getElem?_eq_getElem hii⟩
  have hdi := drop_get hei
  refine CW.skip ?_
  refine CW.keep 60 [0,1,5,6,13,14,15] rfl ?_;(conv=>whnf);refine ⟨?_⟩
  refine CW.seq ?_
  refine CW.block ?_
  refine CW.seq ?_
  refine CW.region ?_
  refine RW.swapO 13 0 0 (by decide) rfl rfl rfl ?_
  refine RW.v rfl (V.indexW rfl rfl rfl rfl rfl rfl rfl hii) ?_
  refine RW.v rfl (V.loadAggF (m := i) rfl rfl rfl rfl rfl Session.len hei (vs := Session.vs ei) rfl (by decide)) ?_
  refine RW.k XK 60 2 rfl ?_
  (conv=>whnf);intro b3;(conv=>whnf);refine ⟨rfl,?_⟩
  refine RW.freezeB (ts := (Session.c ei)) 8 rfl (DRd.r (DRd.r (DRd.r DRd.e))) ?_
  refine RW.unswapO (k := 0) (l := 13) (j := 0) 0 13 0 rfl rfl rfl (by decide) rfl rfl rfl ?_
  refine RW.nil ?_
  refine CW.keep 60 [0,1,5,6,8,13,14,15] rfl ?_;(conv=>whnf);refine ⟨?_⟩
  refine CW.seq ?_
  refine CW.seqJ 60 (fun (v4 : Bool) => [(0, .obj (bo 0) [.w (sl 3 Session.c k.sessions) (g 0 0), .w (sl 3 Item.c k.items) (g 0 1)]), (1, I n), (5, .w (sl 3 Session.c rest) X), (6, Bo p), (8, .rp (Session.c ei)), (13, .al 0 (some 0) 3 k.sessions.length (g 0 0) 0), (14, I (k.sessions.length : Int)), (15, I (i : Int)), (26, Bo v4)]) (fun v4 => v4 = ((!p) && decide (ei.token ≥ n))) ?_ ?_
  ·refine CW.region ?_
   refine RW.k XK 60 3 rfl ?_
   (conv=>whnf);refine ⟨rfl,?_⟩
   refine RW.gv rfl rfl rfl rfl (fun h5 => V.fieldR rfl rfl rfl rfl (by decide) rfl (Nat.le_of_ble_eq_true rfl)) (fun h5 => ?_) (fun h5 => ?_)
   ·skip
    refine RW.k XK 60 4 rfl ?_
    (conv=>whnf);refine ⟨rfl,?_⟩
    refine RW.nil ?_
    exact ⟨_, by first | rfl | (simp_all; done) | (simp_all; omega) | grind, rfl, Le.of rfl⟩
   ·skip
    refine RW.k XK 60 4 rfl ?_
    (conv=>whnf);refine ⟨rfl,?_⟩
    refine RW.nil ?_
    exact ⟨_, by first | rfl | (simp_all; done) | (simp_all; omega) | grind, rfl, Le.of rfl⟩
  ·intro v4 hv6
   refine CW.cond rfl (fun h7 => ?_) (fun h7 => ?_)
   ·skip
    refine CW.seq ?_
    refine CW.region ?_
    refine RW.k XK 60 3 rfl ?_
    (conv=>whnf);refine ⟨rfl,?_⟩
    refine RW.build1 (c := Session.c) (v := (⟨n, 0, ⟨#[]⟩⟩ : Session)) rfl rfl rfl rfl rfl rfl (DW.v (DW.v (DW.v DW.e))) Session.len (by decide) (by decide) fun X8 => ?_
    refine RW.appendSR (c := Session.c) (l1 := rest) (l2 := [(⟨n, 0, ⟨#[]⟩⟩ : Session)]) rfl rfl rfl rfl rfl rfl rfl rfl (.al (k := none) (i := 30) (sz := 3) (V := X8) rfl rfl nofun) (by decide) (Nat.le_of_ble_eq_true rfl) Session.len (fun _ => rfl) rfl (by have h11 := hok.1.1; simp only [maxLen, List.length_singleton, List.length_append]; omega) (by have h11 := hok.1.1; simp only [maxLen, List.length_singleton, List.length_append]; omega) fun X9 => ?_
    refine RW.assignMove rfl rfl rfl (by decide) (Nat.le_of_ble_eq_true rfl) (Nat.le_of_ble_eq_true rfl) ?_
    refine RW.nil ?_
    refine CW.keep 60 [0,1,5,8,13,14,15] rfl ?_;(conv=>whnf);refine ⟨?_⟩
    refine CW.region ?_
    refine RW.k XK 60 1 rfl ?_
    (conv=>whnf);refine ⟨rfl,?_⟩
    refine RW.nil ?_
    refine CW.keep 60 [0,1,5,6,8,13,14,15] rfl ?_;(conv=>whnf);refine ⟨?_⟩
    refine CW.k XK 60 1 [0,1,5,6,8,13,14,15,35] rfl ?_
    (conv=>whnf);refine ⟨rfl,?_⟩
    refine CW.cond rfl (fun h10 => ?_) (fun h10 => ?_)
    ·skip
     refine CW.region ?_
     refine RW.k XK 60 2 rfl ?_
     (conv=>whnf);refine ⟨rfl,?_⟩
     refine RW.build1 (c := Session.c) (v := ei) rfl rfl rfl rfl rfl rfl (DW.v (DW.v (DW.v DW.e))) Session.len (by decide) (by decide) fun X11 => ?_
     refine RW.appendSR (c := Session.c) (l1 := (rest ++ ([(⟨n, 0, ⟨#[]⟩⟩ : Session)]))) (l2 := [ei]) rfl rfl rfl rfl rfl rfl rfl rfl (.al (k := none) (i := 38) (sz := 3) (V := X11) rfl rfl nofun) (by decide) (Nat.le_of_ble_eq_true rfl) Session.len (fun _ => rfl) rfl (by have h11 := hok.1.1; simp only [maxLen, List.length_singleton, List.length_append]; omega) (by have h11 := hok.1.1; simp only [maxLen, List.length_singleton, List.length_append]; omega) fun X12 => ?_
     refine RW.assignMove rfl rfl rfl (by decide) (Nat.le_of_ble_eq_true rfl) (Nat.le_of_ble_eq_true rfl) ?_
     refine RW.nil ?_
     refine CW.keep 60 [0,1,5,6,13,14,15] rfl ?_;(conv=>whnf);refine ⟨?_⟩
     refine CW.region ?_
     refine RW.v rfl (V.inc rfl rfl rfl hii hl1) ?_
     refine RW.k XK 60 1 rfl ?_
     (conv=>whnf);refine ⟨rfl,?_⟩
     refine RW.nil ?_
     exact ⟨(i + 1, ((rest ++ ([(⟨n, 0, ⟨#[]⟩⟩ : Session)])) ++ ([ei])), true, _), by simp only []; omega, (by first | exact hP.s1 hei (hv6.symm.trans h7) h10 | exact hP.s2 hei (hv6.symm.trans h7) h10 | exact hP.s3 hei (hv6.symm.trans h7) h13 | exact hP.s4 hei (hv6.symm.trans h7) h13), rfl, Le.c rfl <| Le.c rfl <| Le.c rfl <| Le.c rfl <| Le.c rfl <| Le.c rfl <| Le.c rfl <| Le.e⟩
    ·skip
     refine CW.skip ?_
     refine CW.keep 60 [0,1,5,6,13,14,15] rfl ?_;(conv=>whnf);refine ⟨?_⟩
     refine CW.region ?_
     refine RW.v rfl (V.inc rfl rfl rfl hii hl1) ?_
     refine RW.k XK 60 1 rfl ?_
     (conv=>whnf);refine ⟨rfl,?_⟩
     refine RW.nil ?_
     exact ⟨(i + 1, (rest ++ ([(⟨n, 0, ⟨#[]⟩⟩ : Session)])), true, _), by simp only []; omega, (by first | exact hP.s1 hei (hv6.symm.trans h7) h10 | exact hP.s2 hei (hv6.symm.trans h7) h10 | exact hP.s3 hei (hv6.symm.trans h7) h13 | exact hP.s4 hei (hv6.symm.trans h7) h13), rfl, Le.c rfl <| Le.c rfl <| Le.c rfl <| Le.c rfl <| Le.c rfl <| Le.c rfl <| Le.c rfl <| Le.e⟩
   ·skip
    refine CW.skip ?_
    refine CW.keep 60 [0,1,5,6,8,13,14,15] rfl ?_;(conv=>whnf);refine ⟨?_⟩
    refine CW.k XK 60 1 [0,1,5,6,8,13,14,15,35] rfl ?_
    (conv=>whnf);refine ⟨rfl,?_⟩
    refine CW.cond rfl (fun h13 => ?_) (fun h13 => ?_)
    ·skip
     refine CW.region ?_
     refine RW.k XK 60 2 rfl ?_
     (conv=>whnf);refine ⟨rfl,?_⟩
     refine RW.build1 (c := Session.c) (v := ei) rfl rfl rfl rfl rfl rfl (DW.v (DW.v (DW.v DW.e))) Session.len (by decide) (by decide) fun X14 => ?_
     refine RW.appendSR (c := Session.c) (l1 := rest) (l2 := [ei]) rfl rfl rfl rfl rfl rfl rfl rfl (.al (k := none) (i := 38) (sz := 3) (V := X14) rfl rfl nofun) (by decide) (Nat.le_of_ble_eq_true rfl) Session.len (fun _ => rfl) rfl (by have h11 := hok.1.1; simp only [maxLen, List.length_singleton, List.length_append]; omega) (by have h11 := hok.1.1; simp only [maxLen, List.length_singleton, List.length_append]; omega) fun X15 => ?_
     refine RW.assignMove rfl rfl rfl (by decide) (Nat.le_of_ble_eq_true rfl) (Nat.le_of_ble_eq_true rfl) ?_
     refine RW.nil ?_
     refine CW.keep 60 [0,1,5,6,13,14,15] rfl ?_;(conv=>whnf);refine ⟨?_⟩
     refine CW.region ?_
     refine RW.v rfl (V.inc rfl rfl rfl hii hl1) ?_
     refine RW.k XK 60 1 rfl ?_
     (conv=>whnf);refine ⟨rfl,?_⟩
     refine RW.nil ?_
     exact ⟨(i + 1, (rest ++ ([ei])), p, _), by simp only []; omega, (by first | exact hP.s1 hei (hv6.symm.trans h7) h10 | exact hP.s2 hei (hv6.symm.trans h7) h10 | exact hP.s3 hei (hv6.symm.trans h7) h13 | exact hP.s4 hei (hv6.symm.trans h7) h13), rfl, Le.c rfl <| Le.c rfl <| Le.c rfl <| Le.c rfl <| Le.c rfl <| Le.c rfl <| Le.c rfl <| Le.e⟩
    ·skip
     refine CW.skip ?_
     refine CW.keep 60 [0,1,5,6,13,14,15] rfl ?_;(conv=>whnf);refine ⟨?_⟩
     refine CW.region ?_
     refine RW.v rfl (V.inc rfl rfl rfl hii hl1) ?_
     refine RW.k XK 60 1 rfl ?_
     (conv=>whnf);refine ⟨rfl,?_⟩
     refine RW.nil ?_
     exact ⟨(i + 1, rest, p, _), by simp only []; omega, (by first | exact hP.s1 hei (hv6.symm.trans h7) h10 | exact hP.s2 hei (hv6.symm.trans h7) h10 | exact hP.s3 hei (hv6.symm.trans h7) h13 | exact hP.s4 hei (hv6.symm.trans h7) h13), rfl, Le.c rfl <| Le.c rfl <| Le.c rfl <| Le.c rfl <| Le.c rfl <| Le.c rfl <| Le.c rfl <| Le.e⟩
 ·skip
  have hii : k.sessions.length ≤ i := by have := h2; simp at this; first | exact this | omega | (simp; done) | (simp; omega)
  have hdi : k.sessions.drop i = [] := List.drop_eq_nil_of_le hii
  refine CW.exit ?_
  refine CW.keep 60 [0,1,5,6] rfl ?_;(conv=>whnf);refine ⟨?_⟩
  refine CW.seq ?_
  refine CW.k XK 60 1 [0,1,5,42] rfl ?_
  (conv=>whnf);refine ⟨rfl,?_⟩
  refine CW.cond rfl (fun h16 => ?_) (fun h16 => ?_)
  ·skip
   refine CW.region ?_
   refine RW.k XK 60 3 rfl ?_
   (conv=>whnf);refine ⟨rfl,?_⟩
   refine RW.build1 (c := Session.c) (v := (⟨n, 0, ⟨#[]⟩⟩ : Session)) rfl rfl rfl rfl rfl rfl (DW.v (DW.v (DW.v DW.e))) Session.len (by decide) (by decide) fun X17 => ?_
   refine RW.appendSR (c := Session.c) (l1 := rest) (l2 := [(⟨n, 0, ⟨#[]⟩⟩ : Session)]) rfl rfl rfl rfl rfl rfl rfl rfl (.al (k := none) (i := 46) (sz := 3) (V := X17) rfl rfl nofun) (by decide) (Nat.le_of_ble_eq_true rfl) Session.len (fun _ => rfl) rfl (by have h11 := hok.1.1; simp only [maxLen, List.length_singleton, List.length_append]; omega) (by have h11 := hok.1.1; simp only [maxLen, List.length_singleton, List.length_append]; omega) fun X18 => ?_
   refine RW.assignMove rfl rfl rfl (by decide) (Nat.le_of_ble_eq_true rfl) (Nat.le_of_ble_eq_true rfl) ?_
   refine RW.nil ?_
   refine CW.keep 60 [0,1,5] rfl ?_;(conv=>whnf);refine ⟨?_⟩
   refine CW.seq ?_
   refine CW.k XK 60 1 [0,1,5,50] rfl ?_
   (conv=>whnf);refine ⟨rfl,?_⟩
   refine CW.cond rfl (fun h19 => ?_) (fun h19 => ?_)
   ·skip
    have hgt := of_decide_eq_true h19
    refine CW.region ?_
    refine RW.k XK 60 1 rfl ?_
    (conv=>whnf);refine ⟨rfl,?_⟩
    refine RW.dropOwn (m := 1) rfl rfl rfl rfl rfl rfl rfl rfl rfl Session.len (by omega) (by decide) (Nat.le_of_ble_eq_true rfl) fun Y20 => ?_
    refine RW.assignMove rfl rfl rfl (by decide) (Nat.le_of_ble_eq_true rfl) (Nat.le_of_ble_eq_true rfl) ?_
    refine RW.nil ?_
    refine CW.keep 60 [0,1,5] rfl ?_;(conv=>whnf);refine ⟨?_⟩
    refine CW.seq ?_
    refine CW.region ?_
    refine RW.k XK 60 5 rfl ?_
    (conv=>whnf);refine ⟨rfl,?_⟩
    refine RW.keep 60 [0,1,5] rfl ?_;(conv=>whnf);refine ⟨?_⟩
    refine RW.pullT (k := 0) (l := 5) (j := 0) 0 5 0 rfl rfl rfl (by decide) rfl rfl rfl ?_
    refine RW.keep 60 [0,1] rfl ?_;(conv=>whnf);refine ⟨?_⟩
    refine RW.nil ?_
    refine CW.keep 60 [0,1] rfl ?_;(conv=>whnf);refine ⟨?_⟩
    refine CW.seq ?_
    refine CW.region ?_
    refine RW.k XK 60 1 rfl ?_
    (conv=>whnf);refine ⟨rfl,?_⟩
    refine RW.call rfl (impl_Decimal_fn n (okI_of (by omega) (by omega))) rfl (.cons (.one (.r .r)) (.nil)) fun g21 => ?_
    refine RW.v rfl (V.cat rfl rfl rfl (by have := itoa_len (n := n) (by omega) (by omega); simp only [maxLen, ByteArray.size_append]; first | omega | (show 5 + _ ≤ _; omega))) ?_
    refine RW.k XK 60 1 rfl ?_
    (conv=>whnf);refine ⟨rfl,?_⟩
    refine RW.nil ?_
    refine CW.keep 60 [0,4] rfl ?_;(conv=>whnf);refine ⟨?_⟩
    refine CW.ret ?_
    exact Post.one (RV.s rfl (by rfl)) (AOs.obE (f := fun e => (Keep.c e).map .w) (e' := (⟨((rest ++ ([(⟨n, 0, ⟨#[]⟩⟩ : Session)])).drop 1), k.items⟩ : Keep)) rfl (DT.w (DT.w DT.e)) (by first | exact open_cut (hP.fin0 h16 hii) h19 | exact open_no (hP.fin0 h16 hii) h19 | exact open_cut (hP.fin1 h16 hii) h23 | exact open_no (hP.fin1 h16 hii) h23) (AOs.r AOs.e))
   ·skip
    refine CW.skip ?_
    refine CW.keep 60 [0,1,5] rfl ?_;(conv=>whnf);refine ⟨?_⟩
    refine CW.seq ?_
    refine CW.region ?_
    refine RW.k XK 60 5 rfl ?_
    (conv=>whnf);refine ⟨rfl,?_⟩
    refine RW.keep 60 [0,1,5] rfl ?_;(conv=>whnf);refine ⟨?_⟩
    refine RW.pullT (k := 0) (l := 5) (j := 0) 0 5 0 rfl rfl rfl (by decide) rfl rfl rfl ?_
    refine RW.keep 60 [0,1] rfl ?_;(conv=>whnf);refine ⟨?_⟩
    refine RW.nil ?_
    refine CW.keep 60 [0,1] rfl ?_;(conv=>whnf);refine ⟨?_⟩
    refine CW.seq ?_
    refine CW.region ?_
    refine RW.k XK 60 1 rfl ?_
    (conv=>whnf);refine ⟨rfl,?_⟩
    refine RW.call rfl (impl_Decimal_fn n (okI_of (by omega) (by omega))) rfl (.cons (.one (.r .r)) (.nil)) fun g22 => ?_
    refine RW.v rfl (V.cat rfl rfl rfl (by have := itoa_len (n := n) (by omega) (by omega); simp only [maxLen, ByteArray.size_append]; first | omega | (show 5 + _ ≤ _; omega))) ?_
    refine RW.k XK 60 1 rfl ?_
    (conv=>whnf);refine ⟨rfl,?_⟩
    refine RW.nil ?_
    refine CW.keep 60 [0,4] rfl ?_;(conv=>whnf);refine ⟨?_⟩
    refine CW.ret ?_
    exact Post.one (RV.s rfl (by rfl)) (AOs.obE (f := fun e => (Keep.c e).map .w) (e' := (⟨(rest ++ ([(⟨n, 0, ⟨#[]⟩⟩ : Session)])), k.items⟩ : Keep)) rfl (DT.w (DT.w DT.e)) (by first | exact open_cut (hP.fin0 h16 hii) h19 | exact open_no (hP.fin0 h16 hii) h19 | exact open_cut (hP.fin1 h16 hii) h23 | exact open_no (hP.fin1 h16 hii) h23) (AOs.r AOs.e))
  ·skip
   refine CW.skip ?_
   refine CW.keep 60 [0,1,5] rfl ?_;(conv=>whnf);refine ⟨?_⟩
   refine CW.seq ?_
   refine CW.k XK 60 1 [0,1,5,50] rfl ?_
   (conv=>whnf);refine ⟨rfl,?_⟩
   refine CW.cond rfl (fun h23 => ?_) (fun h23 => ?_)
   ·skip
    have hgt := of_decide_eq_true h23
    refine CW.region ?_
    refine RW.k XK 60 1 rfl ?_
    (conv=>whnf);refine ⟨rfl,?_⟩
    refine RW.dropOwn (m := 1) rfl rfl rfl rfl rfl rfl rfl rfl rfl Session.len (by omega) (by decide) (Nat.le_of_ble_eq_true rfl) fun Y24 => ?_
    refine RW.assignMove rfl rfl rfl (by decide) (Nat.le_of_ble_eq_true rfl) (Nat.le_of_ble_eq_true rfl) ?_
    refine RW.nil ?_
    refine CW.keep 60 [0,1,5] rfl ?_;(conv=>whnf);refine ⟨?_⟩
    refine CW.seq ?_
    refine CW.region ?_
    refine RW.k XK 60 5 rfl ?_
    (conv=>whnf);refine ⟨rfl,?_⟩
    refine RW.keep 60 [0,1,5] rfl ?_;(conv=>whnf);refine ⟨?_⟩
    refine RW.pullT (k := 0) (l := 5) (j := 0) 0 5 0 rfl rfl rfl (by decide) rfl rfl rfl ?_
    refine RW.keep 60 [0,1] rfl ?_;(conv=>whnf);refine ⟨?_⟩
    refine RW.nil ?_
    refine CW.keep 60 [0,1] rfl ?_;(conv=>whnf);refine ⟨?_⟩
    refine CW.seq ?_
    refine CW.region ?_
    refine RW.k XK 60 1 rfl ?_
    (conv=>whnf);refine ⟨rfl,?_⟩
    refine RW.call rfl (impl_Decimal_fn n (okI_of (by omega) (by omega))) rfl (.cons (.one (.r .r)) (.nil)) fun g25 => ?_
    refine RW.v rfl (V.cat rfl rfl rfl (by have := itoa_len (n := n) (by omega) (by omega); simp only [maxLen, ByteArray.size_append]; first | omega | (show 5 + _ ≤ _; omega))) ?_
    refine RW.k XK 60 1 rfl ?_
    (conv=>whnf);refine ⟨rfl,?_⟩
    refine RW.nil ?_
    refine CW.keep 60 [0,4] rfl ?_;(conv=>whnf);refine ⟨?_⟩
    refine CW.ret ?_
    exact Post.one (RV.s rfl (by rfl)) (AOs.obE (f := fun e => (Keep.c e).map .w) (e' := (⟨(rest.drop 1), k.items⟩ : Keep)) rfl (DT.w (DT.w DT.e)) (by first | exact open_cut (hP.fin0 h16 hii) h19 | exact open_no (hP.fin0 h16 hii) h19 | exact open_cut (hP.fin1 h16 hii) h23 | exact open_no (hP.fin1 h16 hii) h23) (AOs.r AOs.e))
   ·skip
    refine CW.skip ?_
    refine CW.keep 60 [0,1,5] rfl ?_;(conv=>whnf);refine ⟨?_⟩
    refine CW.seq ?_
    refine CW.region ?_
    refine RW.k XK 60 5 rfl ?_
    (conv=>whnf);refine ⟨rfl,?_⟩
    refine RW.keep 60 [0,1,5] rfl ?_;(conv=>whnf);refine ⟨?_⟩
    refine RW.pullT (k := 0) (l := 5) (j := 0) 0 5 0 rfl rfl rfl (by decide) rfl rfl rfl ?_
    refine RW.keep 60 [0,1] rfl ?_;(conv=>whnf);refine ⟨?_⟩
    refine RW.nil ?_
    refine CW.keep 60 [0,1] rfl ?_;(conv=>whnf);refine ⟨?_⟩
    refine CW.seq ?_
    refine CW.region ?_
    refine RW.k XK 60 1 rfl ?_
    (conv=>whnf);refine ⟨rfl,?_⟩
    refine RW.call rfl (impl_Decimal_fn n (okI_of (by omega) (by omega))) rfl (.cons (.one (.r .r)) (.nil)) fun g26 => ?_
    refine RW.v rfl (V.cat rfl rfl rfl (by have := itoa_len (n := n) (by omega) (by omega); simp only [maxLen, ByteArray.size_append]; first | omega | (show 5 + _ ≤ _; omega))) ?_
    refine RW.k XK 60 1 rfl ?_
    (conv=>whnf);refine ⟨rfl,?_⟩
    refine RW.nil ?_
    refine CW.keep 60 [0,4] rfl ?_;(conv=>whnf);refine ⟨?_⟩
    refine CW.ret ?_
    exact Post.one (RV.s rfl (by rfl)) (AOs.obE (f := fun e => (Keep.c e).map .w) (e' := (⟨rest, k.items⟩ : Keep)) rfl (DT.w (DT.w DT.e)) (by first | exact open_cut (hP.fin0 h16 hii) h19 | exact open_no (hP.fin0 h16 hii) h19 | exact open_cut (hP.fin1 h16 hii) h23 | exact open_no (hP.fin1 h16 hii) h23) (AOs.r AOs.e))
set_option maxHeartbeats 4000000 in
theorem __impl_Keep__does_fn (k : Keep) (n : Int) (x : Command) (hok : okToKeep k) (hko : keepOk k = true) (hn : 1 ≤ n ∧ n ≤ 400000) : Eng.Fn E.P 55 [.ob ((Keep.c k).map .w), .one (.r (.v (.int .i64 n))), .agg ((Command.c x).map .r)] (.one (.one (.w (.v (.string ((doK k n x).2)))))) [.ob ((Keep.c ((doK k n x).1)).map .w), .one (.r (.v (.int .i64 n))), .agg ((Command.c x).map .r)] := by
 refine Eng.Fn.intro (E := E) (rvs := [.tmp 6]) Tryd.func55 rfl rfl rfl (by simp [outSlots, moved, rvSlot, sl]) ?_
 intro B g bo
 refine CW.keep 72 [0,1,2] rfl ?_;(conv=>whnf);refine ⟨?_⟩
 have hl1 : k.sessions.length ≤ maxLen := by have := hok.1.1; simp only [maxLen]; omega
 have hl2 : k.items.length ≤ maxLen := by have := hok.2.1; simp only [maxLen]; omega
 have hn1 := hn.1; have hn2 := hn.2
 refine CW.seq ?_
 refine CW.region ?_
 refine RW.k XK 72 1 rfl ?_
 (conv=>whnf);intro b1;(conv=>whnf);refine ⟨rfl,?_⟩
 refine RW.freezeB (ts := (Command.c x)) 5 rfl (DRd.r (DRd.r (DRd.r (DRd.r (DRd.r (DRd.r DRd.e)))))) ?_
 refine RW.k XK 72 1 rfl ?_
 (conv=>whnf);refine ⟨rfl,?_⟩
 refine RW.nil ?_
 refine CW.keep 72 [0,1,5] rfl ?_;(conv=>whnf);refine ⟨?_⟩
 refine CW.anyJ2 (fc := [(0, (bo 0), [(g 0 0), (g 0 1)])]) (L0 := [(0, .obj (bo 0) [.w (sl 3 Session.c k.sessions) (g 0 0), .w (sl 3 Item.c k.items) (g 0 1)]), (1, I n), (5, .rp (Command.c x))]) 72 (fun (zz : Nat × (Nat → Nat → Value)) => match zz with | (bo2_9_1, go2_5_1) => [(7, .obj bo2_9_1 ((Item.c ((itemOf k x.key).1)).map .r)), (8, Bo ((itemOf k x.key).2))]) (fun all hall f hf b0 hb K hK => ?_) ?_
 ·skip
  have ro2_13 : ∀ B, ∀ (bo2_9_1 : Nat), ∀ (go2_5_1 : Nat → Nat → Value), RA f E B all 0 (bt 12 4095) ⟨72, [(7, .obj bo2_9_1 ((Item.c ((itemOf k x.key).1)).map .r)), (8, Bo ((itemOf k x.key).2))] ++ b0⟩ K := by
   intro B bo2_9_1 go2_5_1
   exact RA.of2 hall hf hb (RA.finH (Tell.of rfl) (by kernel_rfl) (hK (bo2_9_1, go2_5_1) _ rfl (Le.of rfl)))
  have ro2_12 : ∀ B, ∀ (bo2_9_1 : Nat), ∀ (go2_5_1 : Nat → Nat → Value), RA f E B all 2 (bt 12 1791) ⟨72, [(7, .obj bo2_9_1 ((Item.c ((itemOf k x.key).1)).map .r)), (9, .tup [.u, Bo ((itemOf k x.key).2)])] ++ b0⟩ K := by
   intro B bo2_9_1 go2_5_1
   refine RA.of2 hall hf hb (RA.stepH (L := [8]) (Tell.of rfl) (by kernel_rfl) (by simp) (RA.each ?_ (RA.each0)))
   ·skip
    refine RO.extract (d := Bo ((itemOf k x.key).2)) rfl rfl rfl rfl rfl (by decide) (Nat.le_of_ble_eq_true rfl) rfl rfl ?_
    refine RA.fr XK 72 0 [11] (bt 12 4095) rfl rfl (by kernel_rfl) (Tell.of rfl) ?_
    (conv=>whnf);refine ⟨rfl,fun B=>?_⟩
    exact RA.to2 hall hf hb (ro2_13 B bo2_9_1 go2_5_1) rfl rfl (by kernel_rfl)
  have ro2_11 : ∀ B, ∀ (bo2_9_1 : Nat), ∀ (go2_5_1 : Nat → Nat → Value), RA f E B all 2 (bt 12 1023) ⟨72, [(7, .obj bo2_9_1 [S (⟨#[]⟩), S (⟨#[]⟩), I 0]), (16, .agg ((Item.c ((itemOf k x.key).1)).map .r)), (17, Bo ((itemOf k x.key).2))] ++ b0⟩ K := by
   intro B bo2_9_1 go2_5_1
   refine RA.of2 hall hf hb (RA.stepH (L := [10]) (Tell.of rfl) (by kernel_rfl) (by simp) (RA.each ?_ (RA.each0)))
   ·skip
    refine RO.storeAgg (es := ((Item.c ((itemOf k x.key).1)).map .r)) rfl rfl rfl rfl rfl rfl rfl rfl rfl rfl (Nat.le_of_ble_eq_true rfl) rfl ?_
    refine RA.fr XK 72 0 [11] (bt 12 4095) rfl rfl (by kernel_rfl) (Tell.of rfl) ?_
    (conv=>whnf);refine ⟨rfl,fun B=>?_⟩
    exact RA.to2 hall hf hb (ro2_13 B bo2_9_1 go2_5_1) rfl rfl (by kernel_rfl)
  have ro2_10 : ∀ B, ∀ (bo2_9_1 : Nat), ∀ (go2_5_1 : Nat → Nat → Value), RA f E B all 3 (bt 12 895) ⟨72, [(7, .obj bo2_9_1 [S (⟨#[]⟩), S (⟨#[]⟩), I 0]), (9, .tup [.agg ((Item.c ((itemOf k x.key).1)).map .r), .u]), (17, Bo ((itemOf k x.key).2))] ++ b0⟩ K := by
   intro B bo2_9_1 go2_5_1
   refine RA.of2 hall hf hb (RA.stepH (L := [7]) (Tell.of rfl) (by kernel_rfl) (by simp) (RA.each ?_ (RA.each0)))
   ·skip
    refine RO.extract (d := .agg ((Item.c ((itemOf k x.key).1)).map .r)) rfl rfl rfl rfl rfl (by decide) (Nat.le_of_ble_eq_true rfl) rfl rfl ?_
    exact RA.to2 hall hf hb (ro2_11 B bo2_9_1 go2_5_1) rfl rfl (by kernel_rfl)
  have ro2_9 : ∀ B, ∀ (bo2_9_1 : Nat), ∀ (go2_5_1 : Nat → Nat → Value), RA f E B all 3 (bt 12 767) ⟨72, [(7, .obj bo2_9_1 [S (⟨#[]⟩), S (⟨#[]⟩), I 0]), (9, .tup [.u, Bo ((itemOf k x.key).2)]), (16, .agg ((Item.c ((itemOf k x.key).1)).map .r))] ++ b0⟩ K := by
   intro B bo2_9_1 go2_5_1
   refine RA.of2 hall hf hb (RA.stepH (L := [8, 10]) (Tell.of rfl) (by kernel_rfl) (by simp) (RA.each ?_ (RA.each ?_ (RA.each0))))
   ·skip
    refine RO.extract (d := Bo ((itemOf k x.key).2)) rfl rfl rfl rfl rfl (by decide) (Nat.le_of_ble_eq_true rfl) rfl rfl ?_
    exact RA.to2 hall hf hb (ro2_11 B bo2_9_1 go2_5_1) rfl rfl (by kernel_rfl)
   ·skip
    refine RO.storeAgg (es := ((Item.c ((itemOf k x.key).1)).map .r)) rfl rfl rfl rfl rfl rfl rfl rfl rfl rfl (Nat.le_of_ble_eq_true rfl) rfl ?_
    exact RA.to2 hall hf hb (ro2_12 B bo2_9_1 go2_5_1) rfl rfl (by kernel_rfl)
  have ro2_8 : ∀ B, ∀ (go2_5_1 : Nat → Nat → Value), RA f E B all 3 (bt 12 511) ⟨72, [(16, .agg ((Item.c ((itemOf k x.key).1)).map .r)), (17, Bo ((itemOf k x.key).2))] ++ b0⟩ K := by
   intro B go2_5_1
   refine RA.of2 hall hf hb (RA.stepH (L := [9]) (Tell.of rfl) (by kernel_rfl) (by simp) (RA.each ?_ (RA.each0)))
   ·skip
    refine RO.alloc (ds := [S (⟨#[]⟩), S (⟨#[]⟩), I 0]) rfl rfl rfl rfl rfl rfl fun bo2_9_1 => ?_
    exact RA.to2 hall hf hb (ro2_11 B bo2_9_1 go2_5_1) rfl rfl (by kernel_rfl)
  have ro2_7 : ∀ B, ∀ (bo2_9_1 : Nat), ∀ (go2_5_1 : Nat → Nat → Value), RA f E B all 4 (bt 12 639) ⟨72, [(7, .obj bo2_9_1 [S (⟨#[]⟩), S (⟨#[]⟩), I 0]), (9, .tup [.agg ((Item.c ((itemOf k x.key).1)).map .r), Bo ((itemOf k x.key).2)])] ++ b0⟩ K := by
   intro B bo2_9_1 go2_5_1
   refine RA.of2 hall hf hb (RA.stepH (L := [7, 8]) (Tell.of rfl) (by kernel_rfl) (by simp) (RA.each ?_ (RA.each ?_ (RA.each0))))
   ·skip
    refine RO.extract (d := .agg ((Item.c ((itemOf k x.key).1)).map .r)) rfl rfl rfl rfl rfl (by decide) (Nat.le_of_ble_eq_true rfl) rfl rfl ?_
    exact RA.to2 hall hf hb (ro2_9 B bo2_9_1 go2_5_1) rfl rfl (by kernel_rfl)
   ·skip
    refine RO.extract (d := Bo ((itemOf k x.key).2)) rfl rfl rfl rfl rfl (by decide) (Nat.le_of_ble_eq_true rfl) rfl rfl ?_
    exact RA.to2 hall hf hb (ro2_10 B bo2_9_1 go2_5_1) rfl rfl (by kernel_rfl)
  have ro2_6 : ∀ B, ∀ (go2_5_1 : Nat → Nat → Value), RA f E B all 4 (bt 12 383) ⟨72, [(9, .tup [.agg ((Item.c ((itemOf k x.key).1)).map .r), .u]), (17, Bo ((itemOf k x.key).2))] ++ b0⟩ K := by
   intro B go2_5_1
   refine RA.of2 hall hf hb (RA.stepH (L := [7, 9]) (Tell.of rfl) (by kernel_rfl) (by simp) (RA.each ?_ (RA.each ?_ (RA.each0))))
   ·skip
    refine RO.extract (d := .agg ((Item.c ((itemOf k x.key).1)).map .r)) rfl rfl rfl rfl rfl (by decide) (Nat.le_of_ble_eq_true rfl) rfl rfl ?_
    exact RA.to2 hall hf hb (ro2_8 B go2_5_1) rfl rfl (by kernel_rfl)
   ·skip
    refine RO.alloc (ds := [S (⟨#[]⟩), S (⟨#[]⟩), I 0]) rfl rfl rfl rfl rfl rfl fun bo2_9_1 => ?_
    exact RA.to2 hall hf hb (ro2_10 B bo2_9_1 go2_5_1) rfl rfl (by kernel_rfl)
  have ro2_5 : ∀ B, ∀ (go2_5_1 : Nat → Nat → Value), RA f E B all 4 (bt 12 255) ⟨72, [(9, .tup [.u, Bo ((itemOf k x.key).2)]), (16, .agg ((Item.c ((itemOf k x.key).1)).map .r))] ++ b0⟩ K := by
   intro B go2_5_1
   refine RA.of2 hall hf hb (RA.stepH (L := [8, 9]) (Tell.of rfl) (by kernel_rfl) (by simp) (RA.each ?_ (RA.each ?_ (RA.each0))))
   ·skip
    refine RO.extract (d := Bo ((itemOf k x.key).2)) rfl rfl rfl rfl rfl (by decide) (Nat.le_of_ble_eq_true rfl) rfl rfl ?_
    exact RA.to2 hall hf hb (ro2_8 B go2_5_1) rfl rfl (by kernel_rfl)
   ·skip
    refine RO.alloc (ds := [S (⟨#[]⟩), S (⟨#[]⟩), I 0]) rfl rfl rfl rfl rfl rfl fun bo2_9_1 => ?_
    exact RA.to2 hall hf hb (ro2_9 B bo2_9_1 go2_5_1) rfl rfl (by kernel_rfl)
  have ro2_4 : ∀ B, ∀ (bo2_9_1 : Nat), ∀ (go2_5_1 : Nat → Nat → Value), RA f E B all 5 (bt 12 575) ⟨72, [(7, .obj bo2_9_1 [S (⟨#[]⟩), S (⟨#[]⟩), I 0]), (15, .tup [.agg ((Item.c ((itemOf k x.key).1)).map .r), Bo ((itemOf k x.key).2)])] ++ b0⟩ K := by
   intro B bo2_9_1 go2_5_1
   refine RA.of2 hall hf hb (RA.stepH (L := [6]) (Tell.of rfl) (by kernel_rfl) (by simp) (RA.each ?_ (RA.each0)))
   ·skip
    refine RO.moveMove rfl rfl rfl rfl rfl (by decide) (Nat.le_of_ble_eq_true rfl) (Nat.le_of_ble_eq_true rfl) ?_
    exact RA.to2 hall hf hb (ro2_7 B bo2_9_1 go2_5_1) rfl rfl (by kernel_rfl)
  have ro2_3 : ∀ B, ∀ (go2_5_1 : Nat → Nat → Value), RA f E B all 5 (bt 12 127) ⟨72, [(9, .tup [.agg ((Item.c ((itemOf k x.key).1)).map .r), Bo ((itemOf k x.key).2)])] ++ b0⟩ K := by
   intro B go2_5_1
   refine RA.of2 hall hf hb (RA.stepH (L := [7, 8, 9]) (Tell.of rfl) (by kernel_rfl) (by simp) (RA.each ?_ (RA.each ?_ (RA.each ?_ (RA.each0)))))
   ·skip
    refine RO.extract (d := .agg ((Item.c ((itemOf k x.key).1)).map .r)) rfl rfl rfl rfl rfl (by decide) (Nat.le_of_ble_eq_true rfl) rfl rfl ?_
    exact RA.to2 hall hf hb (ro2_5 B go2_5_1) rfl rfl (by kernel_rfl)
   ·skip
    refine RO.extract (d := Bo ((itemOf k x.key).2)) rfl rfl rfl rfl rfl (by decide) (Nat.le_of_ble_eq_true rfl) rfl rfl ?_
    exact RA.to2 hall hf hb (ro2_6 B go2_5_1) rfl rfl (by kernel_rfl)
   ·skip
    refine RO.alloc (ds := [S (⟨#[]⟩), S (⟨#[]⟩), I 0]) rfl rfl rfl rfl rfl rfl fun bo2_9_1 => ?_
    exact RA.to2 hall hf hb (ro2_7 B bo2_9_1 go2_5_1) rfl rfl (by kernel_rfl)
  have ro2_2 : ∀ B, ∀ (bo2_9_1 : Nat), RA f E B all 6 (bt 12 543) ⟨72, [(7, .obj bo2_9_1 [S (⟨#[]⟩), S (⟨#[]⟩), I 0]), (12, .agg [.al 0 (some 0) 3 k.sessions.length (g 0 0) 0, .al 0 (some 1) 3 k.items.length (g 0 1) 0]), (14, S x.key)] ++ b0⟩ K := by
   intro B bo2_9_1
   refine RA.of2 hall hf hb (RA.stepH (L := [5]) (Tell.of rfl) (by kernel_rfl) (by simp) (RA.each ?_ (RA.each0)))
   ·skip
    refine RO.callOwn rfl rfl (impl_ItemOf_fn k x.key hok) rfl (.cons (.agg (.cons (.r (.alo (k := none) (i := 0) (j := 0) (sz := 3) (V := (g 0 0)) rfl rfl rfl nofun)) (.cons (.r (.alo (k := none) (i := 0) (j := 1) (sz := 3) (V := (g 0 1)) rfl rfl rfl nofun)) (.nil)))) (.cons (.one (.r .r)) (.nil))) rfl rfl fun go2_5_1 => ?_
    exact RA.to2 hall hf hb (ro2_4 B bo2_9_1 go2_5_1) rfl rfl (by kernel_rfl)
  have ro2_1 : ∀ B, ∀ (go2_5_1 : Nat → Nat → Value), RA f E B all 6 (bt 12 63) ⟨72, [(15, .tup [.agg ((Item.c ((itemOf k x.key).1)).map .r), Bo ((itemOf k x.key).2)])] ++ b0⟩ K := by
   intro B go2_5_1
   refine RA.of2 hall hf hb (RA.stepH (L := [6, 9]) (Tell.of rfl) (by kernel_rfl) (by simp) (RA.each ?_ (RA.each ?_ (RA.each0))))
   ·skip
    refine RO.moveMove rfl rfl rfl rfl rfl (by decide) (Nat.le_of_ble_eq_true rfl) (Nat.le_of_ble_eq_true rfl) ?_
    exact RA.to2 hall hf hb (ro2_3 B go2_5_1) rfl rfl (by kernel_rfl)
   ·skip
    refine RO.alloc (ds := [S (⟨#[]⟩), S (⟨#[]⟩), I 0]) rfl rfl rfl rfl rfl rfl fun bo2_9_1 => ?_
    exact RA.to2 hall hf hb (ro2_4 B bo2_9_1 go2_5_1) rfl rfl (by kernel_rfl)
  have ro2_0 : ∀ B, RA f E B all 7 (bt 12 31) ⟨72, [(12, .agg [.al 0 (some 0) 3 k.sessions.length (g 0 0) 0, .al 0 (some 1) 3 k.items.length (g 0 1) 0]), (14, S x.key)] ++ b0⟩ K := by
   intro B
   refine RA.of2 hall hf hb (RA.stepH (L := [5, 9]) (Tell.of rfl) (by kernel_rfl) (by simp) (RA.each ?_ (RA.each ?_ (RA.each0))))
   ·skip
    refine RO.callOwn rfl rfl (impl_ItemOf_fn k x.key hok) rfl (.cons (.agg (.cons (.r (.alo (k := none) (i := 0) (j := 0) (sz := 3) (V := (g 0 0)) rfl rfl rfl nofun)) (.cons (.r (.alo (k := none) (i := 0) (j := 1) (sz := 3) (V := (g 0 1)) rfl rfl rfl nofun)) (.nil)))) (.cons (.one (.r .r)) (.nil))) rfl rfl fun go2_5_1 => ?_
    exact RA.to2 hall hf hb (ro2_1 B go2_5_1) rfl rfl (by kernel_rfl)
   ·skip
    refine RO.alloc (ds := [S (⟨#[]⟩), S (⟨#[]⟩), I 0]) rfl rfl rfl rfl rfl rfl fun bo2_9_1 => ?_
    exact RA.to2 hall hf hb (ro2_2 B bo2_9_1) rfl rfl (by kernel_rfl)
  refine RA.start (by kernel_rfl) (by kernel_rfl) (m := 12) (ls' := (bt 12 0)) ?_
  refine RA.fr XK 72 7 [0,1,2,3,4] (bt 12 31) rfl rfl (by kernel_rfl) (Tell.of rfl) ?_
  (conv=>whnf);refine ⟨rfl,fun B=>?_⟩
  exact RA.to2 hall hf hb (ro2_0 B) rfl rfl (by kernel_rfl)
 ·rintro ⟨bo2_9_1, go2_5_1⟩
  refine CW.seq ?_
  refine CW.k XK 72 1 [0,1,5,7,8,19] rfl ?_
  (conv=>whnf);refine ⟨rfl,?_⟩
  refine CW.block ?_
  refine CW.k XK 72 1 [0,1,5,7,8,19,20] rfl ?_
  (conv=>whnf);refine ⟨rfl,?_⟩
  refine CW.cond rfl (fun h3 => ?_) (fun h3 => ?_)
  ·skip
   refine CW.seq ?_
   refine CW.k XK 72 1 [0,7,22] rfl ?_
   (conv=>whnf);refine ⟨rfl,?_⟩
   refine CW.cond rfl (fun h4 => ?_) (fun h4 => ?_)
   ·skip
    refine CW.anyJ2 (fc := [(0, (bo 0), [(g 0 0), (g 0 1)]), (7, bo2_9_1, [.string (((itemOf k x.key).1).key), .string (((itemOf k x.key).1).val), .int .i64 (((itemOf k x.key).1).ver)])]) (L0 := [(0, .obj (bo 0) [.w (sl 3 Session.c k.sessions) (g 0 0), .w (sl 3 Item.c k.items) (g 0 1)]), (7, .obj bo2_9_1 ((Item.c ((itemOf k x.key).1)).map .r))]) 72 (fun (go5_2_1 : (Nat → Nat → Value)) => [(6, S ((((⟨#[105, 115, 32]⟩ : ByteArray) ++ (itoaB (((itemOf k x.key).1).ver))) ++ (⟨#[32]⟩ : ByteArray)) ++ (((itemOf k x.key).1).val)))]) (fun all hall f hf b0 hb K hK => ?_) ?_
    ·skip
     have ro5_1 : ∀ B, ∀ (go5_2_1 : Nat → Nat → Value), RA f E B all 0 (bt 9 511) ⟨72, [(6, S ((((⟨#[105, 115, 32]⟩ : ByteArray) ++ (itoaB (((itemOf k x.key).1).ver))) ++ (⟨#[32]⟩ : ByteArray)) ++ (((itemOf k x.key).1).val)))] ++ b0⟩ K := by
      intro B go5_2_1
      exact RA.of2 hall hf hb (RA.finH (Tell.of rfl) (by kernel_rfl) (hK go5_2_1 _ rfl (Le.of rfl)))
     have ro5_0 : ∀ B, RA f E B all 5 (bt 9 99) ⟨72, [(24, I (((itemOf k x.key).1).ver)), (29, S (((itemOf k x.key).1).val))] ++ b0⟩ K := by
      intro B
      refine RA.of2 hall hf hb (RA.stepH (L := [2]) (Tell.of rfl) (by kernel_rfl) (by simp) (RA.each ?_ (RA.each0)))
      ·skip
       refine RO.call rfl rfl (impl_Decimal_fn (((itemOf k x.key).1).ver) (by first | exact okI_of (by omega) (by omega) | (have h9 := item_in (key := x.key) hko (by first | assumption | simp_all); have h91 := h9.n1; have h92 := h9.n9; exact okI_of (by omega) (by omega)))) rfl (.cons (.one (.r .r)) (.nil)) rfl fun go5_2_1 => ?_
       refine RA.first (i := 3) (ls' := (bt 9 111)) (Tell.of rfl) (by kernel_rfl) rfl rfl rfl (VF.p (V.cat rfl rfl rfl (by have c1 := itoa_len (n := n) (by omega) (by omega); have c3 : (⟨#[32]⟩ : ByteArray).size = 1 := rfl; have c4 : (⟨#[105, 115, 32]⟩ : ByteArray).size = 3 := rfl; have c5 : (⟨#[110, 111, 116, 32]⟩ : ByteArray).size = 4 := rfl; have c6 : (⟨#[112, 117, 116, 32]⟩ : ByteArray).size = 4 := rfl; simp only [maxLen, ByteArray.size_append, c3, c4, c5, c6]; first | omega | (have h9 := item_in (key := x.key) hko (by first | assumption | simp_all); have h93 := h9.len; have h94 := h9.v; omega)))) ?_
       refine RA.first (i := 4) (ls' := (bt 9 127)) (Tell.of rfl) (by kernel_rfl) rfl rfl rfl (VF.p (V.cat rfl rfl rfl (by have c1 := itoa_len (n := n) (by omega) (by omega); have c3 : (⟨#[32]⟩ : ByteArray).size = 1 := rfl; have c4 : (⟨#[105, 115, 32]⟩ : ByteArray).size = 3 := rfl; have c5 : (⟨#[110, 111, 116, 32]⟩ : ByteArray).size = 4 := rfl; have c6 : (⟨#[112, 117, 116, 32]⟩ : ByteArray).size = 4 := rfl; simp only [maxLen, ByteArray.size_append, c3, c4, c5, c6]; first | omega | (have h9 := item_in (key := x.key) hko (by first | assumption | simp_all); have h93 := h9.len; have h94 := h9.v; omega)))) ?_
       refine RA.first (i := 7) (ls' := (bt 9 255)) (Tell.of rfl) (by kernel_rfl) rfl rfl rfl (VF.p (V.cat rfl rfl rfl (by have c1 := itoa_len (n := n) (by omega) (by omega); have c3 : (⟨#[32]⟩ : ByteArray).size = 1 := rfl; have c4 : (⟨#[105, 115, 32]⟩ : ByteArray).size = 3 := rfl; have c5 : (⟨#[110, 111, 116, 32]⟩ : ByteArray).size = 4 := rfl; have c6 : (⟨#[112, 117, 116, 32]⟩ : ByteArray).size = 4 := rfl; simp only [maxLen, ByteArray.size_append, c3, c4, c5, c6]; first | omega | (have h9 := item_in (key := x.key) hko (by first | assumption | simp_all); have h93 := h9.len; have h94 := h9.v; omega)))) ?_
       refine RA.fr XK 72 0 [8] (bt 9 511) rfl rfl (by kernel_rfl) (Tell.of rfl) ?_
       (conv=>whnf);refine ⟨rfl,fun B=>?_⟩
       exact RA.to2 hall hf hb (ro5_1 B go5_2_1) rfl rfl (by kernel_rfl)
     refine RA.start (by kernel_rfl) (by kernel_rfl) (m := 9) (ls' := (bt 9 0)) ?_
     refine RA.fr XK 72 5 [0,1,5,6] (bt 9 99) rfl rfl (by kernel_rfl) (Tell.of rfl) ?_
     (conv=>whnf);refine ⟨rfl,fun B=>?_⟩
     exact RA.to2 hall hf hb (ro5_0 B) rfl rfl (by kernel_rfl)
    ·rintro go5_2_1
     refine CW.ret ?_
     exact Post.one (RV.s rfl (by first | (rw [do_get1 (by assumption) (by assumption)] <;> rfl) | (rw [do_get0 (by assumption) (by assumption)] <;> rfl) | (rw [do_drop1 (by assumption) (by assumption) (by assumption)] <;> rfl) | (rw [do_drop0 (by assumption) (by assumption) (by assumption)] <;> rfl) | (rw [do_swap0 (by assumption) (by assumption) (by assumption) (by assumption)] <;> rfl) | (rw [do_swapN (by assumption) (by assumption) (by assumption) (by assumption) (by assumption)] <;> rfl) | (rw [do_full (by assumption) (by assumption) (by first | exact .inl (by assumption) | exact .inr ⟨by assumption, by assumption⟩) (hv16.symm.trans h17)] <;> rfl) | (rw [do_putI (by assumption) (by assumption) (by first | exact .inl (by assumption) | exact .inr ⟨by assumption, by assumption⟩) (hv16.symm.trans h17)] <;> rfl) | (rw [do_full (by assumption) (by assumption) (by first | exact .inl (by assumption) | exact .inr ⟨by assumption, by assumption⟩) (hv23.symm.trans h24)] <;> rfl) | (rw [do_putI (by assumption) (by assumption) (by first | exact .inl (by assumption) | exact .inr ⟨by assumption, by assumption⟩) (hv23.symm.trans h24)] <;> rfl))) (AOs.obE (f := fun e => (Keep.c e).map .w) (e' := k) rfl (DT.w (DT.w DT.e)) (by first | (rw [do_get1 (by assumption) (by assumption)] <;> rfl) | (rw [do_get0 (by assumption) (by assumption)] <;> rfl) | (rw [do_drop1 (by assumption) (by assumption) (by assumption)] <;> rfl) | (rw [do_drop0 (by assumption) (by assumption) (by assumption)] <;> rfl) | (rw [do_swap0 (by assumption) (by assumption) (by assumption) (by assumption)] <;> rfl) | (rw [do_swapN (by assumption) (by assumption) (by assumption) (by assumption) (by assumption)] <;> rfl) | (rw [do_full (by assumption) (by assumption) (by first | exact .inl (by assumption) | exact .inr ⟨by assumption, by assumption⟩) (hv16.symm.trans h17)] <;> rfl) | (rw [do_putI (by assumption) (by assumption) (by first | exact .inl (by assumption) | exact .inr ⟨by assumption, by assumption⟩) (hv16.symm.trans h17)] <;> rfl) | (rw [do_full (by assumption) (by assumption) (by first | exact .inl (by assumption) | exact .inr ⟨by assumption, by assumption⟩) (hv23.symm.trans h24)] <;> rfl) | (rw [do_putI (by assumption) (by assumption) (by first | exact .inl (by assumption) | exact .inr ⟨by assumption, by assumption⟩) (hv23.symm.trans h24)] <;> rfl)) (AOs.r (AOs.a rfl AOs.e)))
   ·skip
    refine CW.skip ?_
    refine CW.keep 72 [0] rfl ?_;(conv=>whnf);refine ⟨?_⟩
    refine CW.k XK 72 1 [0,6] rfl ?_
    (conv=>whnf);refine ⟨rfl,?_⟩
    refine CW.ret ?_
    exact Post.one (RV.s rfl (by first | (rw [do_get1 (by assumption) (by assumption)] <;> rfl) | (rw [do_get0 (by assumption) (by assumption)] <;> rfl) | (rw [do_drop1 (by assumption) (by assumption) (by assumption)] <;> rfl) | (rw [do_drop0 (by assumption) (by assumption) (by assumption)] <;> rfl) | (rw [do_swap0 (by assumption) (by assumption) (by assumption) (by assumption)] <;> rfl) | (rw [do_swapN (by assumption) (by assumption) (by assumption) (by assumption) (by assumption)] <;> rfl) | (rw [do_full (by assumption) (by assumption) (by first | exact .inl (by assumption) | exact .inr ⟨by assumption, by assumption⟩) (hv16.symm.trans h17)] <;> rfl) | (rw [do_putI (by assumption) (by assumption) (by first | exact .inl (by assumption) | exact .inr ⟨by assumption, by assumption⟩) (hv16.symm.trans h17)] <;> rfl) | (rw [do_full (by assumption) (by assumption) (by first | exact .inl (by assumption) | exact .inr ⟨by assumption, by assumption⟩) (hv23.symm.trans h24)] <;> rfl) | (rw [do_putI (by assumption) (by assumption) (by first | exact .inl (by assumption) | exact .inr ⟨by assumption, by assumption⟩) (hv23.symm.trans h24)] <;> rfl))) (AOs.obE (f := fun e => (Keep.c e).map .w) (e' := k) rfl (DT.w (DT.w DT.e)) (by first | (rw [do_get1 (by assumption) (by assumption)] <;> rfl) | (rw [do_get0 (by assumption) (by assumption)] <;> rfl) | (rw [do_drop1 (by assumption) (by assumption) (by assumption)] <;> rfl) | (rw [do_drop0 (by assumption) (by assumption) (by assumption)] <;> rfl) | (rw [do_swap0 (by assumption) (by assumption) (by assumption) (by assumption)] <;> rfl) | (rw [do_swapN (by assumption) (by assumption) (by assumption) (by assumption) (by assumption)] <;> rfl) | (rw [do_full (by assumption) (by assumption) (by first | exact .inl (by assumption) | exact .inr ⟨by assumption, by assumption⟩) (hv16.symm.trans h17)] <;> rfl) | (rw [do_putI (by assumption) (by assumption) (by first | exact .inl (by assumption) | exact .inr ⟨by assumption, by assumption⟩) (hv16.symm.trans h17)] <;> rfl) | (rw [do_full (by assumption) (by assumption) (by first | exact .inl (by assumption) | exact .inr ⟨by assumption, by assumption⟩) (hv23.symm.trans h24)] <;> rfl) | (rw [do_putI (by assumption) (by assumption) (by first | exact .inl (by assumption) | exact .inr ⟨by assumption, by assumption⟩) (hv23.symm.trans h24)] <;> rfl)) (AOs.r (AOs.a rfl AOs.e)))
  ·skip
   refine CW.k XK 72 1 [0,1,5,7,8,19,31] rfl ?_
   (conv=>whnf);refine ⟨rfl,?_⟩
   refine CW.cond rfl (fun h6 => ?_) (fun h6 => ?_)
   ·skip
    refine CW.seq ?_
    refine CW.region ?_
    refine RW.k XK 72 3 rfl ?_
    (conv=>whnf);refine ⟨rfl,?_⟩
    refine RW.callW (k := 0) (__impl_Keep__without_fn k x.key hok) rfl rfl (Nat.le_of_ble_eq_true rfl) (by decide) (.here (AsW.ob (DT.w (DT.w DT.e)) rfl) (.cons (.one (.r .r)) (.nil))) rfl fun g7 q8 => ?_
    refine RW.nil ?_
    refine CW.keep 72 [0,8] rfl ?_;(conv=>whnf);refine ⟨?_⟩
    refine CW.seq ?_
    refine CW.k XK 72 1 [0,37] rfl ?_
    (conv=>whnf);refine ⟨rfl,?_⟩
    refine CW.cond rfl (fun h9 => ?_) (fun h9 => ?_)
    ·skip
     refine CW.k XK 72 1 [0,6] rfl ?_
     (conv=>whnf);refine ⟨rfl,?_⟩
     refine CW.ret ?_
     exact Post.one (RV.s rfl (by first | (rw [do_get1 (by assumption) (by assumption)] <;> rfl) | (rw [do_get0 (by assumption) (by assumption)] <;> rfl) | (rw [do_drop1 (by assumption) (by assumption) (by assumption)] <;> rfl) | (rw [do_drop0 (by assumption) (by assumption) (by assumption)] <;> rfl) | (rw [do_swap0 (by assumption) (by assumption) (by assumption) (by assumption)] <;> rfl) | (rw [do_swapN (by assumption) (by assumption) (by assumption) (by assumption) (by assumption)] <;> rfl) | (rw [do_full (by assumption) (by assumption) (by first | exact .inl (by assumption) | exact .inr ⟨by assumption, by assumption⟩) (hv16.symm.trans h17)] <;> rfl) | (rw [do_putI (by assumption) (by assumption) (by first | exact .inl (by assumption) | exact .inr ⟨by assumption, by assumption⟩) (hv16.symm.trans h17)] <;> rfl) | (rw [do_full (by assumption) (by assumption) (by first | exact .inl (by assumption) | exact .inr ⟨by assumption, by assumption⟩) (hv23.symm.trans h24)] <;> rfl) | (rw [do_putI (by assumption) (by assumption) (by first | exact .inl (by assumption) | exact .inr ⟨by assumption, by assumption⟩) (hv23.symm.trans h24)] <;> rfl))) (AOs.obE (f := fun e => (Keep.c e).map .w) (e' := (withoutK k x.key)) rfl (DT.w (DT.w DT.e)) (by first | (rw [do_get1 (by assumption) (by assumption)] <;> rfl) | (rw [do_get0 (by assumption) (by assumption)] <;> rfl) | (rw [do_drop1 (by assumption) (by assumption) (by assumption)] <;> rfl) | (rw [do_drop0 (by assumption) (by assumption) (by assumption)] <;> rfl) | (rw [do_swap0 (by assumption) (by assumption) (by assumption) (by assumption)] <;> rfl) | (rw [do_swapN (by assumption) (by assumption) (by assumption) (by assumption) (by assumption)] <;> rfl) | (rw [do_full (by assumption) (by assumption) (by first | exact .inl (by assumption) | exact .inr ⟨by assumption, by assumption⟩) (hv16.symm.trans h17)] <;> rfl) | (rw [do_putI (by assumption) (by assumption) (by first | exact .inl (by assumption) | exact .inr ⟨by assumption, by assumption⟩) (hv16.symm.trans h17)] <;> rfl) | (rw [do_full (by assumption) (by assumption) (by first | exact .inl (by assumption) | exact .inr ⟨by assumption, by assumption⟩) (hv23.symm.trans h24)] <;> rfl) | (rw [do_putI (by assumption) (by assumption) (by first | exact .inl (by assumption) | exact .inr ⟨by assumption, by assumption⟩) (hv23.symm.trans h24)] <;> rfl)) (AOs.r (AOs.a rfl AOs.e)))
    ·skip
     refine CW.skip ?_
     refine CW.keep 72 [0] rfl ?_;(conv=>whnf);refine ⟨?_⟩
     refine CW.k XK 72 1 [0,6] rfl ?_
     (conv=>whnf);refine ⟨rfl,?_⟩
     refine CW.ret ?_
     exact Post.one (RV.s rfl (by first | (rw [do_get1 (by assumption) (by assumption)] <;> rfl) | (rw [do_get0 (by assumption) (by assumption)] <;> rfl) | (rw [do_drop1 (by assumption) (by assumption) (by assumption)] <;> rfl) | (rw [do_drop0 (by assumption) (by assumption) (by assumption)] <;> rfl) | (rw [do_swap0 (by assumption) (by assumption) (by assumption) (by assumption)] <;> rfl) | (rw [do_swapN (by assumption) (by assumption) (by assumption) (by assumption) (by assumption)] <;> rfl) | (rw [do_full (by assumption) (by assumption) (by first | exact .inl (by assumption) | exact .inr ⟨by assumption, by assumption⟩) (hv16.symm.trans h17)] <;> rfl) | (rw [do_putI (by assumption) (by assumption) (by first | exact .inl (by assumption) | exact .inr ⟨by assumption, by assumption⟩) (hv16.symm.trans h17)] <;> rfl) | (rw [do_full (by assumption) (by assumption) (by first | exact .inl (by assumption) | exact .inr ⟨by assumption, by assumption⟩) (hv23.symm.trans h24)] <;> rfl) | (rw [do_putI (by assumption) (by assumption) (by first | exact .inl (by assumption) | exact .inr ⟨by assumption, by assumption⟩) (hv23.symm.trans h24)] <;> rfl))) (AOs.obE (f := fun e => (Keep.c e).map .w) (e' := (withoutK k x.key)) rfl (DT.w (DT.w DT.e)) (by first | (rw [do_get1 (by assumption) (by assumption)] <;> rfl) | (rw [do_get0 (by assumption) (by assumption)] <;> rfl) | (rw [do_drop1 (by assumption) (by assumption) (by assumption)] <;> rfl) | (rw [do_drop0 (by assumption) (by assumption) (by assumption)] <;> rfl) | (rw [do_swap0 (by assumption) (by assumption) (by assumption) (by assumption)] <;> rfl) | (rw [do_swapN (by assumption) (by assumption) (by assumption) (by assumption) (by assumption)] <;> rfl) | (rw [do_full (by assumption) (by assumption) (by first | exact .inl (by assumption) | exact .inr ⟨by assumption, by assumption⟩) (hv16.symm.trans h17)] <;> rfl) | (rw [do_putI (by assumption) (by assumption) (by first | exact .inl (by assumption) | exact .inr ⟨by assumption, by assumption⟩) (hv16.symm.trans h17)] <;> rfl) | (rw [do_full (by assumption) (by assumption) (by first | exact .inl (by assumption) | exact .inr ⟨by assumption, by assumption⟩) (hv23.symm.trans h24)] <;> rfl) | (rw [do_putI (by assumption) (by assumption) (by first | exact .inl (by assumption) | exact .inr ⟨by assumption, by assumption⟩) (hv23.symm.trans h24)] <;> rfl)) (AOs.r (AOs.a rfl AOs.e)))
   ·skip
    refine CW.k XK 72 1 [0,1,5,7,8,38] rfl ?_
    (conv=>whnf);refine ⟨rfl,?_⟩
    refine CW.cond rfl (fun h10 => ?_) (fun h10 => ?_)
    ·skip
     refine CW.seq ?_
     refine CW.k XK 72 1 [0,1,5,7,8,41] rfl ?_
     (conv=>whnf);refine ⟨rfl,?_⟩
     refine CW.cond rfl (fun h11 => ?_) (fun h11 => ?_)
     ·skip
      refine CW.k XK 72 1 [0,6] rfl ?_
      (conv=>whnf);refine ⟨rfl,?_⟩
      refine CW.ret ?_
      exact Post.one (RV.s rfl (by first | (rw [do_get1 (by assumption) (by assumption)] <;> rfl) | (rw [do_get0 (by assumption) (by assumption)] <;> rfl) | (rw [do_drop1 (by assumption) (by assumption) (by assumption)] <;> rfl) | (rw [do_drop0 (by assumption) (by assumption) (by assumption)] <;> rfl) | (rw [do_swap0 (by assumption) (by assumption) (by assumption) (by assumption)] <;> rfl) | (rw [do_swapN (by assumption) (by assumption) (by assumption) (by assumption) (by assumption)] <;> rfl) | (rw [do_full (by assumption) (by assumption) (by first | exact .inl (by assumption) | exact .inr ⟨by assumption, by assumption⟩) (hv16.symm.trans h17)] <;> rfl) | (rw [do_putI (by assumption) (by assumption) (by first | exact .inl (by assumption) | exact .inr ⟨by assumption, by assumption⟩) (hv16.symm.trans h17)] <;> rfl) | (rw [do_full (by assumption) (by assumption) (by first | exact .inl (by assumption) | exact .inr ⟨by assumption, by assumption⟩) (hv23.symm.trans h24)] <;> rfl) | (rw [do_putI (by assumption) (by assumption) (by first | exact .inl (by assumption) | exact .inr ⟨by assumption, by assumption⟩) (hv23.symm.trans h24)] <;> rfl))) (AOs.obE (f := fun e => (Keep.c e).map .w) (e' := k) rfl (DT.w (DT.w DT.e)) (by first | (rw [do_get1 (by assumption) (by assumption)] <;> rfl) | (rw [do_get0 (by assumption) (by assumption)] <;> rfl) | (rw [do_drop1 (by assumption) (by assumption) (by assumption)] <;> rfl) | (rw [do_drop0 (by assumption) (by assumption) (by assumption)] <;> rfl) | (rw [do_swap0 (by assumption) (by assumption) (by assumption) (by assumption)] <;> rfl) | (rw [do_swapN (by assumption) (by assumption) (by assumption) (by assumption) (by assumption)] <;> rfl) | (rw [do_full (by assumption) (by assumption) (by first | exact .inl (by assumption) | exact .inr ⟨by assumption, by assumption⟩) (hv16.symm.trans h17)] <;> rfl) | (rw [do_putI (by assumption) (by assumption) (by first | exact .inl (by assumption) | exact .inr ⟨by assumption, by assumption⟩) (hv16.symm.trans h17)] <;> rfl) | (rw [do_full (by assumption) (by assumption) (by first | exact .inl (by assumption) | exact .inr ⟨by assumption, by assumption⟩) (hv23.symm.trans h24)] <;> rfl) | (rw [do_putI (by assumption) (by assumption) (by first | exact .inl (by assumption) | exact .inr ⟨by assumption, by assumption⟩) (hv23.symm.trans h24)] <;> rfl)) (AOs.r (AOs.a rfl AOs.e)))
     ·skip
      refine CW.skip ?_
      refine CW.keep 72 [0,1,5,7,8] rfl ?_;(conv=>whnf);refine ⟨?_⟩
      refine CW.k XK 72 1 [0,1,5,7,8,46] rfl ?_
      (conv=>whnf);refine ⟨rfl,?_⟩
      refine CW.cond rfl (fun h12 => ?_) (fun h12 => ?_)
      ·skip
       refine CW.seq ?_
       refine CW.region ?_
       refine RW.k XK 72 2 rfl ?_
       (conv=>whnf);refine ⟨rfl,?_⟩
       refine RW.call rfl (impl_Decimal_fn (((itemOf k x.key).1).ver) (by first | exact okI_of (by omega) (by omega) | (have h9 := item_in (key := x.key) hko (by first | assumption | simp_all); have h91 := h9.n1; have h92 := h9.n9; exact okI_of (by omega) (by omega)))) rfl (.cons (.one (.r .r)) (.nil)) fun g13 => ?_
       refine RW.v rfl (V.cat rfl rfl rfl (by have c1 := itoa_len (n := n) (by omega) (by omega); have c3 : (⟨#[32]⟩ : ByteArray).size = 1 := rfl; have c4 : (⟨#[105, 115, 32]⟩ : ByteArray).size = 3 := rfl; have c5 : (⟨#[110, 111, 116, 32]⟩ : ByteArray).size = 4 := rfl; have c6 : (⟨#[112, 117, 116, 32]⟩ : ByteArray).size = 4 := rfl; simp only [maxLen, ByteArray.size_append, c3, c4, c5, c6]; first | omega | (have h9 := item_in (key := x.key) hko (by first | assumption | simp_all); have h93 := h9.len; have h94 := h9.v; omega))) ?_
       refine RW.k XK 72 1 rfl ?_
       (conv=>whnf);refine ⟨rfl,?_⟩
       refine RW.nil ?_
       refine CW.keep 72 [0,6] rfl ?_;(conv=>whnf);refine ⟨?_⟩
       refine CW.ret ?_
       exact Post.one (RV.s rfl (by first | (rw [do_get1 (by assumption) (by assumption)] <;> rfl) | (rw [do_get0 (by assumption) (by assumption)] <;> rfl) | (rw [do_drop1 (by assumption) (by assumption) (by assumption)] <;> rfl) | (rw [do_drop0 (by assumption) (by assumption) (by assumption)] <;> rfl) | (rw [do_swap0 (by assumption) (by assumption) (by assumption) (by assumption)] <;> rfl) | (rw [do_swapN (by assumption) (by assumption) (by assumption) (by assumption) (by assumption)] <;> rfl) | (rw [do_full (by assumption) (by assumption) (by first | exact .inl (by assumption) | exact .inr ⟨by assumption, by assumption⟩) (hv16.symm.trans h17)] <;> rfl) | (rw [do_putI (by assumption) (by assumption) (by first | exact .inl (by assumption) | exact .inr ⟨by assumption, by assumption⟩) (hv16.symm.trans h17)] <;> rfl) | (rw [do_full (by assumption) (by assumption) (by first | exact .inl (by assumption) | exact .inr ⟨by assumption, by assumption⟩) (hv23.symm.trans h24)] <;> rfl) | (rw [do_putI (by assumption) (by assumption) (by first | exact .inl (by assumption) | exact .inr ⟨by assumption, by assumption⟩) (hv23.symm.trans h24)] <;> rfl))) (AOs.obE (f := fun e => (Keep.c e).map .w) (e' := k) rfl (DT.w (DT.w DT.e)) (by first | (rw [do_get1 (by assumption) (by assumption)] <;> rfl) | (rw [do_get0 (by assumption) (by assumption)] <;> rfl) | (rw [do_drop1 (by assumption) (by assumption) (by assumption)] <;> rfl) | (rw [do_drop0 (by assumption) (by assumption) (by assumption)] <;> rfl) | (rw [do_swap0 (by assumption) (by assumption) (by assumption) (by assumption)] <;> rfl) | (rw [do_swapN (by assumption) (by assumption) (by assumption) (by assumption) (by assumption)] <;> rfl) | (rw [do_full (by assumption) (by assumption) (by first | exact .inl (by assumption) | exact .inr ⟨by assumption, by assumption⟩) (hv16.symm.trans h17)] <;> rfl) | (rw [do_putI (by assumption) (by assumption) (by first | exact .inl (by assumption) | exact .inr ⟨by assumption, by assumption⟩) (hv16.symm.trans h17)] <;> rfl) | (rw [do_full (by assumption) (by assumption) (by first | exact .inl (by assumption) | exact .inr ⟨by assumption, by assumption⟩) (hv23.symm.trans h24)] <;> rfl) | (rw [do_putI (by assumption) (by assumption) (by first | exact .inl (by assumption) | exact .inr ⟨by assumption, by assumption⟩) (hv23.symm.trans h24)] <;> rfl)) (AOs.r (AOs.a rfl AOs.e)))
      ·skip
       refine CW.skip ?_
       refine CW.keep 72 [0,1,5,8] rfl ?_;(conv=>whnf);refine ⟨?_⟩
       refine CW.seq ?_
       refine CW.seqJ 72 (fun (v14 : Bool) => [(0, .obj (bo 0) [.w (sl 3 Session.c k.sessions) (g 0 0), .w (sl 3 Item.c k.items) (g 0 1)]), (1, I n), (5, .rp (Command.c x)), (60, Bo v14)]) (fun v14 => v14 = ((!((itemOf k x.key).2)) && ((k.items.length : Int) == 8))) ?_ ?_
       ·refine CW.region ?_
        refine RW.k XK 72 3 rfl ?_
        (conv=>whnf);refine ⟨rfl,?_⟩
        refine RW.gv rfl rfl rfl rfl (fun h15 => V.mv (d := .pt 0 (bo 0) 0) rfl rfl) (fun h15 => ?_) (fun h15 => ?_)
        ·skip
         refine RW.k XK 72 6 rfl ?_
         (conv=>whnf);refine ⟨rfl,?_⟩
         refine RW.nil ?_
         exact ⟨_, by first | rfl | (simp_all; done) | (simp_all; omega) | grind, rfl, Le.of rfl⟩
        ·skip
         refine RW.k XK 72 6 rfl ?_
         (conv=>whnf);refine ⟨rfl,?_⟩
         refine RW.nil ?_
         exact ⟨_, by first | rfl | (simp_all; done) | (simp_all; omega) | grind, rfl, Le.of rfl⟩
       ·intro v14 hv16
        refine CW.cond rfl (fun h17 => ?_) (fun h17 => ?_)
        ·skip
         refine CW.k XK 72 1 [0,6] rfl ?_
         (conv=>whnf);refine ⟨rfl,?_⟩
         refine CW.ret ?_
         exact Post.one (RV.s rfl (by first | (rw [do_get1 (by assumption) (by assumption)] <;> rfl) | (rw [do_get0 (by assumption) (by assumption)] <;> rfl) | (rw [do_drop1 (by assumption) (by assumption) (by assumption)] <;> rfl) | (rw [do_drop0 (by assumption) (by assumption) (by assumption)] <;> rfl) | (rw [do_swap0 (by assumption) (by assumption) (by assumption) (by assumption)] <;> rfl) | (rw [do_swapN (by assumption) (by assumption) (by assumption) (by assumption) (by assumption)] <;> rfl) | (rw [do_full (by assumption) (by assumption) (by first | exact .inl (by assumption) | exact .inr ⟨by assumption, by assumption⟩) (hv16.symm.trans h17)] <;> rfl) | (rw [do_putI (by assumption) (by assumption) (by first | exact .inl (by assumption) | exact .inr ⟨by assumption, by assumption⟩) (hv16.symm.trans h17)] <;> rfl) | (rw [do_full (by assumption) (by assumption) (by first | exact .inl (by assumption) | exact .inr ⟨by assumption, by assumption⟩) (hv23.symm.trans h24)] <;> rfl) | (rw [do_putI (by assumption) (by assumption) (by first | exact .inl (by assumption) | exact .inr ⟨by assumption, by assumption⟩) (hv23.symm.trans h24)] <;> rfl))) (AOs.obE (f := fun e => (Keep.c e).map .w) (e' := k) rfl (DT.w (DT.w DT.e)) (by first | (rw [do_get1 (by assumption) (by assumption)] <;> rfl) | (rw [do_get0 (by assumption) (by assumption)] <;> rfl) | (rw [do_drop1 (by assumption) (by assumption) (by assumption)] <;> rfl) | (rw [do_drop0 (by assumption) (by assumption) (by assumption)] <;> rfl) | (rw [do_swap0 (by assumption) (by assumption) (by assumption) (by assumption)] <;> rfl) | (rw [do_swapN (by assumption) (by assumption) (by assumption) (by assumption) (by assumption)] <;> rfl) | (rw [do_full (by assumption) (by assumption) (by first | exact .inl (by assumption) | exact .inr ⟨by assumption, by assumption⟩) (hv16.symm.trans h17)] <;> rfl) | (rw [do_putI (by assumption) (by assumption) (by first | exact .inl (by assumption) | exact .inr ⟨by assumption, by assumption⟩) (hv16.symm.trans h17)] <;> rfl) | (rw [do_full (by assumption) (by assumption) (by first | exact .inl (by assumption) | exact .inr ⟨by assumption, by assumption⟩) (hv23.symm.trans h24)] <;> rfl) | (rw [do_putI (by assumption) (by assumption) (by first | exact .inl (by assumption) | exact .inr ⟨by assumption, by assumption⟩) (hv23.symm.trans h24)] <;> rfl)) (AOs.r (AOs.a rfl AOs.e)))
        ·skip
         refine CW.skip ?_
         refine CW.keep 72 [0,1,5] rfl ?_;(conv=>whnf);refine ⟨?_⟩
         refine CW.seq ?_
         refine CW.region ?_
         refine RW.k XK 72 7 rfl ?_
         (conv=>whnf);refine ⟨rfl,?_⟩
         refine RW.callW (k := 0) (__impl_Keep__put_fn k (⟨x.key, x.val, n⟩ : Item) hok) rfl rfl (Nat.le_of_ble_eq_true rfl) (by decide) (.here (AsW.ob (DT.w (DT.w DT.e)) rfl) (.cons (.agg (.cons (.r .r) (.cons (.r .r) (.cons (.r .r) (.nil))))) (.nil))) rfl fun g18 q19 => ?_
         refine RW.nil ?_
         refine CW.keep 72 [0,1] rfl ?_;(conv=>whnf);refine ⟨?_⟩
         refine CW.seq ?_
         refine CW.region ?_
         refine RW.k XK 72 1 rfl ?_
         (conv=>whnf);refine ⟨rfl,?_⟩
         refine RW.call rfl (impl_Decimal_fn n (by first | exact okI_of (by omega) (by omega) | (have h9 := item_in (key := x.key) hko (by first | assumption | simp_all); have h91 := h9.n1; have h92 := h9.n9; exact okI_of (by omega) (by omega)))) rfl (.cons (.one (.r .r)) (.nil)) fun g20 => ?_
         refine RW.v rfl (V.cat rfl rfl rfl (by have c1 := itoa_len (n := n) (by omega) (by omega); have c3 : (⟨#[32]⟩ : ByteArray).size = 1 := rfl; have c4 : (⟨#[105, 115, 32]⟩ : ByteArray).size = 3 := rfl; have c5 : (⟨#[110, 111, 116, 32]⟩ : ByteArray).size = 4 := rfl; have c6 : (⟨#[112, 117, 116, 32]⟩ : ByteArray).size = 4 := rfl; simp only [maxLen, ByteArray.size_append, c3, c4, c5, c6]; first | omega | (have h9 := item_in (key := x.key) hko (by first | assumption | simp_all); have h93 := h9.len; have h94 := h9.v; omega))) ?_
         refine RW.k XK 72 1 rfl ?_
         (conv=>whnf);refine ⟨rfl,?_⟩
         refine RW.nil ?_
         refine CW.keep 72 [0,6] rfl ?_;(conv=>whnf);refine ⟨?_⟩
         refine CW.ret ?_
         exact Post.one (RV.s rfl (by first | (rw [do_get1 (by assumption) (by assumption)] <;> rfl) | (rw [do_get0 (by assumption) (by assumption)] <;> rfl) | (rw [do_drop1 (by assumption) (by assumption) (by assumption)] <;> rfl) | (rw [do_drop0 (by assumption) (by assumption) (by assumption)] <;> rfl) | (rw [do_swap0 (by assumption) (by assumption) (by assumption) (by assumption)] <;> rfl) | (rw [do_swapN (by assumption) (by assumption) (by assumption) (by assumption) (by assumption)] <;> rfl) | (rw [do_full (by assumption) (by assumption) (by first | exact .inl (by assumption) | exact .inr ⟨by assumption, by assumption⟩) (hv16.symm.trans h17)] <;> rfl) | (rw [do_putI (by assumption) (by assumption) (by first | exact .inl (by assumption) | exact .inr ⟨by assumption, by assumption⟩) (hv16.symm.trans h17)] <;> rfl) | (rw [do_full (by assumption) (by assumption) (by first | exact .inl (by assumption) | exact .inr ⟨by assumption, by assumption⟩) (hv23.symm.trans h24)] <;> rfl) | (rw [do_putI (by assumption) (by assumption) (by first | exact .inl (by assumption) | exact .inr ⟨by assumption, by assumption⟩) (hv23.symm.trans h24)] <;> rfl))) (AOs.obE (f := fun e => (Keep.c e).map .w) (e' := (putK k (⟨x.key, x.val, n⟩ : Item))) rfl (DT.w (DT.w DT.e)) (by first | (rw [do_get1 (by assumption) (by assumption)] <;> rfl) | (rw [do_get0 (by assumption) (by assumption)] <;> rfl) | (rw [do_drop1 (by assumption) (by assumption) (by assumption)] <;> rfl) | (rw [do_drop0 (by assumption) (by assumption) (by assumption)] <;> rfl) | (rw [do_swap0 (by assumption) (by assumption) (by assumption) (by assumption)] <;> rfl) | (rw [do_swapN (by assumption) (by assumption) (by assumption) (by assumption) (by assumption)] <;> rfl) | (rw [do_full (by assumption) (by assumption) (by first | exact .inl (by assumption) | exact .inr ⟨by assumption, by assumption⟩) (hv16.symm.trans h17)] <;> rfl) | (rw [do_putI (by assumption) (by assumption) (by first | exact .inl (by assumption) | exact .inr ⟨by assumption, by assumption⟩) (hv16.symm.trans h17)] <;> rfl) | (rw [do_full (by assumption) (by assumption) (by first | exact .inl (by assumption) | exact .inr ⟨by assumption, by assumption⟩) (hv23.symm.trans h24)] <;> rfl) | (rw [do_putI (by assumption) (by assumption) (by first | exact .inl (by assumption) | exact .inr ⟨by assumption, by assumption⟩) (hv23.symm.trans h24)] <;> rfl)) (AOs.r (AOs.a rfl AOs.e)))
    ·skip
     refine CW.skip ?_
     refine CW.keep 72 [0,1,5,8] rfl ?_;(conv=>whnf);refine ⟨?_⟩
     refine CW.seq ?_
     refine CW.seqJ 72 (fun (v21 : Bool) => [(0, .obj (bo 0) [.w (sl 3 Session.c k.sessions) (g 0 0), .w (sl 3 Item.c k.items) (g 0 1)]), (1, I n), (5, .rp (Command.c x)), (60, Bo v21)]) (fun v21 => v21 = ((!((itemOf k x.key).2)) && ((k.items.length : Int) == 8))) ?_ ?_
     ·refine CW.region ?_
      refine RW.k XK 72 3 rfl ?_
      (conv=>whnf);refine ⟨rfl,?_⟩
      refine RW.gv rfl rfl rfl rfl (fun h22 => V.mv (d := .pt 0 (bo 0) 0) rfl rfl) (fun h22 => ?_) (fun h22 => ?_)
      ·skip
       refine RW.k XK 72 6 rfl ?_
       (conv=>whnf);refine ⟨rfl,?_⟩
       refine RW.nil ?_
       exact ⟨_, by first | rfl | (simp_all; done) | (simp_all; omega) | grind, rfl, Le.of rfl⟩
      ·skip
       refine RW.k XK 72 6 rfl ?_
       (conv=>whnf);refine ⟨rfl,?_⟩
       refine RW.nil ?_
       exact ⟨_, by first | rfl | (simp_all; done) | (simp_all; omega) | grind, rfl, Le.of rfl⟩
     ·intro v21 hv23
      refine CW.cond rfl (fun h24 => ?_) (fun h24 => ?_)
      ·skip
       refine CW.k XK 72 1 [0,6] rfl ?_
       (conv=>whnf);refine ⟨rfl,?_⟩
       refine CW.ret ?_
       exact Post.one (RV.s rfl (by first | (rw [do_get1 (by assumption) (by assumption)] <;> rfl) | (rw [do_get0 (by assumption) (by assumption)] <;> rfl) | (rw [do_drop1 (by assumption) (by assumption) (by assumption)] <;> rfl) | (rw [do_drop0 (by assumption) (by assumption) (by assumption)] <;> rfl) | (rw [do_swap0 (by assumption) (by assumption) (by assumption) (by assumption)] <;> rfl) | (rw [do_swapN (by assumption) (by assumption) (by assumption) (by assumption) (by assumption)] <;> rfl) | (rw [do_full (by assumption) (by assumption) (by first | exact .inl (by assumption) | exact .inr ⟨by assumption, by assumption⟩) (hv16.symm.trans h17)] <;> rfl) | (rw [do_putI (by assumption) (by assumption) (by first | exact .inl (by assumption) | exact .inr ⟨by assumption, by assumption⟩) (hv16.symm.trans h17)] <;> rfl) | (rw [do_full (by assumption) (by assumption) (by first | exact .inl (by assumption) | exact .inr ⟨by assumption, by assumption⟩) (hv23.symm.trans h24)] <;> rfl) | (rw [do_putI (by assumption) (by assumption) (by first | exact .inl (by assumption) | exact .inr ⟨by assumption, by assumption⟩) (hv23.symm.trans h24)] <;> rfl))) (AOs.obE (f := fun e => (Keep.c e).map .w) (e' := k) rfl (DT.w (DT.w DT.e)) (by first | (rw [do_get1 (by assumption) (by assumption)] <;> rfl) | (rw [do_get0 (by assumption) (by assumption)] <;> rfl) | (rw [do_drop1 (by assumption) (by assumption) (by assumption)] <;> rfl) | (rw [do_drop0 (by assumption) (by assumption) (by assumption)] <;> rfl) | (rw [do_swap0 (by assumption) (by assumption) (by assumption) (by assumption)] <;> rfl) | (rw [do_swapN (by assumption) (by assumption) (by assumption) (by assumption) (by assumption)] <;> rfl) | (rw [do_full (by assumption) (by assumption) (by first | exact .inl (by assumption) | exact .inr ⟨by assumption, by assumption⟩) (hv16.symm.trans h17)] <;> rfl) | (rw [do_putI (by assumption) (by assumption) (by first | exact .inl (by assumption) | exact .inr ⟨by assumption, by assumption⟩) (hv16.symm.trans h17)] <;> rfl) | (rw [do_full (by assumption) (by assumption) (by first | exact .inl (by assumption) | exact .inr ⟨by assumption, by assumption⟩) (hv23.symm.trans h24)] <;> rfl) | (rw [do_putI (by assumption) (by assumption) (by first | exact .inl (by assumption) | exact .inr ⟨by assumption, by assumption⟩) (hv23.symm.trans h24)] <;> rfl)) (AOs.r (AOs.a rfl AOs.e)))
      ·skip
       refine CW.skip ?_
       refine CW.keep 72 [0,1,5] rfl ?_;(conv=>whnf);refine ⟨?_⟩
       refine CW.seq ?_
       refine CW.region ?_
       refine RW.k XK 72 7 rfl ?_
       (conv=>whnf);refine ⟨rfl,?_⟩
       refine RW.callW (k := 0) (__impl_Keep__put_fn k (⟨x.key, x.val, n⟩ : Item) hok) rfl rfl (Nat.le_of_ble_eq_true rfl) (by decide) (.here (AsW.ob (DT.w (DT.w DT.e)) rfl) (.cons (.agg (.cons (.r .r) (.cons (.r .r) (.cons (.r .r) (.nil))))) (.nil))) rfl fun g25 q26 => ?_
       refine RW.nil ?_
       refine CW.keep 72 [0,1] rfl ?_;(conv=>whnf);refine ⟨?_⟩
       refine CW.seq ?_
       refine CW.region ?_
       refine RW.k XK 72 1 rfl ?_
       (conv=>whnf);refine ⟨rfl,?_⟩
       refine RW.call rfl (impl_Decimal_fn n (by first | exact okI_of (by omega) (by omega) | (have h9 := item_in (key := x.key) hko (by first | assumption | simp_all); have h91 := h9.n1; have h92 := h9.n9; exact okI_of (by omega) (by omega)))) rfl (.cons (.one (.r .r)) (.nil)) fun g27 => ?_
       refine RW.v rfl (V.cat rfl rfl rfl (by have c1 := itoa_len (n := n) (by omega) (by omega); have c3 : (⟨#[32]⟩ : ByteArray).size = 1 := rfl; have c4 : (⟨#[105, 115, 32]⟩ : ByteArray).size = 3 := rfl; have c5 : (⟨#[110, 111, 116, 32]⟩ : ByteArray).size = 4 := rfl; have c6 : (⟨#[112, 117, 116, 32]⟩ : ByteArray).size = 4 := rfl; simp only [maxLen, ByteArray.size_append, c3, c4, c5, c6]; first | omega | (have h9 := item_in (key := x.key) hko (by first | assumption | simp_all); have h93 := h9.len; have h94 := h9.v; omega))) ?_
       refine RW.k XK 72 1 rfl ?_
       (conv=>whnf);refine ⟨rfl,?_⟩
       refine RW.nil ?_
       refine CW.keep 72 [0,6] rfl ?_;(conv=>whnf);refine ⟨?_⟩
       refine CW.ret ?_
       exact Post.one (RV.s rfl (by first | (rw [do_get1 (by assumption) (by assumption)] <;> rfl) | (rw [do_get0 (by assumption) (by assumption)] <;> rfl) | (rw [do_drop1 (by assumption) (by assumption) (by assumption)] <;> rfl) | (rw [do_drop0 (by assumption) (by assumption) (by assumption)] <;> rfl) | (rw [do_swap0 (by assumption) (by assumption) (by assumption) (by assumption)] <;> rfl) | (rw [do_swapN (by assumption) (by assumption) (by assumption) (by assumption) (by assumption)] <;> rfl) | (rw [do_full (by assumption) (by assumption) (by first | exact .inl (by assumption) | exact .inr ⟨by assumption, by assumption⟩) (hv16.symm.trans h17)] <;> rfl) | (rw [do_putI (by assumption) (by assumption) (by first | exact .inl (by assumption) | exact .inr ⟨by assumption, by assumption⟩) (hv16.symm.trans h17)] <;> rfl) | (rw [do_full (by assumption) (by assumption) (by first | exact .inl (by assumption) | exact .inr ⟨by assumption, by assumption⟩) (hv23.symm.trans h24)] <;> rfl) | (rw [do_putI (by assumption) (by assumption) (by first | exact .inl (by assumption) | exact .inr ⟨by assumption, by assumption⟩) (hv23.symm.trans h24)] <;> rfl))) (AOs.obE (f := fun e => (Keep.c e).map .w) (e' := (putK k (⟨x.key, x.val, n⟩ : Item))) rfl (DT.w (DT.w DT.e)) (by first | (rw [do_get1 (by assumption) (by assumption)] <;> rfl) | (rw [do_get0 (by assumption) (by assumption)] <;> rfl) | (rw [do_drop1 (by assumption) (by assumption) (by assumption)] <;> rfl) | (rw [do_drop0 (by assumption) (by assumption) (by assumption)] <;> rfl) | (rw [do_swap0 (by assumption) (by assumption) (by assumption) (by assumption)] <;> rfl) | (rw [do_swapN (by assumption) (by assumption) (by assumption) (by assumption) (by assumption)] <;> rfl) | (rw [do_full (by assumption) (by assumption) (by first | exact .inl (by assumption) | exact .inr ⟨by assumption, by assumption⟩) (hv16.symm.trans h17)] <;> rfl) | (rw [do_putI (by assumption) (by assumption) (by first | exact .inl (by assumption) | exact .inr ⟨by assumption, by assumption⟩) (hv16.symm.trans h17)] <;> rfl) | (rw [do_full (by assumption) (by assumption) (by first | exact .inl (by assumption) | exact .inr ⟨by assumption, by assumption⟩) (hv23.symm.trans h24)] <;> rfl) | (rw [do_putI (by assumption) (by assumption) (by first | exact .inl (by assumption) | exact .inr ⟨by assumption, by assumption⟩) (hv23.symm.trans h24)] <;> rfl)) (AOs.r (AOs.a rfl AOs.e)))
set_option maxHeartbeats 4000000 in
theorem spec_l01Figure_fn (d : Int) (hd : d < 10) : Eng.Fn E.P 72 [.one (.r (.v (.int .i64 d)))] (.one (.one (.w (.v (.int .u8 (IntKind.u8.wrap (IntKind.i64.wrap (48 + d)))))))) [.one (.r (.v (.int .i64 d)))] := by
 refine Eng.Fn.intro (E := E) (rvs := [.tmp 2]) Tryd.func72 rfl rfl rfl (by simp [outSlots, moved, rvSlot, sl]) ?_
 intro B g bo
 refine CW.keep 12 [0] rfl ?_;(conv=>whnf);refine ⟨?_⟩
 refine CW.k XK 12 1 [0] rfl ?_
 (conv=>whnf);refine ⟨rfl,?_⟩
 refine CW.seq ?_
 refine CW.k XK 12 1 [0,4] rfl ?_
 (conv=>whnf);refine ⟨rfl,?_⟩
 refine CW.cond rfl (fun h1 => ?_) (fun h1 => ?_)
 ·skip
  refine CW.k XK 12 1 [2] rfl ?_
  (conv=>whnf);refine ⟨rfl,?_⟩
  refine CW.ret ?_
  exact Post.one (RV.v rfl (by rfl)) (AOs.r AOs.e)
 ·skip
  refine CW.skip ?_
  refine CW.keep 12 [0] rfl ?_;(conv=>whnf);refine ⟨?_⟩
  refine CW.k XK 12 1 [2] rfl ?_
  (conv=>whnf);refine ⟨rfl,?_⟩
  refine CW.ret ?_
  exact Post.one (RV.v rfl (by exfalso; simp at h1; omega)) (AOs.r AOs.e)
set_option maxHeartbeats 4000000 in
theorem spec_Decimal_fn (n : Int) (hn : 0 ≤ n ∧ n ≤ 9223372036854775807) : Eng.Fn E.P 37 [.one (.r (.v (.int .i64 n)))] (.one (.one (.w (.v (.string (itoaB n)))))) [.one (.r (.v (.int .i64 n)))] := by
 refine Eng.Fn.intro (E := E) (rvs := [.tmp 2]) Tryd.func37 rfl rfl rfl (by simp [outSlots, moved, rvSlot, sl]) ?_
 intro B g bo
 refine CW.keep 30 [0] rfl ?_;(conv=>whnf);refine ⟨?_⟩
 refine CW.k XK 30 1 [0] rfl ?_
 (conv=>whnf);refine ⟨rfl,?_⟩
 refine CW.seq ?_
 refine CW.k XK 30 1 [0,7] rfl ?_
 (conv=>whnf);refine ⟨rfl,?_⟩
 refine CW.cond rfl (fun h1 => ?_) (fun h1 => ?_)
 ·skip
  refine CW.k XK 30 1 [2] rfl ?_
  (conv=>whnf);refine ⟨rfl,?_⟩
  refine CW.ret ?_
  exact Post.one (RV.s rfl (by rw [show n = 0 by simpa using h1]; exact itoa_zero.symm)) (AOs.r AOs.e)
 ·skip
  refine CW.skip ?_
  refine CW.keep 30 [0] rfl ?_;(conv=>whnf);refine ⟨?_⟩
  refine CW.k XK 30 2 [0,3,4] rfl ?_
  (conv=>whnf);refine ⟨rfl,?_⟩
  refine CW.seq ?_
  refine CW.block ?_
  refine CW.loopI 30 (fun (zz : Int × ByteArray) => match zz with | (m, s) => [(0, I m), (3, Bo (decide (n < 0))), (4, S s)]) (fun (zz : Int × ByteArray) => match zz with | (m, s) => 0 ≤ m ∧ s.size ≤ 60 ∧ m * 10 ^ s.size ≤ 9223372036854775807 ∧ dgs m.toNat s = dgs n.toNat ⟨#[]⟩) (fun (zz : Int × ByteArray) => match zz with | (m, s) => m.toNat) (_, _) rfl (Le.c rfl <| Le.c rfl <| Le.c rfl <| Le.e) ⟨hn.1, by decide, by show n * 10 ^ 0 ≤ _; omega, rfl⟩ ?_
  rintro ⟨m, s⟩ ⟨h0, hs, hp, hr⟩
  refine CW.seq ?_
  refine CW.k XK 30 1 [0,3,4,11] rfl ?_
  (conv=>whnf);refine ⟨rfl,?_⟩
  refine CW.cond rfl (fun h2 => ?_) (fun h2 => ?_)
  ·skip
   have h2p : decide (m > 0) = true := by simp at h2 ⊢; omega
   refine CW.skip ?_
   refine CW.keep 30 [0,3,4] rfl ?_;(conv=>whnf);refine ⟨?_⟩
   refine CW.block ?_
   refine CW.k XK 30 1 [0,3,4,5] rfl ?_
   (conv=>whnf);refine ⟨rfl,?_⟩
   refine CW.seq ?_
   refine CW.k XK 30 1 [0,3,4,5,15] rfl ?_
   (conv=>whnf);refine ⟨rfl,?_⟩
   refine CW.cond rfl (fun h3 => ?_) (fun h3 => ?_)
   ·skip
    exact absurd (Int.tmod_nonneg 10 h0) (by simpa using h3)
   ·skip
    refine CW.skip ?_
    refine CW.keep 30 [0,3,4,5] rfl ?_;(conv=>whnf);refine ⟨?_⟩
    refine CW.seq ?_
    refine CW.region ?_
    refine RW.k XK 30 1 rfl ?_
    (conv=>whnf);refine ⟨rfl,?_⟩
    refine RW.call rfl (spec_l01Figure_fn (Int.tmod m 10) (Int.tmod_lt_of_pos m (by omega))) rfl (.cons (.one (.r .r)) (.nil)) fun g4 => ?_
    refine RW.build1c (c := cU) (v := (IntKind.u8.wrap (IntKind.i64.wrap (48 + (Int.tmod m 10))))) (u := .v (.int .u8 (IntKind.u8.wrap (IntKind.i64.wrap (48 + (Int.tmod m 10)))))) rfl rfl rfl rfl rfl rfl (.inl rfl) rfl rfl fun X5 => ?_
    refine RW.v rfl (V.bytesStr (l := [(IntKind.u8.wrap (IntKind.i64.wrap (48 + (Int.tmod m 10))))]) rfl rfl rfl (by kernel_rfl) (by kernel_rfl) (.al (k := none) (i := 20) (sz := 1) (V := X5) rfl rfl nofun)) ?_
    refine RW.k XK 30 1 rfl ?_
    (conv=>whnf);refine ⟨rfl,?_⟩
    refine RW.v rfl (V.cat rfl rfl rfl (by simp only [bytesOf_one, maxLen]; first | omega | (show 1 + s.size ≤ _; omega))) ?_
    refine RW.k XK 30 1 rfl ?_
    (conv=>whnf);refine ⟨rfl,?_⟩
    refine RW.nil ?_
    refine CW.keep 30 [0,3,4] rfl ?_;(conv=>whnf);refine ⟨?_⟩
    refine CW.region ?_
    refine RW.k XK 30 3 rfl ?_
    (conv=>whnf);refine ⟨rfl,?_⟩
    refine RW.nil ?_
    exact ⟨(_, _), by have := mt_dec h0 hp h2p; simp only []; omega, mt_step h0 hp hr h2p, rfl, Le.c rfl <| Le.c rfl <| Le.c rfl <| Le.e⟩
  ·skip
   refine CW.exit ?_
   refine CW.keep 30 [3,4] rfl ?_;(conv=>whnf);refine ⟨?_⟩
   refine CW.seq ?_
   refine CW.k XK 30 1 [4,26] rfl ?_
   (conv=>whnf);refine ⟨rfl,?_⟩
   refine CW.cond rfl (fun h6 => ?_) (fun h6 => ?_)
   ·skip
    refine CW.seq ?_
    refine CW.region ?_
    refine RW.k XK 30 1 rfl ?_
    (conv=>whnf);refine ⟨rfl,?_⟩
    refine RW.v rfl (V.cat rfl rfl rfl (by simp only [bytesOf_one, maxLen]; first | omega | (show 1 + s.size ≤ _; omega))) ?_
    refine RW.k XK 30 1 rfl ?_
    (conv=>whnf);refine ⟨rfl,?_⟩
    refine RW.nil ?_
    refine CW.keep 30 [2] rfl ?_;(conv=>whnf);refine ⟨?_⟩
    refine CW.ret ?_
    exact Post.one (RV.s rfl (by exfalso; simp_all; omega)) (AOs.r AOs.e)
   ·skip
    refine CW.skip ?_
    refine CW.keep 30 [4] rfl ?_;(conv=>whnf);refine ⟨?_⟩
    refine CW.k XK 30 1 [2] rfl ?_
    (conv=>whnf);refine ⟨rfl,?_⟩
    refine CW.ret ?_
    exact Post.one (RV.s rfl (by rw [itoa_pos (by simp at h1; omega), ← hr, dgs, dif_pos (by simp at h2; omega)])) (AOs.r AOs.e)
set_option maxHeartbeats 4000000 in
theorem spec_l15Put_fn (k : Keep) (it : Item) (hok : okToKeep k) : Eng.Fn E.P 83 [.ob ((Keep.c k).map .w), .agg ((Item.c it).map .r)] (.one (.one (.w (.v (.bool (!bigP k it)))))) [.ob ((Keep.c (putSK k it)).map .w), .agg ((Item.c it).map .r)] := by
 refine Eng.Fn.intro (E := E) (rvs := [.tmp 4]) Tryd.func83 rfl rfl rfl (by simp [outSlots, moved, rvSlot, sl]) ?_
 intro B g bo
 refine CW.keep 80 [0,1] rfl ?_;(conv=>whnf);refine ⟨?_⟩
 have hl1 : k.sessions.length ≤ maxLen := by have := hok.1.1; simp only [maxLen]; omega
 have hl2 : k.items.length ≤ maxLen := by have := hok.2.1; simp only [maxLen]; omega
 refine CW.seq ?_
 refine CW.region ?_
 refine RW.k XK 80 1 rfl ?_
 (conv=>whnf);intro b1;(conv=>whnf);refine ⟨rfl,?_⟩
 refine RW.freezeB (ts := (Item.c it)) 3 rfl (DRd.r (DRd.r (DRd.r DRd.e))) ?_
 refine RW.k XK 80 1 rfl ?_
 (conv=>whnf);refine ⟨rfl,?_⟩
 refine RW.nil ?_
 refine CW.keep 80 [0,3] rfl ?_;(conv=>whnf);refine ⟨?_⟩
 refine CW.seq ?_
 refine CW.region ?_
 refine RW.build0 Item.c rfl rfl rfl rfl rfl fun X2 => ?_
 refine RW.assignMove rfl rfl rfl (by decide) (Nat.le_of_ble_eq_true rfl) (Nat.le_of_ble_eq_true rfl) ?_
 refine RW.nil ?_
 refine CW.keep 80 [0,3,5] rfl ?_;(conv=>whnf);refine ⟨?_⟩
 refine CW.seq ?_
 refine CW.k XK 80 1 [0,3,5,6] rfl ?_
 (conv=>whnf);refine ⟨rfl,?_⟩
 refine CW.block ?_
 refine CW.loopI 80 (fun (zz : Nat × Value) => match zz with | (i, X) => [(0, .obj (bo 0) [.w (sl 3 Session.c k.sessions) (g 0 0), .w (sl 3 Item.c k.items) (g 0 1)]), (3, .rp (Item.c it)), (5, .w (sl 3 Item.c (lowL (k.items.take i) it)) X), (6, I (i : Int))]) (fun (zz : Nat × Value) => match zz with | (i, X) => i ≤ k.items.length) (fun (zz : Nat × Value) => match zz with | (i, X) => k.items.length - i) (0, _) rfl (Le.c rfl <| Le.c rfl <| Le.c rfl <| Le.c rfl <| Le.e) (by omega) ?_
 rintro ⟨i, X⟩ hb
 refine CW.seq ?_
 refine CW.k XK 80 1 [0,3,5,6,15] rfl ?_
 (conv=>whnf);refine ⟨rfl,?_⟩
 refine CW.cond rfl (fun h3 => ?_) (fun h3 => ?_)
 ·skip
  have hii : i < k.items.length := by have := h3; simp at this; first | exact this | omega | (simp; done) | (simp; omega)
  obtain ⟨ei, hei⟩ : ∃ e, k.items[i]? = some e := ⟨_, List.getElem?_eq_getElem hii⟩
  have hdi := drop_get hei
  refine CW.skip ?_
  refine CW.keep 80 [0,3,5,6] rfl ?_;(conv=>whnf);refine ⟨?_⟩
  refine CW.seq ?_
  refine CW.block ?_
  refine CW.seq ?_
  refine CW.drawn (by kernel_rfl) ?_
  refine RQ.k XK 80 5 rfl ?_
  (conv=>whnf);refine ⟨rfl,?_⟩
  refine RQ.swapO 21 0 1 (by decide) rfl rfl rfl ?_
  refine RQ.v rfl (V.indexW rfl rfl rfl rfl rfl rfl rfl hii) ?_
  refine RQ.k XK 80 1 rfl ?_
  (conv=>whnf);refine ⟨rfl,?_⟩
  refine RQ.v rfl (V.loadF (m := i) (off := 0) rfl rfl (.inl rfl) rfl rfl Item.len hei (by decide) rfl) ?_
  refine RQ.k XK 80 3 rfl ?_
  (conv=>whnf);refine ⟨rfl,?_⟩
  refine RQ.pullT (k := 0) (l := 21) (j := 1) 0 21 1 rfl rfl rfl (by decide) rfl rfl rfl ?_
  refine RQ.nil ?_
  refine CW.keep 80 [0,3,5,6,28] rfl ?_;(conv=>whnf);refine ⟨?_⟩
  refine CW.cond rfl (fun h4 => ?_) (fun h4 => ?_)
  ·skip
   refine CW.region ?_
   refine RW.k XK 80 6 rfl ?_
   (conv=>whnf);refine ⟨rfl,?_⟩
   refine RW.swapO 33 0 1 (by decide) rfl rfl rfl ?_
   refine RW.v rfl (V.indexW rfl rfl rfl rfl rfl rfl rfl hii) ?_
   refine RW.v rfl (V.loadAggF (m := i) rfl rfl rfl rfl rfl Item.len hei (vs := Item.vs ei) rfl (by decide)) ?_
   refine RW.build1 (c := Item.c) (v := ei) rfl rfl rfl rfl rfl rfl (DW.v (DW.v (DW.v DW.e))) Item.len (by decide) (by decide) fun X5 => ?_
   refine RW.appendSR (c := Item.c) (l1 := (lowL (k.items.take i) it)) (l2 := [ei]) rfl rfl rfl rfl rfl rfl rfl rfl (.al (k := none) (i := 37) (sz := 3) (V := X5) rfl rfl nofun) (by decide) (Nat.le_of_ble_eq_true rfl) Item.len (fun _ => rfl) rfl (by have h9 := lowL_len (k.items.take i) it; have h10 : (k.items.take i).length ≤ k.items.length := (by rw [List.length_take]; omega); have h11 := hok.2.1; first | (simp only [maxLen, List.length_singleton, List.length_append, List.length_nil]; omega) | (have h7 := lowL_len k.items it; have h8 := highL_len (k.items.take j) it; have h6 : (k.items.take j).length ≤ k.items.length := (by rw [List.length_take]; omega); simp only [maxLen, List.length_singleton, List.length_append, List.length_nil, List.length_drop]; omega)) (by have h9 := lowL_len (k.items.take i) it; have h10 : (k.items.take i).length ≤ k.items.length := (by rw [List.length_take]; omega); have h11 := hok.2.1; first | (simp only [maxLen, List.length_singleton, List.length_append, List.length_nil]; omega) | (have h7 := lowL_len k.items it; have h8 := highL_len (k.items.take j) it; have h6 : (k.items.take j).length ≤ k.items.length := (by rw [List.length_take]; omega); simp only [maxLen, List.length_singleton, List.length_append, List.length_nil, List.length_drop]; omega)) fun X6 => ?_
   refine RW.assignMove rfl rfl rfl (by decide) (Nat.le_of_ble_eq_true rfl) (Nat.le_of_ble_eq_true rfl) ?_
   refine RW.pullT (k := 0) (l := 33) (j := 1) 0 33 1 rfl rfl rfl (by decide) rfl rfl rfl ?_
   refine RW.nil ?_
   refine CW.keep 80 [0,3,5,6] rfl ?_;(conv=>whnf);refine ⟨?_⟩
   refine CW.region ?_
   refine RW.k XK 80 1 rfl ?_
   (conv=>whnf);refine ⟨rfl,?_⟩
   refine RW.v rfl (V.inc rfl rfl rfl hii hl2) ?_
   refine RW.k XK 80 1 rfl ?_
   (conv=>whnf);refine ⟨rfl,?_⟩
   refine RW.nil ?_
   exact ⟨(i + 1, _), by simp only []; omega, (by omega), rfl, Le.c rfl <| Le.c rfl <| Le.c (Dw_congr (by rw [lowL_snoc hei]; simp_all [sLt, sGt])) <| Le.c rfl <| Le.e⟩
  ·skip
   refine CW.skip ?_
   refine CW.keep 80 [0,3,5,6] rfl ?_;(conv=>whnf);refine ⟨?_⟩
   refine CW.region ?_
   refine RW.k XK 80 1 rfl ?_
   (conv=>whnf);refine ⟨rfl,?_⟩
   refine RW.v rfl (V.inc rfl rfl rfl hii hl2) ?_
   refine RW.k XK 80 1 rfl ?_
   (conv=>whnf);refine ⟨rfl,?_⟩
   refine RW.nil ?_
   exact ⟨(i + 1, _), by simp only []; omega, (by omega), rfl, Le.c rfl <| Le.c rfl <| Le.c (Dw_congr (by rw [lowL_snoc hei]; simp_all [sLt, sGt])) <| Le.c rfl <| Le.e⟩
 ·skip
  have hii : k.items.length ≤ i := by have := h3; simp at this; first | exact this | omega | (simp; done) | (simp; omega)
  have hdi : k.items.drop i = [] := List.drop_eq_nil_of_le hii
  refine CW.exit ?_
  refine CW.keep 80 [0,3,5] rfl ?_;(conv=>whnf);refine ⟨?_⟩
  refine CW.seq ?_
  refine CW.region ?_
  refine RW.k XK 80 2 rfl ?_
  (conv=>whnf);refine ⟨rfl,?_⟩
  refine RW.build1 (c := Item.c) (v := it) rfl rfl rfl rfl rfl rfl (DW.v (DW.v (DW.v DW.e))) Item.len (by decide) (by decide) fun X7 => ?_
  refine RW.appendSR (c := Item.c) (l1 := (lowL (k.items.take i) it)) (l2 := [it]) rfl rfl rfl rfl rfl rfl rfl rfl (.al (k := none) (i := 41) (sz := 3) (V := X7) rfl rfl nofun) (by decide) (Nat.le_of_ble_eq_true rfl) Item.len (fun _ => rfl) rfl (by have h9 := lowL_len (k.items.take i) it; have h10 : (k.items.take i).length ≤ k.items.length := (by rw [List.length_take]; omega); have h11 := hok.2.1; first | (simp only [maxLen, List.length_singleton, List.length_append, List.length_nil]; omega) | (have h7 := lowL_len k.items it; have h8 := highL_len (k.items.take j) it; have h6 : (k.items.take j).length ≤ k.items.length := (by rw [List.length_take]; omega); simp only [maxLen, List.length_singleton, List.length_append, List.length_nil, List.length_drop]; omega)) (by have h9 := lowL_len (k.items.take i) it; have h10 : (k.items.take i).length ≤ k.items.length := (by rw [List.length_take]; omega); have h11 := hok.2.1; first | (simp only [maxLen, List.length_singleton, List.length_append, List.length_nil]; omega) | (have h7 := lowL_len k.items it; have h8 := highL_len (k.items.take j) it; have h6 : (k.items.take j).length ≤ k.items.length := (by rw [List.length_take]; omega); simp only [maxLen, List.length_singleton, List.length_append, List.length_nil, List.length_drop]; omega)) fun X8 => ?_
  refine RW.assignMove rfl rfl rfl (by decide) (Nat.le_of_ble_eq_true rfl) (Nat.le_of_ble_eq_true rfl) ?_
  refine RW.nil ?_
  refine CW.keep 80 [0,3,5] rfl ?_;(conv=>whnf);refine ⟨?_⟩
  refine CW.seq ?_
  refine CW.k XK 80 1 [0,3,5,7] rfl ?_
  (conv=>whnf);refine ⟨rfl,?_⟩
  refine CW.block ?_
  refine CW.loopI 80 (fun (zz : Nat × Value) => match zz with | (j, X) => [(0, .obj (bo 0) [.w (sl 3 Session.c k.sessions) (g 0 0), .w (sl 3 Item.c k.items) (g 0 1)]), (3, .rp (Item.c it)), (5, .w (sl 3 Item.c (lowL k.items it ++ [it] ++ highL (k.items.take j) it)) X), (7, I (j : Int))]) (fun (zz : Nat × Value) => match zz with | (j, X) => j ≤ k.items.length) (fun (zz : Nat × Value) => match zz with | (j, X) => k.items.length - j) (0, _) rfl (Le.c rfl <| Le.c rfl <| Le.c (Dw_congr (by rw [List.take_of_length_le hii]; simp [highL, newS])) <| Le.c rfl <| Le.e) (by omega) ?_
  rintro ⟨j, X⟩ hc
  refine CW.seq ?_
  refine CW.k XK 80 1 [0,3,5,7,49] rfl ?_
  (conv=>whnf);refine ⟨rfl,?_⟩
  refine CW.cond rfl (fun h9 => ?_) (fun h9 => ?_)
  ·skip
   have hij : j < k.items.length := by have := h9; simp at this; first | exact this | omega | (simp; done) | (simp; omega)
   obtain ⟨ej, hej⟩ : ∃ e, k.items[j]? = some e := ⟨_, List.getElem?_eq_getElem hij⟩
   have hdj := drop_get hej
   refine CW.skip ?_
   refine CW.keep 80 [0,3,5,7] rfl ?_;(conv=>whnf);refine ⟨?_⟩
   refine CW.seq ?_
   refine CW.block ?_
   refine CW.seq ?_
   refine CW.drawn (by kernel_rfl) ?_
   refine RQ.k XK 80 5 rfl ?_
   (conv=>whnf);refine ⟨rfl,?_⟩
   refine RQ.swapO 55 0 1 (by decide) rfl rfl rfl ?_
   refine RQ.v rfl (V.indexW rfl rfl rfl rfl rfl rfl rfl hij) ?_
   refine RQ.k XK 80 1 rfl ?_
   (conv=>whnf);refine ⟨rfl,?_⟩
   refine RQ.v rfl (V.loadF (m := j) (off := 0) rfl rfl (.inl rfl) rfl rfl Item.len hej (by decide) rfl) ?_
   refine RQ.k XK 80 3 rfl ?_
   (conv=>whnf);refine ⟨rfl,?_⟩
   refine RQ.pullT (k := 0) (l := 55) (j := 1) 0 55 1 rfl rfl rfl (by decide) rfl rfl rfl ?_
   refine RQ.nil ?_
   refine CW.keep 80 [0,3,5,7,62] rfl ?_;(conv=>whnf);refine ⟨?_⟩
   refine CW.cond rfl (fun h10 => ?_) (fun h10 => ?_)
   ·skip
    refine CW.region ?_
    refine RW.k XK 80 6 rfl ?_
    (conv=>whnf);refine ⟨rfl,?_⟩
    refine RW.swapO 67 0 1 (by decide) rfl rfl rfl ?_
    refine RW.v rfl (V.indexW rfl rfl rfl rfl rfl rfl rfl hij) ?_
    refine RW.v rfl (V.loadAggF (m := j) rfl rfl rfl rfl rfl Item.len hej (vs := Item.vs ej) rfl (by decide)) ?_
    refine RW.build1 (c := Item.c) (v := ej) rfl rfl rfl rfl rfl rfl (DW.v (DW.v (DW.v DW.e))) Item.len (by decide) (by decide) fun X11 => ?_
    refine RW.appendSR (c := Item.c) (l1 := (lowL k.items it ++ [it] ++ highL (k.items.take j) it)) (l2 := [ej]) rfl rfl rfl rfl rfl rfl rfl rfl (.al (k := none) (i := 71) (sz := 3) (V := X11) rfl rfl nofun) (by decide) (Nat.le_of_ble_eq_true rfl) Item.len (fun _ => rfl) rfl (by have h9 := lowL_len (k.items.take i) it; have h10 : (k.items.take i).length ≤ k.items.length := (by rw [List.length_take]; omega); have h11 := hok.2.1; first | (simp only [maxLen, List.length_singleton, List.length_append, List.length_nil]; omega) | (have h7 := lowL_len k.items it; have h8 := highL_len (k.items.take j) it; have h6 : (k.items.take j).length ≤ k.items.length := (by rw [List.length_take]; omega); simp only [maxLen, List.length_singleton, List.length_append, List.length_nil, List.length_drop]; omega)) (by have h9 := lowL_len (k.items.take i) it; have h10 : (k.items.take i).length ≤ k.items.length := (by rw [List.length_take]; omega); have h11 := hok.2.1; first | (simp only [maxLen, List.length_singleton, List.length_append, List.length_nil]; omega) | (have h7 := lowL_len k.items it; have h8 := highL_len (k.items.take j) it; have h6 : (k.items.take j).length ≤ k.items.length := (by rw [List.length_take]; omega); simp only [maxLen, List.length_singleton, List.length_append, List.length_nil, List.length_drop]; omega)) fun X12 => ?_
    refine RW.assignMove rfl rfl rfl (by decide) (Nat.le_of_ble_eq_true rfl) (Nat.le_of_ble_eq_true rfl) ?_
    refine RW.pullT (k := 0) (l := 67) (j := 1) 0 67 1 rfl rfl rfl (by decide) rfl rfl rfl ?_
    refine RW.nil ?_
    refine CW.keep 80 [0,3,5,7] rfl ?_;(conv=>whnf);refine ⟨?_⟩
    refine CW.region ?_
    refine RW.k XK 80 1 rfl ?_
    (conv=>whnf);refine ⟨rfl,?_⟩
    refine RW.v rfl (V.inc rfl rfl rfl hij hl2) ?_
    refine RW.k XK 80 1 rfl ?_
    (conv=>whnf);refine ⟨rfl,?_⟩
    refine RW.nil ?_
    exact ⟨(j + 1, _), by simp only []; omega, (by omega), rfl, Le.c rfl <| Le.c rfl <| Le.c (Dw_congr (by rw [highL_snoc hej]; split <;> simp_all [sLt, sGt])) <| Le.c rfl <| Le.e⟩
   ·skip
    refine CW.skip ?_
    refine CW.keep 80 [0,3,5,7] rfl ?_;(conv=>whnf);refine ⟨?_⟩
    refine CW.region ?_
    refine RW.k XK 80 1 rfl ?_
    (conv=>whnf);refine ⟨rfl,?_⟩
    refine RW.v rfl (V.inc rfl rfl rfl hij hl2) ?_
    refine RW.k XK 80 1 rfl ?_
    (conv=>whnf);refine ⟨rfl,?_⟩
    refine RW.nil ?_
    exact ⟨(j + 1, _), by simp only []; omega, (by omega), rfl, Le.c rfl <| Le.c rfl <| Le.c (Dw_congr (by rw [highL_snoc hej]; split <;> simp_all [sLt, sGt])) <| Le.c rfl <| Le.e⟩
  ·skip
   have hij : k.items.length ≤ j := by have := h9; simp at this; first | exact this | omega | (simp; done) | (simp; omega)
   have hdj : k.items.drop j = [] := List.drop_eq_nil_of_le hij
   refine CW.exit ?_
   refine CW.keep 80 [0,5] rfl ?_;(conv=>whnf);refine ⟨?_⟩
   refine CW.seq ?_
   refine CW.k XK 80 1 [0,5,75] rfl ?_
   (conv=>whnf);refine ⟨rfl,?_⟩
   refine CW.cond rfl (fun h13 => ?_) (fun h13 => ?_)
   ·skip
    have hbg := bigP_of hij h13
    refine CW.k XK 80 1 [0,4] rfl ?_
    (conv=>whnf);refine ⟨rfl,?_⟩
    refine CW.ret ?_
    exact Post.one (RV.b rfl (by rw [hbg]; rfl)) (AOs.obE (f := fun e => (Keep.c e).map .w) (e' := k) rfl (DT.w (DT.w DT.e)) (by first | exact (putSK_t hbg).symm | exact putSK_f hbg hij) (AOs.a rfl AOs.e))
   ·skip
    have hbg := bigP_of hij h13
    refine CW.skip ?_
    refine CW.keep 80 [0,5] rfl ?_;(conv=>whnf);refine ⟨?_⟩
    refine CW.seq ?_
    refine CW.region ?_
    refine RW.k XK 80 5 rfl ?_
    (conv=>whnf);refine ⟨rfl,?_⟩
    refine RW.keep 80 [0,5] rfl ?_;(conv=>whnf);refine ⟨?_⟩
    refine RW.pullT (k := 0) (l := 5) (j := 1) 0 5 1 rfl rfl rfl (by decide) rfl rfl rfl ?_
    refine RW.keep 80 [0] rfl ?_;(conv=>whnf);refine ⟨?_⟩
    refine RW.nil ?_
    refine CW.keep 80 [0] rfl ?_;(conv=>whnf);refine ⟨?_⟩
    refine CW.k XK 80 1 [0,4] rfl ?_
    (conv=>whnf);refine ⟨rfl,?_⟩
    refine CW.ret ?_
    exact Post.one (RV.b rfl (by rw [hbg]; rfl)) (AOs.obE (f := fun e => (Keep.c e).map .w) (e' := (⟨k.sessions, (lowL k.items it ++ [it] ++ highL (k.items.take j) it)⟩ : Keep)) rfl (DT.w (DT.w DT.e)) (by first | exact (putSK_t hbg).symm | exact putSK_f hbg hij) (AOs.a rfl AOs.e))
end Go.Proofs.YtaeagpakloggfaaDoor.Y
