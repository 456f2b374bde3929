import Derived.Test.YtaeagpakloggfaaDoorWFoldsF
namespace Go.Proofs.YtaeagpakloggfaaDoor.Y
open Go Go.RowKit Go.Eng Go.Proofs
set_option maxRecDepth 10000
set_option maxHeartbeats 4000000 in
theorem laws_sameTexts_fn (a : List ByteArray) (b : List ByteArray) : Eng.Fn E.P 33 [.one (.r (sl 1 cS a)), .one (.r (sl 1 cS b))] (.one (.one (.w (.v (.bool (eqS eqStr a b)))))) [.one (.r (sl 1 cS a)), .one (.r (sl 1 cS b))] := by
 refine Eng.Fn.intro (E := E) (rvs := [.tmp 4]) Tryd.func33 rfl rfl rfl (by simp [outSlots, moved, rvSlot, sl]) ?_
 intro B g bo
 refine CW.bound (x := .tmp 0) (n := a.length) (AsT.r) (fun hl0 => ?_)
 refine CW.bound (x := .tmp 1) (n := b.length) (AsT.r) (fun hl1 => ?_)
 refine CW.keep 26 [0,1] rfl ?_;(conv=>whnf);refine ⟨?_⟩
 refine CW.k XK 26 1 [0,1] rfl ?_
 (conv=>whnf);refine ⟨rfl,?_⟩
 refine CW.seq ?_
 refine CW.k XK 26 1 [0,1,10] rfl ?_
 (conv=>whnf);refine ⟨rfl,?_⟩
 refine CW.cond rfl (fun h1 => ?_) (fun h1 => ?_)
 ·skip
  have hne := h1
  refine CW.k XK 26 1 [4] rfl ?_
  (conv=>whnf);refine ⟨rfl,?_⟩
  refine CW.ret ?_
  exact Post.one (RV.b rfl (by exact (eqS_ne (by simp at hne; omega)).symm)) (AOs.r (AOs.r AOs.e))
 ·skip
  have hle : a.length = b.length := by have h9 := h1; simp at h9; omega
  refine CW.skip ?_
  refine CW.keep 26 [0,1] rfl ?_;(conv=>whnf);refine ⟨?_⟩
  refine CW.seq ?_
  refine CW.k XK 26 1 [0,1,5] rfl ?_
  (conv=>whnf);refine ⟨rfl,?_⟩
  refine CW.block ?_
  refine CW.loopI 26 (fun (i : Nat) => [(0, .r (sl 1 cS a)), (1, .r (sl 1 cS b)), (5, I (i : Int))]) (fun (i : Nat) => i ≤ a.length ∧ eqS eqStr (a.drop i) (b.drop i) = eqS eqStr a b) (fun (i : Nat) => a.length - i) 0 rfl (Le.c rfl <| Le.c rfl <| Le.c rfl <| Le.e) ⟨by omega, rfl⟩ ?_
  rintro i ⟨hb, hr⟩
  refine CW.seq ?_
  refine CW.k XK 26 1 [0,1,5,14] rfl ?_
  (conv=>whnf);refine ⟨rfl,?_⟩
  refine CW.cond rfl (fun h2 => ?_) (fun h2 => ?_)
  ·skip
   have hii : i < a.length := by have := h2; simp at this; first | exact this | omega | (simp; done) | (simp; omega)
   obtain ⟨ei, hei⟩ : ∃ e, a[i]? = some e := ⟨_, List.getElem?_eq_getElem hii⟩
   have hdi := drop_get hei
   obtain ⟨fi, hfi⟩ : ∃ e, b[i]? = some e := ⟨_, List.getElem?_eq_getElem (by omega)⟩
   refine CW.skip ?_
   refine CW.keep 26 [0,1,5] rfl ?_;(conv=>whnf);refine ⟨?_⟩
   refine CW.seq ?_
   refine CW.block ?_
   refine CW.seq ?_
   refine CW.drawn (by kernel_rfl) ?_
   refine RQ.k XK 26 2 rfl ?_
   (conv=>whnf);refine ⟨rfl,?_⟩
   refine RQ.v rfl (V.indexS rfl rfl rfl rfl rfl rfl cS.len hei) ?_
   refine RQ.k XK 26 3 rfl ?_
   (conv=>whnf);refine ⟨rfl,?_⟩
   refine RQ.v rfl (V.indexS rfl rfl rfl rfl rfl rfl cS.len hfi) ?_
   refine RQ.k XK 26 2 rfl ?_
   (conv=>whnf);refine ⟨rfl,?_⟩
   refine RQ.nil ?_
   refine CW.keep 26 [0,1,5,25] rfl ?_;(conv=>whnf);refine ⟨?_⟩
   refine CW.cond rfl (fun h3 => ?_) (fun h3 => ?_)
   ·skip
    have he9 := h3
    refine CW.k XK 26 1 [4] rfl ?_
    (conv=>whnf);refine ⟨rfl,?_⟩
    refine CW.ret ?_
    exact Post.one (RV.b rfl (by rw [← hr, eqS_step hei hfi, if_neg (by simpa [eqStr] using he9)])) (AOs.r (AOs.r AOs.e))
   ·skip
    have he9 := h3
    refine CW.skip ?_
    refine CW.keep 26 [0,1,5] rfl ?_;(conv=>whnf);refine ⟨?_⟩
    refine CW.region ?_
    refine RW.k XK 26 1 rfl ?_
    (conv=>whnf);refine ⟨rfl,?_⟩
    refine RW.v rfl (V.inc rfl rfl rfl hii hl0) ?_
    refine RW.k XK 26 1 rfl ?_
    (conv=>whnf);refine ⟨rfl,?_⟩
    refine RW.nil ?_
    exact ⟨i + 1, by omega, ⟨by omega, by rw [← hr, eqS_step hei hfi, if_pos (by simpa [eqStr] using he9)]⟩, rfl, Le.c rfl <| Le.c rfl <| Le.c rfl <| Le.e⟩
  ·skip
   have hii : a.length ≤ i := by have := h2; simp at this; first | exact this | omega | (simp; done) | (simp; omega)
   have hdi : a.drop i = [] := List.drop_eq_nil_of_le hii
   refine CW.exit ?_
   refine CW.keep 26 [] rfl ?_;(conv=>whnf);refine ⟨?_⟩
   refine CW.k XK 26 1 [4] rfl ?_
   (conv=>whnf);refine ⟨rfl,?_⟩
   refine CW.ret ?_
   exact Post.one (RV.b rfl (by rw [← hr]; exact (eqS_end hii hle).symm)) (AOs.r (AOs.r AOs.e))
set_option maxHeartbeats 4000000 in
theorem spec_DrawFold_fn (code : List Int) : Eng.Fn E.P 30 [.one (.r (sl 1 cU code))] (.tup [.agg ((Keep.c ((foK code).1)).map .r), .one (.r (sl 3 Entry.c ((foE code).1))), .one (.w (.v (.int .i64 (foI code))))]) [.one (.r (sl 1 cU code))] := by
 refine Eng.Fn.intro (E := E) (rvs := [.cell 2 31, .tmp 3, .tmp 4]) Tryd.func30 rfl rfl rfl (by simp [outSlots, moved, rvSlot, sl]) ?_
 intro B g bo
 refine CW.bound (x := .tmp 0) (n := code.length) (AsT.r) (fun hl0 => ?_)
 refine CW.keep 67 [0] rfl ?_;(conv=>whnf);refine ⟨?_⟩
 refine CW.k XK 67 1 [0,2] rfl ?_
 (conv=>whnf);intro b1;(conv=>whnf);refine ⟨rfl,?_⟩
 refine CW.seq ?_
 refine CW.region ?_
 refine RW.k XK 67 1 rfl ?_
 (conv=>whnf);refine ⟨rfl,?_⟩
 refine RW.call rfl (spec_l01New_fn code) rfl (.cons (.one (.r .r)) (.nil)) fun g2 => ?_
 refine RW.k XK 67 1 rfl ?_
 (conv=>whnf);refine ⟨rfl,?_⟩
 refine RW.nil ?_
 refine CW.keep 67 [2,5,19] rfl ?_;(conv=>whnf);refine ⟨?_⟩
 refine CW.seq ?_
 refine CW.region ?_
 refine RW.k XK 67 1 rfl ?_
 (conv=>whnf);refine ⟨rfl,?_⟩
 refine RW.callP (k := 19) (spec_l15Keep_fn (cur0 code) 10 (cur0_ok hl0).2 (by omega)) rfl rfl (Nat.le_of_ble_eq_true rfl) (by decide) rfl (DT.r (DT.r (DT.r DT.e))) (AsPs.here rfl (.cons (.one (.r .r)) (.nil))) fun g3 q4 => ?_
 refine RW.k XK 67 2 rfl ?_
 (conv=>whnf);intro b5;(conv=>whnf);refine ⟨rfl,?_⟩
 refine RW.freezeB (ts := (Keep.c ((keepN (cur0 code) 10).1))) 6 rfl (DRd.r (DRd.r DRd.e)) ?_
 refine RW.nil ?_
 refine CW.keep 67 [2,5,6,19] rfl ?_;(conv=>whnf);refine ⟨?_⟩
 refine CW.seq ?_
 refine CW.region ?_
 refine RW.build0 Entry.c rfl rfl rfl rfl rfl fun X6 => ?_
 refine RW.assignMove rfl rfl rfl (by decide) (Nat.le_of_ble_eq_true rfl) (Nat.le_of_ble_eq_true rfl) ?_
 refine RW.nil ?_
 refine CW.keep 67 [2,5,6,7,19] rfl ?_;(conv=>whnf);refine ⟨?_⟩
 refine CW.k XK 67 2 [2,5,6,7,8,9,19] rfl ?_
 (conv=>whnf);intro b7;(conv=>whnf);refine ⟨rfl,?_⟩
 refine CW.seq ?_
 refine CW.k XK 67 1 [2,5,6,7,8,9,10,19] rfl ?_
 (conv=>whnf);refine ⟨rfl,?_⟩
 refine CW.block ?_
 refine CW.loopI 67 (fun (zz : Nat × l01Cur × Keep × List Entry × Value) => match zz with | (i, d, k, l, X) => [(2, .obj b1 [.r (.v (.slice none 0 0)), .r (.v (.slice none 0 0))]), (5, .pt 19 (blk (g2 0 3)) 0), (6, .rp (Keep.c ((keepN (cur0 code) 10).1))), (7, .w (sl 3 Entry.c l) X), (8, .obj b7 ((Keep.c k).map .r)), (9, I 50), (10, I (i : Int)), (19, .obj (blk (g2 0 3)) ((l01Cur.c d).map .r))]) (fun (zz : Nat × l01Cur × Keep × List Entry × Value) => match zz with | (i, d, k, l, X) => FdP code i d k l) (fun (zz : Nat × l01Cur × Keep × List Entry × Value) => match zz with | (i, d, k, l, X) => 10 - i) (0, _, _, [], _) rfl (Le.c rfl <| Le.c rfl <| Le.c rfl <| Le.c rfl <| Le.c rfl <| Le.c rfl <| Le.c rfl <| Le.c rfl <| Le.e) (FdP.init hl0) ?_
 rintro ⟨i, d, k, l, X⟩ hP
 refine CW.seq ?_
 refine CW.seq ?_
 refine CW.region ?_
 refine RW.k XK 67 2 rfl ?_
 (conv=>whnf);refine ⟨rfl,?_⟩
 refine RW.callP (k := 19) (spec_l01Below_fn d 10 hP.hc) rfl rfl (Nat.le_of_ble_eq_true rfl) (by decide) rfl (DT.r (DT.r (DT.r DT.e))) (AsPs.here rfl (.cons (.one (.r .r)) (.nil))) fun g8 q9 => ?_
 refine RW.k XK 67 1 rfl ?_
 (conv=>whnf);refine ⟨rfl,?_⟩
 refine RW.nil ?_
 refine CW.keep 67 [2,5,6,7,8,9,10,19,27] rfl ?_;(conv=>whnf);refine ⟨?_⟩
 refine CW.cond rfl (fun h10 => ?_) (fun h10 => ?_)
 ·skip
  have hlt := h10
  refine CW.skip ?_
  refine CW.keep 67 [2,5,6,7,8,9,10,19] rfl ?_;(conv=>whnf);refine ⟨?_⟩
  refine CW.seq ?_
  refine CW.block ?_
  refine CW.seq ?_
  refine CW.region ?_
  refine RW.k XK 67 2 rfl ?_
  (conv=>whnf);refine ⟨rfl,?_⟩
  refine RW.callP (k := 19) (spec_l15Command_fn ((belowN d 10).2) k (belowN_ok hP.hc _) hP.hk.ok.okTo) rfl rfl (Nat.le_of_ble_eq_true rfl) (by decide) rfl (DT.r (DT.r (DT.r DT.e))) (AsPs.here rfl (.cons (.agg (.cons (.r .r) (.cons (.r .r) (.nil)))) (.nil))) fun g11 q12 => ?_
  refine RW.k XK 67 2 rfl ?_
  (conv=>whnf);intro b13;(conv=>whnf);refine ⟨rfl,?_⟩
  refine RW.freezeB (ts := (Command.c ((commandN ((belowN d 10).2) k).1))) 11 rfl (DRd.r (DRd.r (DRd.r (DRd.r (DRd.r (DRd.r DRd.e)))))) ?_
  refine RW.nil ?_
  refine CW.keep 67 [2,5,6,7,8,9,10,11,19] rfl ?_;(conv=>whnf);refine ⟨?_⟩
  refine CW.seq ?_
  refine CW.region ?_
  refine RW.k XK 67 1 rfl ?_
  (conv=>whnf);refine ⟨rfl,?_⟩
  refine RW.call rfl (spec_CommandText_fn ((commandN ((belowN d 10).2) k).1)) rfl (.cons (.agg (.cons (.r .r) (.cons (.r .r) (.cons (.r .r) (.cons (.r .r) (.cons (.r .r) (.cons (.r .r) (.nil)))))))) (.nil)) fun g14 => ?_
  refine RW.k XK 67 5 rfl ?_
  (conv=>whnf);refine ⟨rfl,?_⟩
  refine RW.nil ?_
  refine CW.keep 67 [2,5,6,7,8,9,10,11,12,19] rfl ?_;(conv=>whnf);refine ⟨?_⟩
  refine CW.k XK 67 1 [2,5,6,7,8,9,10,11,14,19] rfl ?_
  (conv=>whnf);intro b15;(conv=>whnf);refine ⟨rfl,?_⟩
  refine CW.seq ?_
  refine CW.seq ?_
  refine CW.region ?_
  refine RW.k XK 67 1 rfl ?_
  (conv=>whnf);refine ⟨rfl,?_⟩
  refine RW.callP (k := 19) (spec_l01Once_fn ((commandN ((belowN d 10).2) k).2) 12 (by first | exact commandN_ok (belowN_ok hP.hc _) _ | exact belowN_ok hP.hc _)) rfl rfl (Nat.le_of_ble_eq_true rfl) (by decide) rfl (DT.r (DT.r (DT.r DT.e))) (AsPs.here rfl (.cons (.one (.r .r)) (.nil))) fun g16 q17 => ?_
  refine RW.nil ?_
  refine CW.keep 67 [2,5,6,7,8,9,10,11,14,19,41] rfl ?_;(conv=>whnf);refine ⟨?_⟩
  refine CW.cond rfl (fun h18 => ?_) (fun h18 => ?_)
  ·skip
   have ho := h18
   refine CW.region ?_
   refine RW.k XK 67 2 rfl ?_
   (conv=>whnf);refine ⟨rfl,?_⟩
   refine RW.nil ?_
   refine CW.keep 67 [2,5,6,7,8,9,10,11,14,19] rfl ?_;(conv=>whnf);refine ⟨?_⟩
   refine CW.seq ?_
   refine CW.region ?_
   refine RW.k XK 67 2 rfl ?_
   (conv=>whnf);refine ⟨rfl,?_⟩
   refine RW.build1 (c := Entry.c) (v := (⟨0, 1, ⟨#[]⟩⟩ : Entry)) rfl rfl rfl rfl rfl rfl (DW.v (DW.v (DW.v DW.e))) Entry.len (by decide) (by decide) fun X19 => ?_
   refine RW.appendSR (c := Entry.c) (l1 := l) (l2 := [(⟨0, 1, ⟨#[]⟩⟩ : Entry)]) rfl rfl rfl rfl rfl rfl rfl rfl (.al (k := none) (i := 45) (sz := 3) (V := X19) rfl rfl nofun) (by decide) (Nat.le_of_ble_eq_true rfl) Entry.len (fun _ => rfl) rfl (by have h9 := hP.len; have h8 := hP.lt hlt; simp only [maxLen, List.length_singleton]; omega) (by have h9 := hP.len; have h8 := hP.lt hlt; simp only [maxLen, List.length_singleton]; omega) fun X20 => ?_
   refine RW.assignMove rfl rfl rfl (by decide) (Nat.le_of_ble_eq_true rfl) (Nat.le_of_ble_eq_true rfl) ?_
   refine RW.nil ?_
   refine CW.keep 67 [2,5,6,7,8,9,10,11,19] rfl ?_;(conv=>whnf);refine ⟨?_⟩
   refine CW.seq ?_
   refine CW.region ?_
   refine RW.k XK 67 5 rfl ?_
   (conv=>whnf);refine ⟨rfl,?_⟩
   refine RW.call rfl (spec_Perform_fn k (IntKind.i64.wrap (50 + (i : Int))) ((commandN ((belowN d 10).2) k).1) hP.hk.ok.okTo) rfl (.cons (.agg (.cons (.r .r) (.cons (.r .r) (.nil)))) (.cons (.one (.r .r)) (.cons (.agg (.cons (.r .r) (.cons (.r .r) (.cons (.r .r) (.cons (.r .r) (.cons (.r .r) (.cons (.r .r) (.nil)))))))) (.nil)))) fun g21 => ?_
   refine RW.k XK 67 6 rfl ?_
   (conv=>whnf);intro b22;(conv=>whnf);refine ⟨rfl,?_⟩
   refine RW.freezeB (ts := (Keep.c ((perfK k (IntKind.i64.wrap (50 + (i : Int))) ((commandN ((belowN d 10).2) k).1)).1))) 15 rfl (DRd.r (DRd.r DRd.e)) ?_
   refine RW.k XK 67 2 rfl ?_
   (conv=>whnf);refine ⟨rfl,?_⟩
   refine RW.nil ?_
   refine CW.keep 67 [2,5,6,7,8,9,10,15,17,19] rfl ?_;(conv=>whnf);refine ⟨?_⟩
   refine CW.k XK 67 1 [2,5,6,7,8,9,10,15,19,57] rfl ?_
   (conv=>whnf);refine ⟨rfl,?_⟩
   refine CW.cond rfl (fun h23 => ?_) (fun h23 => ?_)
   ·skip
    have hd := h23
    refine CW.region ?_
    refine RW.k XK 67 2 rfl ?_
    (conv=>whnf);refine ⟨rfl,?_⟩
    refine RW.nil ?_
    refine CW.keep 67 [2,5,6,7,8,9,10,19] rfl ?_;(conv=>whnf);refine ⟨?_⟩
    refine CW.region ?_
    refine RW.k XK 67 1 rfl ?_
    (conv=>whnf);refine ⟨rfl,?_⟩
    refine RW.v rfl (V.inc rfl rfl rfl (hP.lt hlt) (by simp only [maxLen]; omega)) ?_
    refine RW.k XK 67 1 rfl ?_
    (conv=>whnf);refine ⟨rfl,?_⟩
    refine RW.nil ?_
    exact ⟨(i + 1, _, _, _, _), by have h9 := hP.lt hlt; simp only []; omega, (hP.step hlt (by first | (rw [entN, if_pos ho]) | (rw [entN, if_neg (by rw [ho]; simp)])) hd (by first | rfl | simp)), rfl, Le.c rfl <| Le.c rfl <| Le.c rfl <| Le.c rfl <| Le.c rfl <| Le.c rfl <| Le.c rfl <| Le.c rfl <| Le.e⟩
   ·skip
    have hd := h23
    refine CW.skip ?_
    refine CW.keep 67 [2,5,6,7,8,9,10,19] rfl ?_;(conv=>whnf);refine ⟨?_⟩
    refine CW.region ?_
    refine RW.k XK 67 1 rfl ?_
    (conv=>whnf);refine ⟨rfl,?_⟩
    refine RW.v rfl (V.inc rfl rfl rfl (hP.lt hlt) (by simp only [maxLen]; omega)) ?_
    refine RW.k XK 67 1 rfl ?_
    (conv=>whnf);refine ⟨rfl,?_⟩
    refine RW.nil ?_
    exact ⟨(i + 1, _, _, _, _), by have h9 := hP.lt hlt; simp only []; omega, (hP.step hlt (by first | (rw [entN, if_pos ho]) | (rw [entN, if_neg (by rw [ho]; simp)])) hd (by first | rfl | simp)), rfl, Le.c rfl <| Le.c rfl <| Le.c rfl <| Le.c rfl <| Le.c rfl <| Le.c rfl <| Le.c rfl <| Le.c rfl <| Le.e⟩
  ·skip
   have ho := h18
   refine CW.skip ?_
   refine CW.keep 67 [2,5,6,7,8,9,10,11,14,19] rfl ?_;(conv=>whnf);refine ⟨?_⟩
   refine CW.seq ?_
   refine CW.region ?_
   refine RW.k XK 67 2 rfl ?_
   (conv=>whnf);refine ⟨rfl,?_⟩
   refine RW.build1 (c := Entry.c) (v := (⟨0, 3, ((cmdT ((commandN ((belowN d 10).2) k).1)).1)⟩ : Entry)) rfl rfl rfl rfl rfl rfl (DW.v (DW.v (DW.v DW.e))) Entry.len (by decide) (by decide) fun X24 => ?_
   refine RW.appendSR (c := Entry.c) (l1 := l) (l2 := [(⟨0, 3, ((cmdT ((commandN ((belowN d 10).2) k).1)).1)⟩ : Entry)]) rfl rfl rfl rfl rfl rfl rfl rfl (.al (k := none) (i := 45) (sz := 3) (V := X24) rfl rfl nofun) (by decide) (Nat.le_of_ble_eq_true rfl) Entry.len (fun _ => rfl) rfl (by have h9 := hP.len; have h8 := hP.lt hlt; simp only [maxLen, List.length_singleton]; omega) (by have h9 := hP.len; have h8 := hP.lt hlt; simp only [maxLen, List.length_singleton]; omega) fun X25 => ?_
   refine RW.assignMove rfl rfl rfl (by decide) (Nat.le_of_ble_eq_true rfl) (Nat.le_of_ble_eq_true rfl) ?_
   refine RW.nil ?_
   refine CW.keep 67 [2,5,6,7,8,9,10,11,19] rfl ?_;(conv=>whnf);refine ⟨?_⟩
   refine CW.seq ?_
   refine CW.region ?_
   refine RW.k XK 67 5 rfl ?_
   (conv=>whnf);refine ⟨rfl,?_⟩
   refine RW.call rfl (spec_Perform_fn k (IntKind.i64.wrap (50 + (i : Int))) ((commandN ((belowN d 10).2) k).1) hP.hk.ok.okTo) rfl (.cons (.agg (.cons (.r .r) (.cons (.r .r) (.nil)))) (.cons (.one (.r .r)) (.cons (.agg (.cons (.r .r) (.cons (.r .r) (.cons (.r .r) (.cons (.r .r) (.cons (.r .r) (.cons (.r .r) (.nil)))))))) (.nil)))) fun g26 => ?_
   refine RW.k XK 67 6 rfl ?_
   (conv=>whnf);intro b27;(conv=>whnf);refine ⟨rfl,?_⟩
   refine RW.freezeB (ts := (Keep.c ((perfK k (IntKind.i64.wrap (50 + (i : Int))) ((commandN ((belowN d 10).2) k).1)).1))) 15 rfl (DRd.r (DRd.r DRd.e)) ?_
   refine RW.k XK 67 2 rfl ?_
   (conv=>whnf);refine ⟨rfl,?_⟩
   refine RW.nil ?_
   refine CW.keep 67 [2,5,6,7,8,9,10,15,17,19] rfl ?_;(conv=>whnf);refine ⟨?_⟩
   refine CW.k XK 67 1 [2,5,6,7,8,9,10,15,19,57] rfl ?_
   (conv=>whnf);refine ⟨rfl,?_⟩
   refine CW.cond rfl (fun h28 => ?_) (fun h28 => ?_)
   ·skip
    have hd := h28
    refine CW.region ?_
    refine RW.k XK 67 2 rfl ?_
    (conv=>whnf);refine ⟨rfl,?_⟩
    refine RW.nil ?_
    refine CW.keep 67 [2,5,6,7,8,9,10,19] rfl ?_;(conv=>whnf);refine ⟨?_⟩
    refine CW.region ?_
    refine RW.k XK 67 1 rfl ?_
    (conv=>whnf);refine ⟨rfl,?_⟩
    refine RW.v rfl (V.inc rfl rfl rfl (hP.lt hlt) (by simp only [maxLen]; omega)) ?_
    refine RW.k XK 67 1 rfl ?_
    (conv=>whnf);refine ⟨rfl,?_⟩
    refine RW.nil ?_
    exact ⟨(i + 1, _, _, _, _), by have h9 := hP.lt hlt; simp only []; omega, (hP.step hlt (by first | (rw [entN, if_pos ho]) | (rw [entN, if_neg (by rw [ho]; simp)])) hd (by first | rfl | simp)), rfl, Le.c rfl <| Le.c rfl <| Le.c rfl <| Le.c rfl <| Le.c rfl <| Le.c rfl <| Le.c rfl <| Le.c rfl <| Le.e⟩
   ·skip
    have hd := h28
    refine CW.skip ?_
    refine CW.keep 67 [2,5,6,7,8,9,10,19] rfl ?_;(conv=>whnf);refine ⟨?_⟩
    refine CW.region ?_
    refine RW.k XK 67 1 rfl ?_
    (conv=>whnf);refine ⟨rfl,?_⟩
    refine RW.v rfl (V.inc rfl rfl rfl (hP.lt hlt) (by simp only [maxLen]; omega)) ?_
    refine RW.k XK 67 1 rfl ?_
    (conv=>whnf);refine ⟨rfl,?_⟩
    refine RW.nil ?_
    exact ⟨(i + 1, _, _, _, _), by have h9 := hP.lt hlt; simp only []; omega, (hP.step hlt (by first | (rw [entN, if_pos ho]) | (rw [entN, if_neg (by rw [ho]; simp)])) hd (by first | rfl | simp)), rfl, Le.c rfl <| Le.c rfl <| Le.c rfl <| Le.c rfl <| Le.c rfl <| Le.c rfl <| Le.c rfl <| Le.c rfl <| Le.e⟩
 ·skip
  have hfin := hP.fin h10
  refine CW.exit ?_
  refine CW.keep 67 [2,5,6,7,9,19] rfl ?_;(conv=>whnf);refine ⟨?_⟩
  refine CW.seq ?_
  refine CW.seq ?_
  refine CW.region ?_
  refine RW.k XK 67 1 rfl ?_
  (conv=>whnf);refine ⟨rfl,?_⟩
  refine RW.callP (k := 19) (spec_l01Once_fn ((belowN d 10).2) 16 (by first | exact commandN_ok (belowN_ok hP.hc _) _ | exact belowN_ok hP.hc _)) rfl rfl (Nat.le_of_ble_eq_true rfl) (by decide) rfl (DT.r (DT.r (DT.r DT.e))) (AsPs.here rfl (.cons (.one (.r .r)) (.nil))) fun g29 q30 => ?_
  refine RW.nil ?_
  refine CW.keep 67 [2,5,6,7,9,19,60] rfl ?_;(conv=>whnf);refine ⟨?_⟩
  refine CW.cond rfl (fun h31 => ?_) (fun h31 => ?_)
  ·skip
   have ho2 := h31
   refine CW.region ?_
   refine RW.k XK 67 1 rfl ?_
   (conv=>whnf);refine ⟨rfl,?_⟩
   refine RW.buildK (c := cI) (L := idxs) (vs := [(.int .i64 0), (.int .i64 (-1)), (.int .i64 399999), (.int .i64 1000000), (.int .i64 9223372036854775807), (.int .i64 (-9223372036854775808))]) rfl rfl rfl rfl rfl (fun _ => rfl) rfl rfl rfl (by decide) (by decide) rfl rfl fun X32 => ?_
   refine RW.freeze 62 (d' := .r (sl 1 cI idxs)) rfl rfl ?_
   refine RW.callP (k := 19) (spec_l01PickInt_fn ((onceN ((belowN d 10).2) 16).2) idxs (onceN_ok (belowN_ok hP.hc _) _) (by decide)) rfl rfl (Nat.le_of_ble_eq_true rfl) (by decide) rfl (DT.r (DT.r (DT.r DT.e))) (AsPs.here rfl (.cons (.one (.r .r)) (.nil))) fun g33 q34 => ?_
   refine RW.k XK 67 1 rfl ?_
   (conv=>whnf);refine ⟨rfl,?_⟩
   refine RW.nil ?_
   refine CW.keep 67 [2,6,7,9] rfl ?_;(conv=>whnf);refine ⟨?_⟩
   refine CW.seq ?_
   refine CW.region ?_
   refine RW.k XK 67 5 rfl ?_
   (conv=>whnf);refine ⟨rfl,?_⟩
   refine RW.pullS 3 7 (by decide) rfl rfl ?_
   refine RW.k XK 67 1 rfl ?_
   (conv=>whnf);refine ⟨rfl,?_⟩
   refine RW.nil ?_
   refine CW.keep 67 [2,3,4] rfl ?_;(conv=>whnf);refine ⟨?_⟩
   refine CW.freeze 3 (d' := .r (sl 3 Entry.c l)) rfl rfl ?_
   refine CW.ret ?_
   exact Post.tup (by decide) (RVs.c (RV.c (f := fun e => (Keep.c e).map .r) (e' := ((keepN (cur0 code) 10).1)) rfl rfl rfl rfl (DT.r (DT.r DT.e)) (by rfl)) (RVs.c (RV.r rfl (by rw [hfin])) (RVs.c (RV.i rfl (by first | (rw [foI, hfin, if_pos ho2]) | (rw [foI, hfin, if_neg (by rw [ho2]; simp)]))) RVs.e))) (AOs.r AOs.e)
  ·skip
   have ho2 := h31
   refine CW.skip ?_
   refine CW.keep 67 [2,6,7,9] rfl ?_;(conv=>whnf);refine ⟨?_⟩
   refine CW.seq ?_
   refine CW.region ?_
   refine RW.k XK 67 5 rfl ?_
   (conv=>whnf);refine ⟨rfl,?_⟩
   refine RW.pullS 3 7 (by decide) rfl rfl ?_
   refine RW.k XK 67 1 rfl ?_
   (conv=>whnf);refine ⟨rfl,?_⟩
   refine RW.nil ?_
   refine CW.keep 67 [2,3,4] rfl ?_;(conv=>whnf);refine ⟨?_⟩
   refine CW.freeze 3 (d' := .r (sl 3 Entry.c l)) rfl rfl ?_
   refine CW.ret ?_
   exact Post.tup (by decide) (RVs.c (RV.c (f := fun e => (Keep.c e).map .r) (e' := ((keepN (cur0 code) 10).1)) rfl rfl rfl rfl (DT.r (DT.r DT.e)) (by rfl)) (RVs.c (RV.r rfl (by rw [hfin])) (RVs.c (RV.i rfl (by first | (rw [foI, hfin, if_pos ho2]) | (rw [foI, hfin, if_neg (by rw [ho2]; simp)]))) RVs.e))) (AOs.r AOs.e)
set_option maxHeartbeats 4000000 in
theorem laws_FnFolds_fn (code : List Int) : Eng.Fn E.P 8 [.one (.r (sl 1 cU code))] (.one (.one (.w (.v (.bool true))))) [.one (.r (sl 1 cU code))] := by
 refine Eng.Fn.intro (E := E) (rvs := [.tmp 2]) Tryd.func8 rfl rfl rfl (by simp [outSlots, moved, rvSlot, sl]) ?_
 intro B g bo
 refine CW.bound (x := .tmp 0) (n := code.length) (AsT.r) (fun hl0 => ?_)
 refine CW.keep 98 [0] rfl ?_;(conv=>whnf);refine ⟨?_⟩
 have hG := foG hl0
 have hE1 : ∀ e ∈ (foE code).1.take (nI code), entOk e := fun e h => hG.e e (List.mem_of_mem_take h)
 have hE2 : ∀ e ∈ (foE code).1.drop (nI code), entOk e := fun e h => hG.e e (List.mem_of_mem_drop h)
 refine CW.k XK 98 1 [0] rfl ?_
 (conv=>whnf);refine ⟨rfl,?_⟩
 refine CW.seq ?_
 refine CW.seq ?_
 refine CW.region ?_
 refine RW.k XK 98 1 rfl ?_
 (conv=>whnf);refine ⟨rfl,?_⟩
 refine RW.call rfl (laws_big_fn code) rfl (.cons (.one (.r .r)) (.nil)) fun g1 => ?_
 refine RW.nil ?_
 refine CW.keep 98 [0,16] rfl ?_;(conv=>whnf);refine ⟨?_⟩
 refine CW.cond rfl (fun h2 => ?_) (fun h2 => ?_)
 ·skip
  refine CW.k XK 98 1 [2] rfl ?_
  (conv=>whnf);refine ⟨rfl,?_⟩
  refine CW.ret ?_
  exact Post.one (RV.b rfl (by rfl)) (AOs.r AOs.e)
 ·skip
  refine CW.skip ?_
  refine CW.keep 98 [0] rfl ?_;(conv=>whnf);refine ⟨?_⟩
  refine CW.seq ?_
  refine CW.region ?_
  refine RW.k XK 98 1 rfl ?_
  (conv=>whnf);refine ⟨rfl,?_⟩
  refine RW.call rfl (spec_DrawFold_fn code) rfl (.cons (.one (.r .r)) (.nil)) fun g3 => ?_
  refine RW.k XK 98 6 rfl ?_
  (conv=>whnf);intro b4;(conv=>whnf);refine ⟨rfl,?_⟩
  refine RW.freezeB (ts := (Keep.c ((foK code).1))) 3 rfl (DRd.r (DRd.r DRd.e)) ?_
  refine RW.k XK 98 2 rfl ?_
  (conv=>whnf);refine ⟨rfl,?_⟩
  refine RW.nil ?_
  refine CW.keep 98 [0,3,4,5] rfl ?_;(conv=>whnf);refine ⟨?_⟩
  refine CW.seq ?_
  refine CW.region ?_
  refine RW.k XK 98 3 rfl ?_
  (conv=>whnf);refine ⟨rfl,?_⟩
  refine RW.call rfl (impl_Fold_fn ((foK code).1) ((foE code).1) (foI code) hG.k (by first | exact hG.e | exact hE1) (by have h9 := hG.n; first | omega | (rw [List.length_take]; omega) | (rw [List.length_drop]; omega))) rfl (.cons (.agg (.cons (.r .r) (.cons (.r .r) (.nil)))) (.cons (.one (.r .r)) (.cons (.one (.r .r)) (.nil)))) fun g5 => ?_
  refine RW.k XK 98 5 rfl ?_
  (conv=>whnf);intro b6;(conv=>whnf);refine ⟨rfl,?_⟩
  refine RW.freezeB (ts := (Keep.c ((foldR (foI code) ((foE code).1) 0 ((foK code).1)).1))) 6 rfl (DRd.r (DRd.r DRd.e)) ?_
  refine RW.k XK 98 1 rfl ?_
  (conv=>whnf);refine ⟨rfl,?_⟩
  refine RW.nil ?_
  refine CW.keep 98 [0,3,4,5,6,7] rfl ?_;(conv=>whnf);refine ⟨?_⟩
  refine CW.seq ?_
  refine CW.region ?_
  refine RW.k XK 98 3 rfl ?_
  (conv=>whnf);refine ⟨rfl,?_⟩
  refine RW.call rfl (spec_Fold_fn ((foK code).1) ((foE code).1) (foI code) hG.k hG.e (by have h9 := hG.n; first | omega | (rw [List.length_take]; omega) | (rw [List.length_drop]; omega)) hG.i) rfl (.cons (.agg (.cons (.r .r) (.cons (.r .r) (.nil)))) (.cons (.one (.r .r)) (.cons (.one (.r .r)) (.nil)))) fun g7 => ?_
  refine RW.k XK 98 5 rfl ?_
  (conv=>whnf);intro b8;(conv=>whnf);refine ⟨rfl,?_⟩
  refine RW.freezeB (ts := (Keep.c ((foldR (foI code) ((foE code).1) 0 ((foK code).1)).1))) 8 rfl (DRd.r (DRd.r DRd.e)) ?_
  refine RW.k XK 98 1 rfl ?_
  (conv=>whnf);refine ⟨rfl,?_⟩
  refine RW.nil ?_
  refine CW.keep 98 [0,3,4,5,6,7,8,9] rfl ?_;(conv=>whnf);refine ⟨?_⟩
  refine CW.seq ?_
  refine CW.seqJ 98 (fun (v9 : Bool) => [(0, .r (sl 1 cU code)), (3, .rp (Keep.c ((foK code).1))), (4, .r (sl 3 Entry.c ((foE code).1))), (5, I (foI code)), (6, .rp (Keep.c ((foldR (foI code) ((foE code).1) 0 ((foK code).1)).1))), (7, .r (sl 1 cS ((foldR (foI code) ((foE code).1) 0 ((foK code).1)).2))), (46, Bo v9)]) (fun v9 => v9 = ((!(eqS eqStr ((foldR (foI code) ((foE code).1) 0 ((foK code).1)).2) ((foldR (foI code) ((foE code).1) 0 ((foK code).1)).2))) || (!(eqKeep ((foldR (foI code) ((foE code).1) 0 ((foK code).1)).1) ((foldR (foI code) ((foE code).1) 0 ((foK code).1)).1))))) ?_ ?_
  ·refine CW.region ?_
   refine RW.k XK 98 2 rfl ?_
   (conv=>whnf);refine ⟨rfl,?_⟩
   refine RW.call rfl (laws_sameTexts_fn ((foldR (foI code) ((foE code).1) 0 ((foK code).1)).2) ((foldR (foI code) ((foE code).1) 0 ((foK code).1)).2)) rfl (.cons (.one (.r .r)) (.cons (.one (.r .r)) (.nil))) fun g10 => ?_
   refine RW.k XK 98 2 rfl ?_
   (conv=>whnf);refine ⟨rfl,?_⟩
   refine RW.gv rfl rfl rfl rfl (fun h11 => V.loadAggR rfl rfl rfl rfl (Nat.le_of_ble_eq_true rfl)) (fun h11 => ?_) (fun h11 => ?_)
   ·skip
    refine RW.k XK 98 1 rfl ?_
    (conv=>whnf);refine ⟨rfl,?_⟩
    refine RW.gcall rfl rfl rfl rfl (spec_SameKeep_fn ((foldR (foI code) ((foE code).1) 0 ((foK code).1)).1) ((foldR (foI code) ((foE code).1) 0 ((foK code).1)).1) (foldR_ok _ _ _ _ hG.k).okTo) rfl (.cons (.agg (.cons (.r .r) (.cons (.r .r) (.nil)))) (.cons (.agg (.cons (.r .r) (.cons (.r .r) (.nil)))) (.nil))) fun g12 => ?_
    refine RW.k XK 98 2 rfl ?_
    (conv=>whnf);refine ⟨rfl,?_⟩
    refine RW.nil ?_
    exact ⟨_, by first | rfl | (simp_all; done) | (simp_all; omega) | grind, rfl, Le.of rfl⟩
   ·skip
    refine RW.k XK 98 4 rfl ?_
    (conv=>whnf);refine ⟨rfl,?_⟩
    refine RW.nil ?_
    exact ⟨_, by first | rfl | (simp_all; done) | (simp_all; omega) | grind, rfl, Le.of rfl⟩
  ·intro v9 hv13
   refine CW.cond rfl (fun h14 => ?_) (fun h14 => ?_)
   ·skip
    refine CW.k XK 98 1 [2] rfl ?_
    (conv=>whnf);refine ⟨rfl,?_⟩
    refine CW.ret ?_
    exact Post.one (RV.b rfl (by exfalso; have h9 := hv13.symm.trans h14; simp [eqKeep_refl, eqS_refl eqStr_refl] at h9)) (AOs.r AOs.e)
   ·skip
    refine CW.skip ?_
    refine CW.keep 98 [0,3,4,5,6,7] rfl ?_;(conv=>whnf);refine ⟨?_⟩
    refine CW.seq ?_
    refine CW.seqJ 98 (fun (v15 : Bool) => [(0, .r (sl 1 cU code)), (3, .rp (Keep.c ((foK code).1))), (4, .r (sl 3 Entry.c ((foE code).1))), (5, I (foI code)), (6, .rp (Keep.c ((foldR (foI code) ((foE code).1) 0 ((foK code).1)).1))), (7, .r (sl 1 cS ((foldR (foI code) ((foE code).1) 0 ((foK code).1)).2))), (52, Bo v15)]) (fun v15 => v15 = (decide ((foI code) < 1) || decide ((foI code) > 1000))) ?_ ?_
    ·refine CW.region ?_
     refine RW.k XK 98 3 rfl ?_
     (conv=>whnf);refine ⟨rfl,?_⟩
     refine RW.gv rfl rfl rfl rfl (fun h16 => V.mv (d := I (foI code)) rfl rfl) (fun h16 => ?_) (fun h16 => ?_)
     ·skip
      refine RW.k XK 98 2 rfl ?_
      (conv=>whnf);refine ⟨rfl,?_⟩
      refine RW.nil ?_
      exact ⟨_, by first | rfl | (simp_all; done) | (simp_all; omega) | grind, rfl, Le.of rfl⟩
     ·skip
      refine RW.k XK 98 2 rfl ?_
      (conv=>whnf);refine ⟨rfl,?_⟩
      refine RW.nil ?_
      exact ⟨_, by first | rfl | (simp_all; done) | (simp_all; omega) | grind, rfl, Le.of rfl⟩
    ·intro v15 hv17
     refine CW.cond rfl (fun h18 => ?_) (fun h18 => ?_)
     ·skip
      refine CW.k XK 98 1 [2] rfl ?_
      (conv=>whnf);refine ⟨rfl,?_⟩
      refine CW.ret ?_
      exact Post.one (RV.b rfl (by rw [foldR_len]; simp)) (AOs.r AOs.e)
     ·skip
      refine CW.skip ?_
      refine CW.keep 98 [0,3,4,5,6,7] rfl ?_;(conv=>whnf);refine ⟨?_⟩
      refine CW.seq ?_
      refine CW.region ?_
      refine RW.k XK 98 1 rfl ?_
      (conv=>whnf);refine ⟨rfl,?_⟩
      refine RW.call rfl (spec_DrawPlaces_fn code) rfl (.cons (.one (.r .r)) (.nil)) fun g19 => ?_
      refine RW.v rfl (V.indexZ (m := 0) (v := ((drawPlaces code).getD 0 0)) rfl rfl rfl rfl rfl rfl rfl cI.len (getD_some (by rw [draw_len]; decide))) ?_
      refine RW.k XK 98 4 rfl ?_
      (conv=>whnf);refine ⟨rfl,?_⟩
      refine RW.v rfl (V.rem rfl rfl rfl (nI_nz hG)) ?_
      refine RW.k XK 98 1 rfl ?_
      (conv=>whnf);refine ⟨rfl,?_⟩
      refine RW.nil ?_
      refine CW.keep 98 [3,4,5,6,7,10] rfl ?_;(conv=>whnf);refine ⟨?_⟩
      refine CW.anyJ2 (fc := []) (L0 := [(4, .r (sl 3 Entry.c ((foE code).1))), (5, I (foI code)), (6, .rp (Keep.c ((foldR (foI code) ((foE code).1) 0 ((foK code).1)).1))), (7, .r (sl 1 cS ((foldR (foI code) ((foE code).1) 0 ((foK code).1)).2))), (10, I (Int.tmod ((drawPlaces code).getD 0 0) (IntKind.i64.wrap ((((foE code).1).length : Int) + 1))))]) 98 (fun (zz : Nat × (Nat → Nat → Value)) => match zz with | (bo20_9_1, go20_5_1) => [(11, .obj bo20_9_1 ((Keep.c ((foldR (foI code) (((foE code).1).take (nI code)) 0 ((foK code).1)).1)).map .r)), (12, .r (sl 1 cS ((foldR (foI code) (((foE code).1).take (nI code)) 0 ((foK code).1)).2)))]) (fun all hall f hf b0 hb K hK => ?_) ?_
      ·skip
       have ro20_13 : ∀ B, ∀ (bo20_9_1 : Nat), ∀ (go20_5_1 : Nat → Nat → Value), RA f E B all 0 (bt 12 4095) ⟨98, [(11, .obj bo20_9_1 ((Keep.c ((foldR (foI code) (((foE code).1).take (nI code)) 0 ((foK code).1)).1)).map .r)), (12, .r (sl 1 cS ((foldR (foI code) (((foE code).1).take (nI code)) 0 ((foK code).1)).2)))] ++ b0⟩ K := by
        intro B bo20_9_1 go20_5_1
        exact RA.of2 hall hf hb (RA.finH (Tell.of rfl) (by kernel_rfl) (hK (bo20_9_1, go20_5_1) _ rfl (Le.of rfl)))
       have ro20_12 : ∀ B, ∀ (bo20_9_1 : Nat), ∀ (go20_5_1 : Nat → Nat → Value), RA f E B all 2 (bt 12 1791) ⟨98, [(11, .obj bo20_9_1 ((Keep.c ((foldR (foI code) (((foE code).1).take (nI code)) 0 ((foK code).1)).1)).map .r)), (66, .tup [.u, .r (sl 1 cS ((foldR (foI code) (((foE code).1).take (nI code)) 0 ((foK code).1)).2))])] ++ b0⟩ K := by
        intro B bo20_9_1 go20_5_1
        refine RA.of2 hall hf hb (RA.stepH (L := [8]) (Tell.of rfl) (by kernel_rfl) (by simp) (RA.each ?_ (RA.each0)))
        ·skip
         refine RO.extract (d := .r (sl 1 cS ((foldR (foI code) (((foE code).1).take (nI code)) 0 ((foK code).1)).2))) rfl rfl rfl rfl rfl (by decide) (Nat.le_of_ble_eq_true rfl) rfl rfl ?_
         refine RA.fr XK 98 0 [11] (bt 12 4095) rfl rfl (by kernel_rfl) (Tell.of rfl) ?_
         (conv=>whnf);refine ⟨rfl,fun B=>?_⟩
         exact RA.to2 hall hf hb (ro20_13 B bo20_9_1 go20_5_1) rfl rfl (by kernel_rfl)
       have ro20_11 : ∀ B, ∀ (bo20_9_1 : Nat), ∀ (go20_5_1 : Nat → Nat → Value), RA f E B all 2 (bt 12 1023) ⟨98, [(11, .obj bo20_9_1 [.r (.v (.slice none 0 0)), .r (.v (.slice none 0 0))]), (73, .agg ((Keep.c ((foldR (foI code) (((foE code).1).take (nI code)) 0 ((foK code).1)).1)).map .r)), (74, .r (sl 1 cS ((foldR (foI code) (((foE code).1).take (nI code)) 0 ((foK code).1)).2)))] ++ b0⟩ K := by
        intro B bo20_9_1 go20_5_1
        refine RA.of2 hall hf hb (RA.stepH (L := [10]) (Tell.of rfl) (by kernel_rfl) (by simp) (RA.each ?_ (RA.each0)))
        ·skip
         refine RO.storeAgg (es := ((Keep.c ((foldR (foI code) (((foE code).1).take (nI code)) 0 ((foK code).1)).1)).map .r)) rfl rfl rfl rfl rfl rfl rfl rfl rfl rfl (Nat.le_of_ble_eq_true rfl) rfl ?_
         refine RA.fr XK 98 0 [11] (bt 12 4095) rfl rfl (by kernel_rfl) (Tell.of rfl) ?_
         (conv=>whnf);refine ⟨rfl,fun B=>?_⟩
         exact RA.to2 hall hf hb (ro20_13 B bo20_9_1 go20_5_1) rfl rfl (by kernel_rfl)
       have ro20_10 : ∀ B, ∀ (bo20_9_1 : Nat), ∀ (go20_5_1 : Nat → Nat → Value), RA f E B all 3 (bt 12 895) ⟨98, [(11, .obj bo20_9_1 [.r (.v (.slice none 0 0)), .r (.v (.slice none 0 0))]), (66, .tup [.agg ((Keep.c ((foldR (foI code) (((foE code).1).take (nI code)) 0 ((foK code).1)).1)).map .r), .u]), (74, .r (sl 1 cS ((foldR (foI code) (((foE code).1).take (nI code)) 0 ((foK code).1)).2)))] ++ b0⟩ K := by
        intro B bo20_9_1 go20_5_1
        refine RA.of2 hall hf hb (RA.stepH (L := [7]) (Tell.of rfl) (by kernel_rfl) (by simp) (RA.each ?_ (RA.each0)))
        ·skip
         refine RO.extract (d := .agg ((Keep.c ((foldR (foI code) (((foE code).1).take (nI code)) 0 ((foK code).1)).1)).map .r)) rfl rfl rfl rfl rfl (by decide) (Nat.le_of_ble_eq_true rfl) rfl rfl ?_
         exact RA.to2 hall hf hb (ro20_11 B bo20_9_1 go20_5_1) rfl rfl (by kernel_rfl)
       have ro20_9 : ∀ B, ∀ (bo20_9_1 : Nat), ∀ (go20_5_1 : Nat → Nat → Value), RA f E B all 3 (bt 12 767) ⟨98, [(11, .obj bo20_9_1 [.r (.v (.slice none 0 0)), .r (.v (.slice none 0 0))]), (66, .tup [.u, .r (sl 1 cS ((foldR (foI code) (((foE code).1).take (nI code)) 0 ((foK code).1)).2))]), (73, .agg ((Keep.c ((foldR (foI code) (((foE code).1).take (nI code)) 0 ((foK code).1)).1)).map .r))] ++ b0⟩ K := by
        intro B bo20_9_1 go20_5_1
        refine RA.of2 hall hf hb (RA.stepH (L := [8, 10]) (Tell.of rfl) (by kernel_rfl) (by simp) (RA.each ?_ (RA.each ?_ (RA.each0))))
        ·skip
         refine RO.extract (d := .r (sl 1 cS ((foldR (foI code) (((foE code).1).take (nI code)) 0 ((foK code).1)).2))) rfl rfl rfl rfl rfl (by decide) (Nat.le_of_ble_eq_true rfl) rfl rfl ?_
         exact RA.to2 hall hf hb (ro20_11 B bo20_9_1 go20_5_1) rfl rfl (by kernel_rfl)
        ·skip
         refine RO.storeAgg (es := ((Keep.c ((foldR (foI code) (((foE code).1).take (nI code)) 0 ((foK code).1)).1)).map .r)) rfl rfl rfl rfl rfl rfl rfl rfl rfl rfl (Nat.le_of_ble_eq_true rfl) rfl ?_
         exact RA.to2 hall hf hb (ro20_12 B bo20_9_1 go20_5_1) rfl rfl (by kernel_rfl)
       have ro20_8 : ∀ B, ∀ (go20_5_1 : Nat → Nat → Value), RA f E B all 3 (bt 12 511) ⟨98, [(73, .agg ((Keep.c ((foldR (foI code) (((foE code).1).take (nI code)) 0 ((foK code).1)).1)).map .r)), (74, .r (sl 1 cS ((foldR (foI code) (((foE code).1).take (nI code)) 0 ((foK code).1)).2)))] ++ b0⟩ K := by
        intro B go20_5_1
        refine RA.of2 hall hf hb (RA.stepH (L := [9]) (Tell.of rfl) (by kernel_rfl) (by simp) (RA.each ?_ (RA.each0)))
        ·skip
         refine RO.alloc (ds := [.r (.v (.slice none 0 0)), .r (.v (.slice none 0 0))]) rfl rfl rfl rfl rfl rfl fun bo20_9_1 => ?_
         exact RA.to2 hall hf hb (ro20_11 B bo20_9_1 go20_5_1) rfl rfl (by kernel_rfl)
       have ro20_7 : ∀ B, ∀ (bo20_9_1 : Nat), ∀ (go20_5_1 : Nat → Nat → Value), RA f E B all 4 (bt 12 639) ⟨98, [(11, .obj bo20_9_1 [.r (.v (.slice none 0 0)), .r (.v (.slice none 0 0))]), (66, .tup [.agg ((Keep.c ((foldR (foI code) (((foE code).1).take (nI code)) 0 ((foK code).1)).1)).map .r), .r (sl 1 cS ((foldR (foI code) (((foE code).1).take (nI code)) 0 ((foK code).1)).2))])] ++ b0⟩ K := by
        intro B bo20_9_1 go20_5_1
        refine RA.of2 hall hf hb (RA.stepH (L := [7, 8]) (Tell.of rfl) (by kernel_rfl) (by simp) (RA.each ?_ (RA.each ?_ (RA.each0))))
        ·skip
         refine RO.extract (d := .agg ((Keep.c ((foldR (foI code) (((foE code).1).take (nI code)) 0 ((foK code).1)).1)).map .r)) rfl rfl rfl rfl rfl (by decide) (Nat.le_of_ble_eq_true rfl) rfl rfl ?_
         exact RA.to2 hall hf hb (ro20_9 B bo20_9_1 go20_5_1) rfl rfl (by kernel_rfl)
        ·skip
         refine RO.extract (d := .r (sl 1 cS ((foldR (foI code) (((foE code).1).take (nI code)) 0 ((foK code).1)).2))) rfl rfl rfl rfl rfl (by decide) (Nat.le_of_ble_eq_true rfl) rfl rfl ?_
         exact RA.to2 hall hf hb (ro20_10 B bo20_9_1 go20_5_1) rfl rfl (by kernel_rfl)
       have ro20_6 : ∀ B, ∀ (go20_5_1 : Nat → Nat → Value), RA f E B all 4 (bt 12 383) ⟨98, [(66, .tup [.agg ((Keep.c ((foldR (foI code) (((foE code).1).take (nI code)) 0 ((foK code).1)).1)).map .r), .u]), (74, .r (sl 1 cS ((foldR (foI code) (((foE code).1).take (nI code)) 0 ((foK code).1)).2)))] ++ b0⟩ K := by
        intro B go20_5_1
        refine RA.of2 hall hf hb (RA.stepH (L := [7, 9]) (Tell.of rfl) (by kernel_rfl) (by simp) (RA.each ?_ (RA.each ?_ (RA.each0))))
        ·skip
         refine RO.extract (d := .agg ((Keep.c ((foldR (foI code) (((foE code).1).take (nI code)) 0 ((foK code).1)).1)).map .r)) rfl rfl rfl rfl rfl (by decide) (Nat.le_of_ble_eq_true rfl) rfl rfl ?_
         exact RA.to2 hall hf hb (ro20_8 B go20_5_1) rfl rfl (by kernel_rfl)
        ·skip
         refine RO.alloc (ds := [.r (.v (.slice none 0 0)), .r (.v (.slice none 0 0))]) rfl rfl rfl rfl rfl rfl fun bo20_9_1 => ?_
         exact RA.to2 hall hf hb (ro20_10 B bo20_9_1 go20_5_1) rfl rfl (by kernel_rfl)
       have ro20_5 : ∀ B, ∀ (go20_5_1 : Nat → Nat → Value), RA f E B all 4 (bt 12 255) ⟨98, [(66, .tup [.u, .r (sl 1 cS ((foldR (foI code) (((foE code).1).take (nI code)) 0 ((foK code).1)).2))]), (73, .agg ((Keep.c ((foldR (foI code) (((foE code).1).take (nI code)) 0 ((foK code).1)).1)).map .r))] ++ b0⟩ K := by
        intro B go20_5_1
        refine RA.of2 hall hf hb (RA.stepH (L := [8, 9]) (Tell.of rfl) (by kernel_rfl) (by simp) (RA.each ?_ (RA.each ?_ (RA.each0))))
        ·skip
         refine RO.extract (d := .r (sl 1 cS ((foldR (foI code) (((foE code).1).take (nI code)) 0 ((foK code).1)).2))) rfl rfl rfl rfl rfl (by decide) (Nat.le_of_ble_eq_true rfl) rfl rfl ?_
         exact RA.to2 hall hf hb (ro20_8 B go20_5_1) rfl rfl (by kernel_rfl)
        ·skip
         refine RO.alloc (ds := [.r (.v (.slice none 0 0)), .r (.v (.slice none 0 0))]) rfl rfl rfl rfl rfl rfl fun bo20_9_1 => ?_
         exact RA.to2 hall hf hb (ro20_9 B bo20_9_1 go20_5_1) rfl rfl (by kernel_rfl)
       have ro20_4 : ∀ B, ∀ (bo20_9_1 : Nat), ∀ (go20_5_1 : Nat → Nat → Value), RA f E B all 5 (bt 12 575) ⟨98, [(11, .obj bo20_9_1 [.r (.v (.slice none 0 0)), .r (.v (.slice none 0 0))]), (72, .tup [.agg ((Keep.c ((foldR (foI code) (((foE code).1).take (nI code)) 0 ((foK code).1)).1)).map .r), .r (sl 1 cS ((foldR (foI code) (((foE code).1).take (nI code)) 0 ((foK code).1)).2))])] ++ b0⟩ K := by
        intro B bo20_9_1 go20_5_1
        refine RA.of2 hall hf hb (RA.stepH (L := [6]) (Tell.of rfl) (by kernel_rfl) (by simp) (RA.each ?_ (RA.each0)))
        ·skip
         refine RO.moveMove rfl rfl rfl rfl rfl (by decide) (Nat.le_of_ble_eq_true rfl) (Nat.le_of_ble_eq_true rfl) ?_
         exact RA.to2 hall hf hb (ro20_7 B bo20_9_1 go20_5_1) rfl rfl (by kernel_rfl)
       have ro20_3 : ∀ B, ∀ (go20_5_1 : Nat → Nat → Value), RA f E B all 5 (bt 12 127) ⟨98, [(66, .tup [.agg ((Keep.c ((foldR (foI code) (((foE code).1).take (nI code)) 0 ((foK code).1)).1)).map .r), .r (sl 1 cS ((foldR (foI code) (((foE code).1).take (nI code)) 0 ((foK code).1)).2))])] ++ b0⟩ K := by
        intro B go20_5_1
        refine RA.of2 hall hf hb (RA.stepH (L := [7, 8, 9]) (Tell.of rfl) (by kernel_rfl) (by simp) (RA.each ?_ (RA.each ?_ (RA.each ?_ (RA.each0)))))
        ·skip
         refine RO.extract (d := .agg ((Keep.c ((foldR (foI code) (((foE code).1).take (nI code)) 0 ((foK code).1)).1)).map .r)) rfl rfl rfl rfl rfl (by decide) (Nat.le_of_ble_eq_true rfl) rfl rfl ?_
         exact RA.to2 hall hf hb (ro20_5 B go20_5_1) rfl rfl (by kernel_rfl)
        ·skip
         refine RO.extract (d := .r (sl 1 cS ((foldR (foI code) (((foE code).1).take (nI code)) 0 ((foK code).1)).2))) rfl rfl rfl rfl rfl (by decide) (Nat.le_of_ble_eq_true rfl) rfl rfl ?_
         exact RA.to2 hall hf hb (ro20_6 B go20_5_1) rfl rfl (by kernel_rfl)
        ·skip
         refine RO.alloc (ds := [.r (.v (.slice none 0 0)), .r (.v (.slice none 0 0))]) rfl rfl rfl rfl rfl rfl fun bo20_9_1 => ?_
         exact RA.to2 hall hf hb (ro20_7 B bo20_9_1 go20_5_1) rfl rfl (by kernel_rfl)
       have ro20_2 : ∀ B, ∀ (bo20_9_1 : Nat), RA f E B all 6 (bt 12 543) ⟨98, [(11, .obj bo20_9_1 [.r (.v (.slice none 0 0)), .r (.v (.slice none 0 0))]), (67, .agg ((Keep.c ((foK code).1)).map .r)), (70, .r (sl 3 Entry.c (((foE code).1).take (nI code)))), (71, I (foI code))] ++ b0⟩ K := by
        intro B bo20_9_1
        refine RA.of2 hall hf hb (RA.stepH (L := [5]) (Tell.of rfl) (by kernel_rfl) (by simp) (RA.each ?_ (RA.each0)))
        ·skip
         refine RO.call rfl rfl (impl_Fold_fn ((foK code).1) (((foE code).1).take (nI code)) (foI code) hG.k (by first | exact hG.e | exact hE1) (by have h9 := hG.n; first | omega | (rw [List.length_take]; omega) | (rw [List.length_drop]; omega))) rfl (.cons (.agg (.cons (.r .r) (.cons (.r .r) (.nil)))) (.cons (.one (.r .r)) (.cons (.one (.r .r)) (.nil)))) rfl fun go20_5_1 => ?_
         exact RA.to2 hall hf hb (ro20_4 B bo20_9_1 go20_5_1) rfl rfl (by kernel_rfl)
       have ro20_1 : ∀ B, ∀ (go20_5_1 : Nat → Nat → Value), RA f E B all 6 (bt 12 63) ⟨98, [(72, .tup [.agg ((Keep.c ((foldR (foI code) (((foE code).1).take (nI code)) 0 ((foK code).1)).1)).map .r), .r (sl 1 cS ((foldR (foI code) (((foE code).1).take (nI code)) 0 ((foK code).1)).2))])] ++ b0⟩ K := by
        intro B go20_5_1
        refine RA.of2 hall hf hb (RA.stepH (L := [6, 9]) (Tell.of rfl) (by kernel_rfl) (by simp) (RA.each ?_ (RA.each ?_ (RA.each0))))
        ·skip
         refine RO.moveMove rfl rfl rfl rfl rfl (by decide) (Nat.le_of_ble_eq_true rfl) (Nat.le_of_ble_eq_true rfl) ?_
         exact RA.to2 hall hf hb (ro20_3 B go20_5_1) rfl rfl (by kernel_rfl)
        ·skip
         refine RO.alloc (ds := [.r (.v (.slice none 0 0)), .r (.v (.slice none 0 0))]) rfl rfl rfl rfl rfl rfl fun bo20_9_1 => ?_
         exact RA.to2 hall hf hb (ro20_4 B bo20_9_1 go20_5_1) rfl rfl (by kernel_rfl)
       have ro20_0 : ∀ B, RA f E B all 7 (bt 12 31) ⟨98, [(67, .agg ((Keep.c ((foK code).1)).map .r)), (70, .r (sl 3 Entry.c (((foE code).1).take (nI code)))), (71, I (foI code))] ++ b0⟩ K := by
        intro B
        refine RA.of2 hall hf hb (RA.stepH (L := [5, 9]) (Tell.of rfl) (by kernel_rfl) (by simp) (RA.each ?_ (RA.each ?_ (RA.each0))))
        ·skip
         refine RO.call rfl rfl (impl_Fold_fn ((foK code).1) (((foE code).1).take (nI code)) (foI code) hG.k (by first | exact hG.e | exact hE1) (by have h9 := hG.n; first | omega | (rw [List.length_take]; omega) | (rw [List.length_drop]; omega))) rfl (.cons (.agg (.cons (.r .r) (.cons (.r .r) (.nil)))) (.cons (.one (.r .r)) (.cons (.one (.r .r)) (.nil)))) rfl fun go20_5_1 => ?_
         exact RA.to2 hall hf hb (ro20_1 B go20_5_1) rfl rfl (by kernel_rfl)
        ·skip
         refine RO.alloc (ds := [.r (.v (.slice none 0 0)), .r (.v (.slice none 0 0))]) rfl rfl rfl rfl rfl rfl fun bo20_9_1 => ?_
         exact RA.to2 hall hf hb (ro20_2 B bo20_9_1) rfl rfl (by kernel_rfl)
       refine RA.start (by kernel_rfl) (by kernel_rfl) (m := 12) (ls' := (bt 12 0)) ?_
       refine RA.fr XK 98 9 [0,1,2] (bt 12 7) rfl rfl (by kernel_rfl) (Tell.of rfl) ?_
       (conv=>whnf);refine ⟨rfl,fun B=>?_⟩
       refine RA.first (i := 3) (ls' := (bt 12 15)) (Tell.of rfl) (by kernel_rfl) rfl rfl rfl (VF.p (V.takeSZ (m := (nI code)) rfl rfl rfl rfl rfl rfl (nI_eq hG).symm Entry.len (nI_le hG))) ?_
       refine RA.fr XK 98 7 [4] (bt 12 31) rfl rfl (by kernel_rfl) (Tell.of rfl) ?_
       (conv=>whnf);refine ⟨rfl,fun B=>?_⟩
       exact RA.to2 hall hf hb (ro20_0 B) rfl rfl (by kernel_rfl)
      ·rintro ⟨bo20_9_1, go20_5_1⟩
       refine CW.anyJ2 (fc := []) (L0 := [(6, .rp (Keep.c ((foldR (foI code) ((foE code).1) 0 ((foK code).1)).1))), (7, .r (sl 1 cS ((foldR (foI code) ((foE code).1) 0 ((foK code).1)).2))), (12, .r (sl 1 cS ((foldR (foI code) (((foE code).1).take (nI code)) 0 ((foK code).1)).2)))]) 98 (fun (zz : Nat × (Nat → Nat → Value)) => match zz with | (bo21_11_1, go21_7_1) => [(13, .obj bo21_11_1 ((Keep.c ((foldR (IntKind.i64.wrap ((foI code) + (Int.tmod ((drawPlaces code).getD 0 0) (IntKind.i64.wrap ((((foE code).1).length : Int) + 1))))) (((foE code).1).drop (nI code)) 0 ((foldR (foI code) (((foE code).1).take (nI code)) 0 ((foK code).1)).1)).1)).map .r)), (14, .r (sl 1 cS ((foldR (IntKind.i64.wrap ((foI code) + (Int.tmod ((drawPlaces code).getD 0 0) (IntKind.i64.wrap ((((foE code).1).length : Int) + 1))))) (((foE code).1).drop (nI code)) 0 ((foldR (foI code) (((foE code).1).take (nI code)) 0 ((foK code).1)).1)).2)))]) (fun all hall f hf b0 hb K hK => ?_) ?_
       ·skip
        have ro21_15 : ∀ B, ∀ (bo21_11_1 : Nat), ∀ (go21_7_1 : Nat → Nat → Value), RA f E B all 0 (bt 14 16383) ⟨98, [(13, .obj bo21_11_1 ((Keep.c ((foldR (IntKind.i64.wrap ((foI code) + (Int.tmod ((drawPlaces code).getD 0 0) (IntKind.i64.wrap ((((foE code).1).length : Int) + 1))))) (((foE code).1).drop (nI code)) 0 ((foldR (foI code) (((foE code).1).take (nI code)) 0 ((foK code).1)).1)).1)).map .r)), (14, .r (sl 1 cS ((foldR (IntKind.i64.wrap ((foI code) + (Int.tmod ((drawPlaces code).getD 0 0) (IntKind.i64.wrap ((((foE code).1).length : Int) + 1))))) (((foE code).1).drop (nI code)) 0 ((foldR (foI code) (((foE code).1).take (nI code)) 0 ((foK code).1)).1)).2)))] ++ b0⟩ K := by
         intro B bo21_11_1 go21_7_1
         exact RA.of2 hall hf hb (RA.finH (Tell.of rfl) (by kernel_rfl) (hK (bo21_11_1, go21_7_1) _ rfl (Le.of rfl)))
        have ro21_14 : ∀ B, ∀ (bo21_11_1 : Nat), ∀ (go21_7_1 : Nat → Nat → Value), RA f E B all 2 (bt 14 7167) ⟨98, [(13, .obj bo21_11_1 ((Keep.c ((foldR (IntKind.i64.wrap ((foI code) + (Int.tmod ((drawPlaces code).getD 0 0) (IntKind.i64.wrap ((((foE code).1).length : Int) + 1))))) (((foE code).1).drop (nI code)) 0 ((foldR (foI code) (((foE code).1).take (nI code)) 0 ((foK code).1)).1)).1)).map .r)), (75, .tup [.u, .r (sl 1 cS ((foldR (IntKind.i64.wrap ((foI code) + (Int.tmod ((drawPlaces code).getD 0 0) (IntKind.i64.wrap ((((foE code).1).length : Int) + 1))))) (((foE code).1).drop (nI code)) 0 ((foldR (foI code) (((foE code).1).take (nI code)) 0 ((foK code).1)).1)).2))])] ++ b0⟩ K := by
         intro B bo21_11_1 go21_7_1
         refine RA.of2 hall hf hb (RA.stepH (L := [10]) (Tell.of rfl) (by kernel_rfl) (by simp) (RA.each ?_ (RA.each0)))
         ·skip
          refine RO.extract (d := .r (sl 1 cS ((foldR (IntKind.i64.wrap ((foI code) + (Int.tmod ((drawPlaces code).getD 0 0) (IntKind.i64.wrap ((((foE code).1).length : Int) + 1))))) (((foE code).1).drop (nI code)) 0 ((foldR (foI code) (((foE code).1).take (nI code)) 0 ((foK code).1)).1)).2))) rfl rfl rfl rfl rfl (by decide) (Nat.le_of_ble_eq_true rfl) rfl rfl ?_
          refine RA.fr XK 98 0 [13] (bt 14 16383) rfl rfl (by kernel_rfl) (Tell.of rfl) ?_
          (conv=>whnf);refine ⟨rfl,fun B=>?_⟩
          exact RA.to2 hall hf hb (ro21_15 B bo21_11_1 go21_7_1) rfl rfl (by kernel_rfl)
        have ro21_13 : ∀ B, ∀ (bo21_11_1 : Nat), ∀ (go21_7_1 : Nat → Nat → Value), RA f E B all 2 (bt 14 4095) ⟨98, [(13, .obj bo21_11_1 [.r (.v (.slice none 0 0)), .r (.v (.slice none 0 0))]), (84, .agg ((Keep.c ((foldR (IntKind.i64.wrap ((foI code) + (Int.tmod ((drawPlaces code).getD 0 0) (IntKind.i64.wrap ((((foE code).1).length : Int) + 1))))) (((foE code).1).drop (nI code)) 0 ((foldR (foI code) (((foE code).1).take (nI code)) 0 ((foK code).1)).1)).1)).map .r)), (85, .r (sl 1 cS ((foldR (IntKind.i64.wrap ((foI code) + (Int.tmod ((drawPlaces code).getD 0 0) (IntKind.i64.wrap ((((foE code).1).length : Int) + 1))))) (((foE code).1).drop (nI code)) 0 ((foldR (foI code) (((foE code).1).take (nI code)) 0 ((foK code).1)).1)).2)))] ++ b0⟩ K := by
         intro B bo21_11_1 go21_7_1
         refine RA.of2 hall hf hb (RA.stepH (L := [12]) (Tell.of rfl) (by kernel_rfl) (by simp) (RA.each ?_ (RA.each0)))
         ·skip
          refine RO.storeAgg (es := ((Keep.c ((foldR (IntKind.i64.wrap ((foI code) + (Int.tmod ((drawPlaces code).getD 0 0) (IntKind.i64.wrap ((((foE code).1).length : Int) + 1))))) (((foE code).1).drop (nI code)) 0 ((foldR (foI code) (((foE code).1).take (nI code)) 0 ((foK code).1)).1)).1)).map .r)) rfl rfl rfl rfl rfl rfl rfl rfl rfl rfl (Nat.le_of_ble_eq_true rfl) rfl ?_
          refine RA.fr XK 98 0 [13] (bt 14 16383) rfl rfl (by kernel_rfl) (Tell.of rfl) ?_
          (conv=>whnf);refine ⟨rfl,fun B=>?_⟩
          exact RA.to2 hall hf hb (ro21_15 B bo21_11_1 go21_7_1) rfl rfl (by kernel_rfl)
        have ro21_12 : ∀ B, ∀ (bo21_11_1 : Nat), ∀ (go21_7_1 : Nat → Nat → Value), RA f E B all 3 (bt 14 3583) ⟨98, [(13, .obj bo21_11_1 [.r (.v (.slice none 0 0)), .r (.v (.slice none 0 0))]), (75, .tup [.agg ((Keep.c ((foldR (IntKind.i64.wrap ((foI code) + (Int.tmod ((drawPlaces code).getD 0 0) (IntKind.i64.wrap ((((foE code).1).length : Int) + 1))))) (((foE code).1).drop (nI code)) 0 ((foldR (foI code) (((foE code).1).take (nI code)) 0 ((foK code).1)).1)).1)).map .r), .u]), (85, .r (sl 1 cS ((foldR (IntKind.i64.wrap ((foI code) + (Int.tmod ((drawPlaces code).getD 0 0) (IntKind.i64.wrap ((((foE code).1).length : Int) + 1))))) (((foE code).1).drop (nI code)) 0 ((foldR (foI code) (((foE code).1).take (nI code)) 0 ((foK code).1)).1)).2)))] ++ b0⟩ K := by
         intro B bo21_11_1 go21_7_1
         refine RA.of2 hall hf hb (RA.stepH (L := [9]) (Tell.of rfl) (by kernel_rfl) (by simp) (RA.each ?_ (RA.each0)))
         ·skip
          refine RO.extract (d := .agg ((Keep.c ((foldR (IntKind.i64.wrap ((foI code) + (Int.tmod ((drawPlaces code).getD 0 0) (IntKind.i64.wrap ((((foE code).1).length : Int) + 1))))) (((foE code).1).drop (nI code)) 0 ((foldR (foI code) (((foE code).1).take (nI code)) 0 ((foK code).1)).1)).1)).map .r)) rfl rfl rfl rfl rfl (by decide) (Nat.le_of_ble_eq_true rfl) rfl rfl ?_
          exact RA.to2 hall hf hb (ro21_13 B bo21_11_1 go21_7_1) rfl rfl (by kernel_rfl)
        have ro21_11 : ∀ B, ∀ (bo21_11_1 : Nat), ∀ (go21_7_1 : Nat → Nat → Value), RA f E B all 3 (bt 14 3071) ⟨98, [(13, .obj bo21_11_1 [.r (.v (.slice none 0 0)), .r (.v (.slice none 0 0))]), (75, .tup [.u, .r (sl 1 cS ((foldR (IntKind.i64.wrap ((foI code) + (Int.tmod ((drawPlaces code).getD 0 0) (IntKind.i64.wrap ((((foE code).1).length : Int) + 1))))) (((foE code).1).drop (nI code)) 0 ((foldR (foI code) (((foE code).1).take (nI code)) 0 ((foK code).1)).1)).2))]), (84, .agg ((Keep.c ((foldR (IntKind.i64.wrap ((foI code) + (Int.tmod ((drawPlaces code).getD 0 0) (IntKind.i64.wrap ((((foE code).1).length : Int) + 1))))) (((foE code).1).drop (nI code)) 0 ((foldR (foI code) (((foE code).1).take (nI code)) 0 ((foK code).1)).1)).1)).map .r))] ++ b0⟩ K := by
         intro B bo21_11_1 go21_7_1
         refine RA.of2 hall hf hb (RA.stepH (L := [10, 12]) (Tell.of rfl) (by kernel_rfl) (by simp) (RA.each ?_ (RA.each ?_ (RA.each0))))
         ·skip
          refine RO.extract (d := .r (sl 1 cS ((foldR (IntKind.i64.wrap ((foI code) + (Int.tmod ((drawPlaces code).getD 0 0) (IntKind.i64.wrap ((((foE code).1).length : Int) + 1))))) (((foE code).1).drop (nI code)) 0 ((foldR (foI code) (((foE code).1).take (nI code)) 0 ((foK code).1)).1)).2))) rfl rfl rfl rfl rfl (by decide) (Nat.le_of_ble_eq_true rfl) rfl rfl ?_
          exact RA.to2 hall hf hb (ro21_13 B bo21_11_1 go21_7_1) rfl rfl (by kernel_rfl)
         ·skip
          refine RO.storeAgg (es := ((Keep.c ((foldR (IntKind.i64.wrap ((foI code) + (Int.tmod ((drawPlaces code).getD 0 0) (IntKind.i64.wrap ((((foE code).1).length : Int) + 1))))) (((foE code).1).drop (nI code)) 0 ((foldR (foI code) (((foE code).1).take (nI code)) 0 ((foK code).1)).1)).1)).map .r)) rfl rfl rfl rfl rfl rfl rfl rfl rfl rfl (Nat.le_of_ble_eq_true rfl) rfl ?_
          exact RA.to2 hall hf hb (ro21_14 B bo21_11_1 go21_7_1) rfl rfl (by kernel_rfl)
        have ro21_10 : ∀ B, ∀ (go21_7_1 : Nat → Nat → Value), RA f E B all 3 (bt 14 2047) ⟨98, [(84, .agg ((Keep.c ((foldR (IntKind.i64.wrap ((foI code) + (Int.tmod ((drawPlaces code).getD 0 0) (IntKind.i64.wrap ((((foE code).1).length : Int) + 1))))) (((foE code).1).drop (nI code)) 0 ((foldR (foI code) (((foE code).1).take (nI code)) 0 ((foK code).1)).1)).1)).map .r)), (85, .r (sl 1 cS ((foldR (IntKind.i64.wrap ((foI code) + (Int.tmod ((drawPlaces code).getD 0 0) (IntKind.i64.wrap ((((foE code).1).length : Int) + 1))))) (((foE code).1).drop (nI code)) 0 ((foldR (foI code) (((foE code).1).take (nI code)) 0 ((foK code).1)).1)).2)))] ++ b0⟩ K := by
         intro B go21_7_1
         refine RA.of2 hall hf hb (RA.stepH (L := [11]) (Tell.of rfl) (by kernel_rfl) (by simp) (RA.each ?_ (RA.each0)))
         ·skip
          refine RO.alloc (ds := [.r (.v (.slice none 0 0)), .r (.v (.slice none 0 0))]) rfl rfl rfl rfl rfl rfl fun bo21_11_1 => ?_
          exact RA.to2 hall hf hb (ro21_13 B bo21_11_1 go21_7_1) rfl rfl (by kernel_rfl)
        have ro21_9 : ∀ B, ∀ (bo21_11_1 : Nat), ∀ (go21_7_1 : Nat → Nat → Value), RA f E B all 4 (bt 14 2559) ⟨98, [(13, .obj bo21_11_1 [.r (.v (.slice none 0 0)), .r (.v (.slice none 0 0))]), (75, .tup [.agg ((Keep.c ((foldR (IntKind.i64.wrap ((foI code) + (Int.tmod ((drawPlaces code).getD 0 0) (IntKind.i64.wrap ((((foE code).1).length : Int) + 1))))) (((foE code).1).drop (nI code)) 0 ((foldR (foI code) (((foE code).1).take (nI code)) 0 ((foK code).1)).1)).1)).map .r), .r (sl 1 cS ((foldR (IntKind.i64.wrap ((foI code) + (Int.tmod ((drawPlaces code).getD 0 0) (IntKind.i64.wrap ((((foE code).1).length : Int) + 1))))) (((foE code).1).drop (nI code)) 0 ((foldR (foI code) (((foE code).1).take (nI code)) 0 ((foK code).1)).1)).2))])] ++ b0⟩ K := by
         intro B bo21_11_1 go21_7_1
         refine RA.of2 hall hf hb (RA.stepH (L := [9, 10]) (Tell.of rfl) (by kernel_rfl) (by simp) (RA.each ?_ (RA.each ?_ (RA.each0))))
         ·skip
          refine RO.extract (d := .agg ((Keep.c ((foldR (IntKind.i64.wrap ((foI code) + (Int.tmod ((drawPlaces code).getD 0 0) (IntKind.i64.wrap ((((foE code).1).length : Int) + 1))))) (((foE code).1).drop (nI code)) 0 ((foldR (foI code) (((foE code).1).take (nI code)) 0 ((foK code).1)).1)).1)).map .r)) rfl rfl rfl rfl rfl (by decide) (Nat.le_of_ble_eq_true rfl) rfl rfl ?_
          exact RA.to2 hall hf hb (ro21_11 B bo21_11_1 go21_7_1) rfl rfl (by kernel_rfl)
         ·skip
          refine RO.extract (d := .r (sl 1 cS ((foldR (IntKind.i64.wrap ((foI code) + (Int.tmod ((drawPlaces code).getD 0 0) (IntKind.i64.wrap ((((foE code).1).length : Int) + 1))))) (((foE code).1).drop (nI code)) 0 ((foldR (foI code) (((foE code).1).take (nI code)) 0 ((foK code).1)).1)).2))) rfl rfl rfl rfl rfl (by decide) (Nat.le_of_ble_eq_true rfl) rfl rfl ?_
          exact RA.to2 hall hf hb (ro21_12 B bo21_11_1 go21_7_1) rfl rfl (by kernel_rfl)
        have ro21_8 : ∀ B, ∀ (go21_7_1 : Nat → Nat → Value), RA f E B all 4 (bt 14 1535) ⟨98, [(75, .tup [.agg ((Keep.c ((foldR (IntKind.i64.wrap ((foI code) + (Int.tmod ((drawPlaces code).getD 0 0) (IntKind.i64.wrap ((((foE code).1).length : Int) + 1))))) (((foE code).1).drop (nI code)) 0 ((foldR (foI code) (((foE code).1).take (nI code)) 0 ((foK code).1)).1)).1)).map .r), .u]), (85, .r (sl 1 cS ((foldR (IntKind.i64.wrap ((foI code) + (Int.tmod ((drawPlaces code).getD 0 0) (IntKind.i64.wrap ((((foE code).1).length : Int) + 1))))) (((foE code).1).drop (nI code)) 0 ((foldR (foI code) (((foE code).1).take (nI code)) 0 ((foK code).1)).1)).2)))] ++ b0⟩ K := by
         intro B go21_7_1
         refine RA.of2 hall hf hb (RA.stepH (L := [9, 11]) (Tell.of rfl) (by kernel_rfl) (by simp) (RA.each ?_ (RA.each ?_ (RA.each0))))
         ·skip
          refine RO.extract (d := .agg ((Keep.c ((foldR (IntKind.i64.wrap ((foI code) + (Int.tmod ((drawPlaces code).getD 0 0) (IntKind.i64.wrap ((((foE code).1).length : Int) + 1))))) (((foE code).1).drop (nI code)) 0 ((foldR (foI code) (((foE code).1).take (nI code)) 0 ((foK code).1)).1)).1)).map .r)) rfl rfl rfl rfl rfl (by decide) (Nat.le_of_ble_eq_true rfl) rfl rfl ?_
          exact RA.to2 hall hf hb (ro21_10 B go21_7_1) rfl rfl (by kernel_rfl)
         ·skip
          refine RO.alloc (ds := [.r (.v (.slice none 0 0)), .r (.v (.slice none 0 0))]) rfl rfl rfl rfl rfl rfl fun bo21_11_1 => ?_
          exact RA.to2 hall hf hb (ro21_12 B bo21_11_1 go21_7_1) rfl rfl (by kernel_rfl)
        have ro21_7 : ∀ B, ∀ (go21_7_1 : Nat → Nat → Value), RA f E B all 4 (bt 14 1023) ⟨98, [(75, .tup [.u, .r (sl 1 cS ((foldR (IntKind.i64.wrap ((foI code) + (Int.tmod ((drawPlaces code).getD 0 0) (IntKind.i64.wrap ((((foE code).1).length : Int) + 1))))) (((foE code).1).drop (nI code)) 0 ((foldR (foI code) (((foE code).1).take (nI code)) 0 ((foK code).1)).1)).2))]), (84, .agg ((Keep.c ((foldR (IntKind.i64.wrap ((foI code) + (Int.tmod ((drawPlaces code).getD 0 0) (IntKind.i64.wrap ((((foE code).1).length : Int) + 1))))) (((foE code).1).drop (nI code)) 0 ((foldR (foI code) (((foE code).1).take (nI code)) 0 ((foK code).1)).1)).1)).map .r))] ++ b0⟩ K := by
         intro B go21_7_1
         refine RA.of2 hall hf hb (RA.stepH (L := [10, 11]) (Tell.of rfl) (by kernel_rfl) (by simp) (RA.each ?_ (RA.each ?_ (RA.each0))))
         ·skip
          refine RO.extract (d := .r (sl 1 cS ((foldR (IntKind.i64.wrap ((foI code) + (Int.tmod ((drawPlaces code).getD 0 0) (IntKind.i64.wrap ((((foE code).1).length : Int) + 1))))) (((foE code).1).drop (nI code)) 0 ((foldR (foI code) (((foE code).1).take (nI code)) 0 ((foK code).1)).1)).2))) rfl rfl rfl rfl rfl (by decide) (Nat.le_of_ble_eq_true rfl) rfl rfl ?_
          exact RA.to2 hall hf hb (ro21_10 B go21_7_1) rfl rfl (by kernel_rfl)
         ·skip
          refine RO.alloc (ds := [.r (.v (.slice none 0 0)), .r (.v (.slice none 0 0))]) rfl rfl rfl rfl rfl rfl fun bo21_11_1 => ?_
          exact RA.to2 hall hf hb (ro21_11 B bo21_11_1 go21_7_1) rfl rfl (by kernel_rfl)
        have ro21_6 : ∀ B, ∀ (bo21_11_1 : Nat), ∀ (go21_7_1 : Nat → Nat → Value), RA f E B all 5 (bt 14 2303) ⟨98, [(13, .obj bo21_11_1 [.r (.v (.slice none 0 0)), .r (.v (.slice none 0 0))]), (83, .tup [.agg ((Keep.c ((foldR (IntKind.i64.wrap ((foI code) + (Int.tmod ((drawPlaces code).getD 0 0) (IntKind.i64.wrap ((((foE code).1).length : Int) + 1))))) (((foE code).1).drop (nI code)) 0 ((foldR (foI code) (((foE code).1).take (nI code)) 0 ((foK code).1)).1)).1)).map .r), .r (sl 1 cS ((foldR (IntKind.i64.wrap ((foI code) + (Int.tmod ((drawPlaces code).getD 0 0) (IntKind.i64.wrap ((((foE code).1).length : Int) + 1))))) (((foE code).1).drop (nI code)) 0 ((foldR (foI code) (((foE code).1).take (nI code)) 0 ((foK code).1)).1)).2))])] ++ b0⟩ K := by
         intro B bo21_11_1 go21_7_1
         refine RA.of2 hall hf hb (RA.stepH (L := [8]) (Tell.of rfl) (by kernel_rfl) (by simp) (RA.each ?_ (RA.each0)))
         ·skip
          refine RO.moveMove rfl rfl rfl rfl rfl (by decide) (Nat.le_of_ble_eq_true rfl) (Nat.le_of_ble_eq_true rfl) ?_
          exact RA.to2 hall hf hb (ro21_9 B bo21_11_1 go21_7_1) rfl rfl (by kernel_rfl)
        have ro21_5 : ∀ B, ∀ (go21_7_1 : Nat → Nat → Value), RA f E B all 5 (bt 14 511) ⟨98, [(75, .tup [.agg ((Keep.c ((foldR (IntKind.i64.wrap ((foI code) + (Int.tmod ((drawPlaces code).getD 0 0) (IntKind.i64.wrap ((((foE code).1).length : Int) + 1))))) (((foE code).1).drop (nI code)) 0 ((foldR (foI code) (((foE code).1).take (nI code)) 0 ((foK code).1)).1)).1)).map .r), .r (sl 1 cS ((foldR (IntKind.i64.wrap ((foI code) + (Int.tmod ((drawPlaces code).getD 0 0) (IntKind.i64.wrap ((((foE code).1).length : Int) + 1))))) (((foE code).1).drop (nI code)) 0 ((foldR (foI code) (((foE code).1).take (nI code)) 0 ((foK code).1)).1)).2))])] ++ b0⟩ K := by
         intro B go21_7_1
         refine RA.of2 hall hf hb (RA.stepH (L := [9, 10, 11]) (Tell.of rfl) (by kernel_rfl) (by simp) (RA.each ?_ (RA.each ?_ (RA.each ?_ (RA.each0)))))
         ·skip
          refine RO.extract (d := .agg ((Keep.c ((foldR (IntKind.i64.wrap ((foI code) + (Int.tmod ((drawPlaces code).getD 0 0) (IntKind.i64.wrap ((((foE code).1).length : Int) + 1))))) (((foE code).1).drop (nI code)) 0 ((foldR (foI code) (((foE code).1).take (nI code)) 0 ((foK code).1)).1)).1)).map .r)) rfl rfl rfl rfl rfl (by decide) (Nat.le_of_ble_eq_true rfl) rfl rfl ?_
          exact RA.to2 hall hf hb (ro21_7 B go21_7_1) rfl rfl (by kernel_rfl)
         ·skip
          refine RO.extract (d := .r (sl 1 cS ((foldR (IntKind.i64.wrap ((foI code) + (Int.tmod ((drawPlaces code).getD 0 0) (IntKind.i64.wrap ((((foE code).1).length : Int) + 1))))) (((foE code).1).drop (nI code)) 0 ((foldR (foI code) (((foE code).1).take (nI code)) 0 ((foK code).1)).1)).2))) rfl rfl rfl rfl rfl (by decide) (Nat.le_of_ble_eq_true rfl) rfl rfl ?_
          exact RA.to2 hall hf hb (ro21_8 B go21_7_1) rfl rfl (by kernel_rfl)
         ·skip
          refine RO.alloc (ds := [.r (.v (.slice none 0 0)), .r (.v (.slice none 0 0))]) rfl rfl rfl rfl rfl rfl fun bo21_11_1 => ?_
          exact RA.to2 hall hf hb (ro21_9 B bo21_11_1 go21_7_1) rfl rfl (by kernel_rfl)
        have ro21_4 : ∀ B, ∀ (bo21_11_1 : Nat), RA f E B all 6 (bt 14 2175) ⟨98, [(13, .obj bo21_11_1 [.r (.v (.slice none 0 0)), .r (.v (.slice none 0 0))]), (76, .agg ((Keep.c ((foldR (foI code) (((foE code).1).take (nI code)) 0 ((foK code).1)).1)).map .r)), (79, .r (sl 3 Entry.c (((foE code).1).drop (nI code)))), (82, I (IntKind.i64.wrap ((foI code) + (Int.tmod ((drawPlaces code).getD 0 0) (IntKind.i64.wrap ((((foE code).1).length : Int) + 1))))))] ++ b0⟩ K := by
         intro B bo21_11_1
         refine RA.of2 hall hf hb (RA.stepH (L := [7]) (Tell.of rfl) (by kernel_rfl) (by simp) (RA.each ?_ (RA.each0)))
         ·skip
          refine RO.call rfl rfl (impl_Fold_fn ((foldR (foI code) (((foE code).1).take (nI code)) 0 ((foK code).1)).1) (((foE code).1).drop (nI code)) (IntKind.i64.wrap ((foI code) + (Int.tmod ((drawPlaces code).getD 0 0) (IntKind.i64.wrap ((((foE code).1).length : Int) + 1))))) (foldR_ok _ _ _ _ hG.k) hE2 (by have h9 := hG.n; first | omega | (rw [List.length_take]; omega) | (rw [List.length_drop]; omega))) rfl (.cons (.agg (.cons (.r .r) (.cons (.r .r) (.nil)))) (.cons (.one (.r .r)) (.cons (.one (.r .r)) (.nil)))) rfl fun go21_7_1 => ?_
          exact RA.to2 hall hf hb (ro21_6 B bo21_11_1 go21_7_1) rfl rfl (by kernel_rfl)
        have ro21_3 : ∀ B, ∀ (go21_7_1 : Nat → Nat → Value), RA f E B all 6 (bt 14 255) ⟨98, [(83, .tup [.agg ((Keep.c ((foldR (IntKind.i64.wrap ((foI code) + (Int.tmod ((drawPlaces code).getD 0 0) (IntKind.i64.wrap ((((foE code).1).length : Int) + 1))))) (((foE code).1).drop (nI code)) 0 ((foldR (foI code) (((foE code).1).take (nI code)) 0 ((foK code).1)).1)).1)).map .r), .r (sl 1 cS ((foldR (IntKind.i64.wrap ((foI code) + (Int.tmod ((drawPlaces code).getD 0 0) (IntKind.i64.wrap ((((foE code).1).length : Int) + 1))))) (((foE code).1).drop (nI code)) 0 ((foldR (foI code) (((foE code).1).take (nI code)) 0 ((foK code).1)).1)).2))])] ++ b0⟩ K := by
         intro B go21_7_1
         refine RA.of2 hall hf hb (RA.stepH (L := [8, 11]) (Tell.of rfl) (by kernel_rfl) (by simp) (RA.each ?_ (RA.each ?_ (RA.each0))))
         ·skip
          refine RO.moveMove rfl rfl rfl rfl rfl (by decide) (Nat.le_of_ble_eq_true rfl) (Nat.le_of_ble_eq_true rfl) ?_
          exact RA.to2 hall hf hb (ro21_5 B go21_7_1) rfl rfl (by kernel_rfl)
         ·skip
          refine RO.alloc (ds := [.r (.v (.slice none 0 0)), .r (.v (.slice none 0 0))]) rfl rfl rfl rfl rfl rfl fun bo21_11_1 => ?_
          exact RA.to2 hall hf hb (ro21_6 B bo21_11_1 go21_7_1) rfl rfl (by kernel_rfl)
        have ro21_2 : ∀ B, ∀ (bo21_11_1 : Nat), RA f E B all 7 (bt 14 2174) ⟨98, [(11, .obj bo20_9_1 ((Keep.c ((foldR (foI code) (((foE code).1).take (nI code)) 0 ((foK code).1)).1)).map .r)), (13, .obj bo21_11_1 [.r (.v (.slice none 0 0)), .r (.v (.slice none 0 0))]), (79, .r (sl 3 Entry.c (((foE code).1).drop (nI code)))), (82, I (IntKind.i64.wrap ((foI code) + (Int.tmod ((drawPlaces code).getD 0 0) (IntKind.i64.wrap ((((foE code).1).length : Int) + 1))))))] ++ b0⟩ K := by
         intro B bo21_11_1
         refine RA.of2 hall hf hb (RA.stepH (L := [0]) (Tell.of rfl) (by kernel_rfl) (by simp) (RA.each ?_ (RA.each0)))
         ·skip
          refine RO.v rfl rfl (V.loadAgg rfl rfl rfl rfl rfl (Nat.le_of_ble_eq_true rfl)) rfl ?_
          exact RA.to2 hall hf hb (ro21_4 B bo21_11_1) rfl rfl (by kernel_rfl)
        have ro21_1 : ∀ B, RA f E B all 7 (bt 14 127) ⟨98, [(76, .agg ((Keep.c ((foldR (foI code) (((foE code).1).take (nI code)) 0 ((foK code).1)).1)).map .r)), (79, .r (sl 3 Entry.c (((foE code).1).drop (nI code)))), (82, I (IntKind.i64.wrap ((foI code) + (Int.tmod ((drawPlaces code).getD 0 0) (IntKind.i64.wrap ((((foE code).1).length : Int) + 1))))))] ++ b0⟩ K := by
         intro B
         refine RA.of2 hall hf hb (RA.stepH (L := [7, 11]) (Tell.of rfl) (by kernel_rfl) (by simp) (RA.each ?_ (RA.each ?_ (RA.each0))))
         ·skip
          refine RO.call rfl rfl (impl_Fold_fn ((foldR (foI code) (((foE code).1).take (nI code)) 0 ((foK code).1)).1) (((foE code).1).drop (nI code)) (IntKind.i64.wrap ((foI code) + (Int.tmod ((drawPlaces code).getD 0 0) (IntKind.i64.wrap ((((foE code).1).length : Int) + 1))))) (foldR_ok _ _ _ _ hG.k) hE2 (by have h9 := hG.n; first | omega | (rw [List.length_take]; omega) | (rw [List.length_drop]; omega))) rfl (.cons (.agg (.cons (.r .r) (.cons (.r .r) (.nil)))) (.cons (.one (.r .r)) (.cons (.one (.r .r)) (.nil)))) rfl fun go21_7_1 => ?_
          exact RA.to2 hall hf hb (ro21_3 B go21_7_1) rfl rfl (by kernel_rfl)
         ·skip
          refine RO.alloc (ds := [.r (.v (.slice none 0 0)), .r (.v (.slice none 0 0))]) rfl rfl rfl rfl rfl rfl fun bo21_11_1 => ?_
          exact RA.to2 hall hf hb (ro21_4 B bo21_11_1) rfl rfl (by kernel_rfl)
        have ro21_0 : ∀ B, RA f E B all 8 (bt 14 126) ⟨98, [(11, .obj bo20_9_1 ((Keep.c ((foldR (foI code) (((foE code).1).take (nI code)) 0 ((foK code).1)).1)).map .r)), (79, .r (sl 3 Entry.c (((foE code).1).drop (nI code)))), (82, I (IntKind.i64.wrap ((foI code) + (Int.tmod ((drawPlaces code).getD 0 0) (IntKind.i64.wrap ((((foE code).1).length : Int) + 1))))))] ++ b0⟩ K := by
         intro B
         refine RA.of2 hall hf hb (RA.stepH (L := [0, 11]) (Tell.of rfl) (by kernel_rfl) (by simp) (RA.each ?_ (RA.each ?_ (RA.each0))))
         ·skip
          refine RO.v rfl rfl (V.loadAgg rfl rfl rfl rfl rfl (Nat.le_of_ble_eq_true rfl)) rfl ?_
          exact RA.to2 hall hf hb (ro21_1 B) rfl rfl (by kernel_rfl)
         ·skip
          refine RO.alloc (ds := [.r (.v (.slice none 0 0)), .r (.v (.slice none 0 0))]) rfl rfl rfl rfl rfl rfl fun bo21_11_1 => ?_
          exact RA.to2 hall hf hb (ro21_2 B bo21_11_1) rfl rfl (by kernel_rfl)
        refine RA.start (by kernel_rfl) (by kernel_rfl) (m := 14) (ls' := (bt 14 0)) ?_
        refine RA.fr XK 98 12 [1,2] (bt 14 6) rfl rfl (by kernel_rfl) (Tell.of rfl) ?_
        (conv=>whnf);refine ⟨rfl,fun B=>?_⟩
        refine RA.first (i := 3) (ls' := (bt 14 14)) (Tell.of rfl) (by kernel_rfl) rfl rfl rfl (VF.p (V.dropS (m := (nI code)) rfl rfl rfl rfl rfl rfl (nI_eq hG).symm Entry.len (nI_le hG))) ?_
        refine RA.fr XK 98 8 [4,5,6] (bt 14 126) rfl rfl (by kernel_rfl) (Tell.of rfl) ?_
        (conv=>whnf);refine ⟨rfl,fun B=>?_⟩
        exact RA.to2 hall hf hb (ro21_0 B) rfl rfl (by kernel_rfl)
       ·rintro ⟨bo21_11_1, go21_7_1⟩
        refine CW.seqJ 98 (fun (v22 : Bool) => [(2, Bo v22)]) (fun v22 => v22 = ((eqKeep ((foldR (foI code) ((foE code).1) 0 ((foK code).1)).1) ((foldR (IntKind.i64.wrap ((foI code) + (Int.tmod ((drawPlaces code).getD 0 0) (IntKind.i64.wrap ((((foE code).1).length : Int) + 1))))) (((foE code).1).drop (nI code)) 0 ((foldR (foI code) (((foE code).1).take (nI code)) 0 ((foK code).1)).1)).1)) && (eqS eqStr ((([] : List ByteArray) ++ ((foldR (foI code) (((foE code).1).take (nI code)) 0 ((foK code).1)).2)) ++ ((foldR (IntKind.i64.wrap ((foI code) + (Int.tmod ((drawPlaces code).getD 0 0) (IntKind.i64.wrap ((((foE code).1).length : Int) + 1))))) (((foE code).1).drop (nI code)) 0 ((foldR (foI code) (((foE code).1).take (nI code)) 0 ((foK code).1)).1)).2)) ((foldR (foI code) ((foE code).1) 0 ((foK code).1)).2)))) ?_ ?_
        ·refine CW.region ?_
         refine RW.k XK 98 2 rfl ?_
         (conv=>whnf);refine ⟨rfl,?_⟩
         refine RW.call rfl (spec_SameKeep_fn ((foldR (foI code) ((foE code).1) 0 ((foK code).1)).1) ((foldR (IntKind.i64.wrap ((foI code) + (Int.tmod ((drawPlaces code).getD 0 0) (IntKind.i64.wrap ((((foE code).1).length : Int) + 1))))) (((foE code).1).drop (nI code)) 0 ((foldR (foI code) (((foE code).1).take (nI code)) 0 ((foK code).1)).1)).1) (foldR_ok _ _ _ _ hG.k).okTo) rfl (.cons (.agg (.cons (.r .r) (.cons (.r .r) (.nil)))) (.cons (.agg (.cons (.r .r) (.cons (.r .r) (.nil)))) (.nil))) fun g23 => ?_
         refine RW.k XK 98 1 rfl ?_
         (conv=>whnf);refine ⟨rfl,?_⟩
         refine RW.bool 89 rfl (fun h24 => ?_) (fun h24 => ?_)
         ·skip
          refine RW.gbuild0 rfl rfl rfl rfl cS rfl rfl rfl rfl fun X25 => ?_
          refine RW.k XK 98 1 rfl ?_
          (conv=>whnf);refine ⟨rfl,?_⟩
          refine RW.gappendSR (c := cS) (l1 := ([] : List ByteArray)) (l2 := (foldR (foI code) (((foE code).1).take (nI code)) 0 ((foK code).1)).2) rfl rfl rfl rfl rfl rfl rfl rfl rfl rfl rfl .r (by decide) (Nat.le_of_ble_eq_true rfl) cS.len (fun _ => rfl) rfl (by have h9 := hG.n; simp only [maxLen, List.length_nil, List.length_append, foldR_len, List.length_take, List.length_drop]; omega) (by have h9 := hG.n; simp only [maxLen, List.length_nil, List.length_append, foldR_len, List.length_take, List.length_drop]; omega) fun X26 => ?_
          refine RW.k XK 98 1 rfl ?_
          (conv=>whnf);refine ⟨rfl,?_⟩
          refine RW.gappendSR (c := cS) (l1 := (([] : List ByteArray) ++ ((foldR (foI code) (((foE code).1).take (nI code)) 0 ((foK code).1)).2))) (l2 := (foldR (IntKind.i64.wrap ((foI code) + (Int.tmod ((drawPlaces code).getD 0 0) (IntKind.i64.wrap ((((foE code).1).length : Int) + 1))))) (((foE code).1).drop (nI code)) 0 ((foldR (foI code) (((foE code).1).take (nI code)) 0 ((foK code).1)).1)).2) rfl rfl rfl rfl rfl rfl rfl rfl rfl rfl rfl .r (by decide) (Nat.le_of_ble_eq_true rfl) cS.len (fun _ => rfl) rfl (by have h9 := hG.n; simp only [maxLen, List.length_nil, List.length_append, foldR_len, List.length_take, List.length_drop]; omega) (by have h9 := hG.n; simp only [maxLen, List.length_nil, List.length_append, foldR_len, List.length_take, List.length_drop]; omega) fun X27 => ?_
          refine RW.k XK 98 1 rfl ?_
          (conv=>whnf);refine ⟨rfl,?_⟩
          refine RW.gcallOwn rfl rfl rfl rfl (laws_sameTexts_fn ((([] : List ByteArray) ++ ((foldR (foI code) (((foE code).1).take (nI code)) 0 ((foK code).1)).2)) ++ ((foldR (IntKind.i64.wrap ((foI code) + (Int.tmod ((drawPlaces code).getD 0 0) (IntKind.i64.wrap ((((foE code).1).length : Int) + 1))))) (((foE code).1).drop (nI code)) 0 ((foldR (foI code) (((foE code).1).take (nI code)) 0 ((foK code).1)).1)).2)) ((foldR (foI code) ((foE code).1) 0 ((foK code).1)).2)) rfl (.cons (.one (.r (.al (k := none) (i := 94) (sz := 1) (V := X27) rfl rfl nofun))) (.cons (.one (.r .r)) (.nil))) rfl fun g28 => ?_
          refine RW.k XK 98 2 rfl ?_
          (conv=>whnf);refine ⟨rfl,?_⟩
          refine RW.nil ?_
          exact ⟨_, by first | rfl | (simp_all; done) | (simp_all; omega) | grind, rfl, Le.of rfl⟩
         ·skip
          refine RW.k XK 98 9 rfl ?_
          (conv=>whnf);refine ⟨rfl,?_⟩
          refine RW.nil ?_
          exact ⟨_, by first | rfl | (simp_all; done) | (simp_all; omega) | grind, rfl, Le.of rfl⟩
        ·intro v22 hv29
         refine CW.ret ?_
         exact Post.one (RV.b rfl (by rw [hv29, ← nI_eq hG]; exact fo_end (nI_le hG))) (AOs.r AOs.e)
end Go.Proofs.YtaeagpakloggfaaDoor.Y
