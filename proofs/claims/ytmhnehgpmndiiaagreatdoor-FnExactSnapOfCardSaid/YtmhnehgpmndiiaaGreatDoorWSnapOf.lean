import Derived.Test.YtmhnehgpmndiiaaGreatDoorWSnapOfD
namespace Go.Proofs.YtmhnehgpmndiiaaGreatDoor.Y
open Go Go.RowKit Go.Eng Go.Proofs
set_option maxRecDepth 10000
set_option maxHeartbeats 4000000 in
theorem laws_markSessionS_fn (a : List Session) (k : Int) (hk : k ≤ 9223372036854775807) : Eng.Fn E.P 98 [.one (.w (sl 3 Session.c a)), .one (.r (.v (.int .i64 k)))] (.one (.one (.w (.v (.int .i64 ((mkL mkESession a k).2)))))) [.one (.w (sl 3 Session.c ((mkL mkESession a k).1))), .one (.r (.v (.int .i64 k)))] := by
 refine Eng.Fn.intro (E := E) (rvs := [.tmp 4]) Tryz.func98 rfl rfl rfl (by simp [outSlots, moved, rvSlot, sl]) ?_
 intro B g bo
 refine CW.bound (x := .tmp 0) (n := a.length) (AsT.al rfl rfl nofun) (fun hl0 => ?_)
 refine CW.keep 35 [0,1] rfl ?_;(conv=>whnf);refine ⟨?_⟩
 have hl0b : a.length ≤ maxLen := hl0
 refine CW.k XK 35 1 [0,1] rfl ?_
 (conv=>whnf);refine ⟨rfl,?_⟩
 refine CW.seq ?_
 refine CW.k XK 35 1 [0,1,5] rfl ?_
 (conv=>whnf);refine ⟨rfl,?_⟩
 refine CW.block ?_
 refine CW.loopI 35 (fun (zz : Nat × Int × List Session) => match zz with | (i, l, b) => [(0, .w (sl 3 Session.c b) (g 0 0)), (1, I l), (5, I (i : Int))]) (fun (zz : Nat × Int × List Session) => match zz with | (i, l, b) => i ≤ b.length ∧ l ≤ 9223372036854775807 ∧ b.length = a.length ∧ b.drop i = a.drop i ∧ (b.take i ++ (mkL mkESession (a.drop i) l).1, (mkL mkESession (a.drop i) l).2) = mkL mkESession a k) (fun (zz : Nat × Int × List Session) => match zz with | (i, l, b) => a.length - i) (0, _, _) rfl (Le.c rfl <| Le.c rfl <| Le.c rfl <| Le.e) ⟨by omega, hk, rfl, rfl, by simp⟩ ?_
 rintro ⟨i, l, b⟩ ⟨hb, hlk, hlen, hdr, hr⟩
 refine CW.seq ?_
 refine CW.k XK 35 1 [0,1,5,9] rfl ?_
 (conv=>whnf);refine ⟨rfl,?_⟩
 refine CW.cond rfl (fun h1 => ?_) (fun h1 => ?_)
 ·skip
  have hii : i < b.length := by have := h1; simp at this; first | exact this | omega | (simp; done) | (simp; omega)
  obtain ⟨ei, hei⟩ : ∃ e, b[i]? = some e := ⟨_, List.getElem?_eq_getElem hii⟩
  have hdi := drop_get hei
  refine CW.skip ?_
  refine CW.keep 35 [0,1,5] rfl ?_;(conv=>whnf);refine ⟨?_⟩
  refine CW.seq ?_
  refine CW.block ?_
  refine CW.seq ?_
  refine CW.region ?_
  refine RW.k XK 35 3 rfl ?_
  (conv=>whnf);refine ⟨rfl,?_⟩
  refine RW.v rfl (V.indexW rfl rfl rfl rfl rfl rfl rfl (by first | omega | (simp; omega))) ?_
  refine RW.k XK 35 1 rfl ?_
  (conv=>whnf);refine ⟨rfl,?_⟩
  refine RW.storeF (m := i) (off := 0) (v := ei) (v' := (⟨l, ei.last, ei.reply⟩ : Session)) (u := .v (.int .i64 l)) (c := Session.c) rfl rfl rfl rfl rfl rfl rfl (.inl rfl) Session.len hei (by decide) rfl rfl ?_
  refine RW.nil ?_
  refine CW.keep 35 [0,1,5] rfl ?_;(conv=>whnf);refine ⟨?_⟩
  refine CW.k XK 35 1 [0,1,5] rfl ?_
  (conv=>whnf);refine ⟨rfl,?_⟩
  refine CW.seq ?_
  refine CW.region ?_
  refine RW.k XK 35 3 rfl ?_
  (conv=>whnf);refine ⟨rfl,?_⟩
  refine RW.v rfl (V.indexW rfl rfl rfl rfl rfl rfl rfl (by first | omega | (simp; omega))) ?_
  refine RW.k XK 35 1 rfl ?_
  (conv=>whnf);refine ⟨rfl,?_⟩
  refine RW.storeF (m := i) (off := 1) (v := (⟨l, ei.last, ei.reply⟩ : Session)) (v' := (⟨l, (IntKind.i64.wrap (l + 1)), ei.reply⟩ : Session)) (u := .v (.int .i64 (IntKind.i64.wrap (l + 1)))) (c := Session.c) rfl rfl rfl rfl rfl rfl rfl (.inl rfl) Session.len (List.getElem?_set_self (by first | omega | (simp; omega))) (by decide) rfl rfl ?_
  refine RW.nil ?_
  refine CW.keep 35 [0,1,5] rfl ?_;(conv=>whnf);refine ⟨?_⟩
  refine CW.k XK 35 1 [0,1,5] rfl ?_
  (conv=>whnf);refine ⟨rfl,?_⟩
  refine CW.seq ?_
  refine CW.region ?_
  refine RW.k XK 35 3 rfl ?_
  (conv=>whnf);refine ⟨rfl,?_⟩
  refine RW.call rfl (laws_markText_fn (IntKind.i64.wrap ((IntKind.i64.wrap (l + 1)) + 1)) (by repeat (first | exact hlk | exact wrap_le _ | apply mkL_le | apply mkI_le | apply mkS_le | apply mkB_le | apply mkEEntry_le | apply mkEPeer_le | apply mkEFile_le | apply mkESession_le | apply mkEItem_le))) rfl (.cons (.one (.r .r)) (.nil)) fun g2 => ?_
  refine RW.v rfl (V.indexW rfl rfl rfl rfl rfl rfl rfl (by first | omega | (simp; omega))) ?_
  refine RW.k XK 35 1 rfl ?_
  (conv=>whnf);refine ⟨rfl,?_⟩
  refine RW.storeF (m := i) (off := 2) (v := (⟨l, (IntKind.i64.wrap (l + 1)), ei.reply⟩ : Session)) (v' := (⟨l, (IntKind.i64.wrap (l + 1)), (mtext (IntKind.i64.wrap ((IntKind.i64.wrap (l + 1)) + 1)))⟩ : Session)) (u := .v (.string (mtext (IntKind.i64.wrap ((IntKind.i64.wrap (l + 1)) + 1))))) (c := Session.c) rfl rfl rfl rfl rfl rfl rfl (.inl rfl) Session.len (List.getElem?_set_self (by first | omega | (simp; omega))) (by decide) rfl rfl ?_
  refine RW.nil ?_
  refine CW.keep 35 [0,1,5] rfl ?_;(conv=>whnf);refine ⟨?_⟩
  refine CW.region ?_
  refine RW.k XK 35 3 rfl ?_
  (conv=>whnf);refine ⟨rfl,?_⟩
  refine RW.nil ?_
  refine CW.keep 35 [0,1,5] rfl ?_;(conv=>whnf);refine ⟨?_⟩
  refine CW.region ?_
  refine RW.k XK 35 1 rfl ?_
  (conv=>whnf);refine ⟨rfl,?_⟩
  refine RW.v rfl (V.inc rfl rfl rfl hii (by omega)) ?_
  refine RW.k XK 35 1 rfl ?_
  (conv=>whnf);refine ⟨rfl,?_⟩
  refine RW.nil ?_
  exact ⟨(i + 1, (IntKind.i64.wrap ((IntKind.i64.wrap ((IntKind.i64.wrap (l + 1)) + 1)) + 1)), (((b.set i (⟨l, ei.last, ei.reply⟩ : Session)).set i (⟨l, (IntKind.i64.wrap (l + 1)), ei.reply⟩ : Session)).set i (⟨l, (IntKind.i64.wrap (l + 1)), (mtext (IntKind.i64.wrap ((IntKind.i64.wrap (l + 1)) + 1)))⟩ : Session))), by simp only []; omega, mk_step mkESession ((⟨l, (IntKind.i64.wrap (l + 1)), (mtext (IntKind.i64.wrap ((IntKind.i64.wrap (l + 1)) + 1)))⟩ : Session)) ((IntKind.i64.wrap ((IntKind.i64.wrap ((IntKind.i64.wrap (l + 1)) + 1)) + 1))) hei hlen hdr hr (by first | rfl | simp only [List.set_set]) rfl (by first | exact wrap_le _ | (apply mkL_le; assumption)), rfl, Le.c rfl <| Le.c rfl <| Le.c rfl <| Le.e⟩
 ·skip
  have hii : b.length ≤ i := by have := h1; simp at this; first | exact this | omega | (simp; done) | (simp; omega)
  have hdi : b.drop i = [] := List.drop_eq_nil_of_le hii
  refine CW.exit ?_
  refine CW.keep 35 [0,1] rfl ?_;(conv=>whnf);refine ⟨?_⟩
  refine CW.k XK 35 1 [0,4] rfl ?_
  (conv=>whnf);refine ⟨rfl,?_⟩
  refine CW.ret ?_
  exact Post.one (RV.i rfl (by rw [← hr, ← hdr, hdi]; rfl)) (AOs.w (by show _ = D.w _ _; exact congrArg (fun l => D.w (sl _ Session.c l) _) (by rw [← hr, ← hdr, hdi]; show b = b.take i ++ []; rw [List.append_nil, List.take_of_length_le hii])) (AOs.r AOs.e))
set_option maxHeartbeats 4000000 in
theorem laws_markItemS_fn (a : List Item) (k : Int) (hk : k ≤ 9223372036854775807) : Eng.Fn E.P 99 [.one (.w (sl 3 Item.c a)), .one (.r (.v (.int .i64 k)))] (.one (.one (.w (.v (.int .i64 ((mkL mkEItem a k).2)))))) [.one (.w (sl 3 Item.c ((mkL mkEItem a k).1))), .one (.r (.v (.int .i64 k)))] := by
 refine Eng.Fn.intro (E := E) (rvs := [.tmp 4]) Tryz.func99 rfl rfl rfl (by simp [outSlots, moved, rvSlot, sl]) ?_
 intro B g bo
 refine CW.bound (x := .tmp 0) (n := a.length) (AsT.al rfl rfl nofun) (fun hl0 => ?_)
 refine CW.keep 36 [0,1] rfl ?_;(conv=>whnf);refine ⟨?_⟩
 have hl0b : a.length ≤ maxLen := hl0
 refine CW.k XK 36 1 [0,1] rfl ?_
 (conv=>whnf);refine ⟨rfl,?_⟩
 refine CW.seq ?_
 refine CW.k XK 36 1 [0,1,5] rfl ?_
 (conv=>whnf);refine ⟨rfl,?_⟩
 refine CW.block ?_
 refine CW.loopI 36 (fun (zz : Nat × Int × List Item) => match zz with | (i, l, b) => [(0, .w (sl 3 Item.c b) (g 0 0)), (1, I l), (5, I (i : Int))]) (fun (zz : Nat × Int × List Item) => match zz with | (i, l, b) => i ≤ b.length ∧ l ≤ 9223372036854775807 ∧ b.length = a.length ∧ b.drop i = a.drop i ∧ (b.take i ++ (mkL mkEItem (a.drop i) l).1, (mkL mkEItem (a.drop i) l).2) = mkL mkEItem a k) (fun (zz : Nat × Int × List Item) => match zz with | (i, l, b) => a.length - i) (0, _, _) rfl (Le.c rfl <| Le.c rfl <| Le.c rfl <| Le.e) ⟨by omega, hk, rfl, rfl, by simp⟩ ?_
 rintro ⟨i, l, b⟩ ⟨hb, hlk, hlen, hdr, hr⟩
 refine CW.seq ?_
 refine CW.k XK 36 1 [0,1,5,9] rfl ?_
 (conv=>whnf);refine ⟨rfl,?_⟩
 refine CW.cond rfl (fun h1 => ?_) (fun h1 => ?_)
 ·skip
  have hii : i < b.length := by have := h1; simp at this; first | exact this | omega | (simp; done) | (simp; omega)
  obtain ⟨ei, hei⟩ : ∃ e, b[i]? = some e := ⟨_, List.getElem?_eq_getElem hii⟩
  have hdi := drop_get hei
  refine CW.skip ?_
  refine CW.keep 36 [0,1,5] rfl ?_;(conv=>whnf);refine ⟨?_⟩
  refine CW.seq ?_
  refine CW.block ?_
  refine CW.seq ?_
  refine CW.region ?_
  refine RW.k XK 36 3 rfl ?_
  (conv=>whnf);refine ⟨rfl,?_⟩
  refine RW.call rfl (laws_markText_fn l (by repeat (first | exact hlk | exact wrap_le _ | apply mkL_le | apply mkI_le | apply mkS_le | apply mkB_le | apply mkEEntry_le | apply mkEPeer_le | apply mkEFile_le | apply mkESession_le | apply mkEItem_le))) rfl (.cons (.one (.r .r)) (.nil)) fun g2 => ?_
  refine RW.v rfl (V.indexW rfl rfl rfl rfl rfl rfl rfl (by first | omega | (simp; omega))) ?_
  refine RW.k XK 36 1 rfl ?_
  (conv=>whnf);refine ⟨rfl,?_⟩
  refine RW.storeF (m := i) (off := 0) (v := ei) (v' := (⟨(mtext l), ei.val, ei.ver⟩ : Item)) (u := .v (.string (mtext l))) (c := Item.c) rfl rfl rfl rfl rfl rfl rfl (.inl rfl) Item.len hei (by decide) rfl rfl ?_
  refine RW.nil ?_
  refine CW.keep 36 [0,1,5] rfl ?_;(conv=>whnf);refine ⟨?_⟩
  refine CW.k XK 36 1 [0,1,5] rfl ?_
  (conv=>whnf);refine ⟨rfl,?_⟩
  refine CW.seq ?_
  refine CW.region ?_
  refine RW.k XK 36 3 rfl ?_
  (conv=>whnf);refine ⟨rfl,?_⟩
  refine RW.call rfl (laws_markText_fn (IntKind.i64.wrap (l + 1)) (by repeat (first | exact hlk | exact wrap_le _ | apply mkL_le | apply mkI_le | apply mkS_le | apply mkB_le | apply mkEEntry_le | apply mkEPeer_le | apply mkEFile_le | apply mkESession_le | apply mkEItem_le))) rfl (.cons (.one (.r .r)) (.nil)) fun g3 => ?_
  refine RW.v rfl (V.indexW rfl rfl rfl rfl rfl rfl rfl (by first | omega | (simp; omega))) ?_
  refine RW.k XK 36 1 rfl ?_
  (conv=>whnf);refine ⟨rfl,?_⟩
  refine RW.storeF (m := i) (off := 1) (v := (⟨(mtext l), ei.val, ei.ver⟩ : Item)) (v' := (⟨(mtext l), (mtext (IntKind.i64.wrap (l + 1))), ei.ver⟩ : Item)) (u := .v (.string (mtext (IntKind.i64.wrap (l + 1))))) (c := Item.c) rfl rfl rfl rfl rfl rfl rfl (.inl rfl) Item.len (List.getElem?_set_self (by first | omega | (simp; omega))) (by decide) rfl rfl ?_
  refine RW.nil ?_
  refine CW.keep 36 [0,1,5] rfl ?_;(conv=>whnf);refine ⟨?_⟩
  refine CW.k XK 36 1 [0,1,5] rfl ?_
  (conv=>whnf);refine ⟨rfl,?_⟩
  refine CW.seq ?_
  refine CW.region ?_
  refine RW.k XK 36 3 rfl ?_
  (conv=>whnf);refine ⟨rfl,?_⟩
  refine RW.v rfl (V.indexW rfl rfl rfl rfl rfl rfl rfl (by first | omega | (simp; omega))) ?_
  refine RW.k XK 36 1 rfl ?_
  (conv=>whnf);refine ⟨rfl,?_⟩
  refine RW.storeF (m := i) (off := 2) (v := (⟨(mtext l), (mtext (IntKind.i64.wrap (l + 1))), ei.ver⟩ : Item)) (v' := (⟨(mtext l), (mtext (IntKind.i64.wrap (l + 1))), (IntKind.i64.wrap ((IntKind.i64.wrap (l + 1)) + 1))⟩ : Item)) (u := .v (.int .i64 (IntKind.i64.wrap ((IntKind.i64.wrap (l + 1)) + 1)))) (c := Item.c) rfl rfl rfl rfl rfl rfl rfl (.inl rfl) Item.len (List.getElem?_set_self (by first | omega | (simp; omega))) (by decide) rfl rfl ?_
  refine RW.nil ?_
  refine CW.keep 36 [0,1,5] rfl ?_;(conv=>whnf);refine ⟨?_⟩
  refine CW.region ?_
  refine RW.k XK 36 3 rfl ?_
  (conv=>whnf);refine ⟨rfl,?_⟩
  refine RW.nil ?_
  refine CW.keep 36 [0,1,5] rfl ?_;(conv=>whnf);refine ⟨?_⟩
  refine CW.region ?_
  refine RW.k XK 36 1 rfl ?_
  (conv=>whnf);refine ⟨rfl,?_⟩
  refine RW.v rfl (V.inc rfl rfl rfl hii (by omega)) ?_
  refine RW.k XK 36 1 rfl ?_
  (conv=>whnf);refine ⟨rfl,?_⟩
  refine RW.nil ?_
  exact ⟨(i + 1, (IntKind.i64.wrap ((IntKind.i64.wrap ((IntKind.i64.wrap (l + 1)) + 1)) + 1)), (((b.set i (⟨(mtext l), ei.val, ei.ver⟩ : Item)).set i (⟨(mtext l), (mtext (IntKind.i64.wrap (l + 1))), ei.ver⟩ : Item)).set i (⟨(mtext l), (mtext (IntKind.i64.wrap (l + 1))), (IntKind.i64.wrap ((IntKind.i64.wrap (l + 1)) + 1))⟩ : Item))), by simp only []; omega, mk_step mkEItem ((⟨(mtext l), (mtext (IntKind.i64.wrap (l + 1))), (IntKind.i64.wrap ((IntKind.i64.wrap (l + 1)) + 1))⟩ : Item)) ((IntKind.i64.wrap ((IntKind.i64.wrap ((IntKind.i64.wrap (l + 1)) + 1)) + 1))) hei hlen hdr hr (by first | rfl | simp only [List.set_set]) rfl (by first | exact wrap_le _ | (apply mkL_le; assumption)), rfl, Le.c rfl <| Le.c rfl <| Le.c rfl <| Le.e⟩
 ·skip
  have hii : b.length ≤ i := by have := h1; simp at this; first | exact this | omega | (simp; done) | (simp; omega)
  have hdi : b.drop i = [] := List.drop_eq_nil_of_le hii
  refine CW.exit ?_
  refine CW.keep 36 [0,1] rfl ?_;(conv=>whnf);refine ⟨?_⟩
  refine CW.k XK 36 1 [0,4] rfl ?_
  (conv=>whnf);refine ⟨rfl,?_⟩
  refine CW.ret ?_
  exact Post.one (RV.i rfl (by rw [← hr, ← hdr, hdi]; rfl)) (AOs.w (by show _ = D.w _ _; exact congrArg (fun l => D.w (sl _ Item.c l) _) (by rw [← hr, ← hdr, hdi]; show b = b.take i ++ []; rw [List.append_nil, List.take_of_length_le hii])) (AOs.r AOs.e))
set_option maxHeartbeats 4000000 in
theorem laws_markKeep_fn (a : Keep) (k : Int) (hk : k ≤ 9223372036854775807) : Eng.Fn E.P 40 [.agg ((Keep.c a).map .w), .one (.r (.v (.int .i64 k)))] (.one (.one (.w (.v (.int .i64 ((mkVKeep a k).2)))))) [.agg ((Keep.c ((mkVKeep a k).1)).map .w), .one (.r (.v (.int .i64 k)))] := by
 refine Eng.Fn.intro (E := E) (rvs := [.tmp 4]) Tryz.func40 rfl rfl rfl (by simp [outSlots, moved, rvSlot, sl]) ?_
 intro B g bo
 refine CW.keep 14 [0,1] rfl ?_;(conv=>whnf);refine ⟨?_⟩
 refine CW.k XK 14 1 [0,1,2] rfl ?_
 (conv=>whnf);intro b1;(conv=>whnf);refine ⟨rfl,?_⟩
 refine CW.seq ?_
 refine CW.region ?_
 refine RW.k XK 14 3 rfl ?_
 (conv=>whnf);refine ⟨rfl,?_⟩
 refine RW.callW (k := 0) (laws_markSessionS_fn a.sessions k (by repeat (first | exact hk | apply mkL_le | apply mkI_le | apply mkS_le | apply mkB_le | apply mkEEntry_le | apply mkEPeer_le | apply mkEFile_le | apply mkESession_le | apply mkEItem_le | apply mkVLog_le | apply mkVNode_le | apply mkVDisk_le | apply mkVJournal_le | apply mkVKeep_le | apply mkVServer_le | apply mkVSnap_le))) rfl rfl (Nat.le_of_ble_eq_true rfl) (by decide) (.here (AsW.cellA rfl) (.cons (.one (.r .r)) (.nil))) rfl fun g2 q3 => ?_
 refine RW.k XK 14 1 rfl ?_
 (conv=>whnf);refine ⟨rfl,?_⟩
 refine RW.nil ?_
 refine CW.keep 14 [0,1,2] rfl ?_;(conv=>whnf);refine ⟨?_⟩
 refine CW.seq ?_
 refine CW.region ?_
 refine RW.k XK 14 3 rfl ?_
 (conv=>whnf);refine ⟨rfl,?_⟩
 refine RW.callW (k := 0) (laws_markItemS_fn a.items ((mkL mkESession a.sessions k).2) (by repeat (first | exact hk | apply mkL_le | apply mkI_le | apply mkS_le | apply mkB_le | apply mkEEntry_le | apply mkEPeer_le | apply mkEFile_le | apply mkESession_le | apply mkEItem_le | apply mkVLog_le | apply mkVNode_le | apply mkVDisk_le | apply mkVJournal_le | apply mkVKeep_le | apply mkVServer_le | apply mkVSnap_le))) rfl rfl (Nat.le_of_ble_eq_true rfl) (by decide) (.here (AsW.cellA rfl) (.cons (.one (.r .r)) (.nil))) rfl fun g4 q5 => ?_
 refine RW.k XK 14 1 rfl ?_
 (conv=>whnf);refine ⟨rfl,?_⟩
 refine RW.nil ?_
 refine CW.keep 14 [0,1] rfl ?_;(conv=>whnf);refine ⟨?_⟩
 refine CW.k XK 14 1 [0,4] rfl ?_
 (conv=>whnf);refine ⟨rfl,?_⟩
 refine CW.ret ?_
 exact Post.one (RV.i rfl (by rfl)) (AOs.ag rfl (AOc.w rfl (AOc.w rfl AOc.e)) (AOs.r AOs.e))
set_option maxHeartbeats 4000000 in
theorem laws_markServer_fn (a : Server) (k : Int) (hk : k ≤ 9223372036854775807) : Eng.Fn E.P 11 [.agg ((Server.c a).map .w), .one (.r (.v (.int .i64 k)))] (.one (.one (.w (.v (.int .i64 ((mkVServer a k).2)))))) [.agg ((Server.c ((mkVServer a k).1)).map .w), .one (.r (.v (.int .i64 k)))] := by
 refine Eng.Fn.intro (E := E) (rvs := [.tmp 4]) Tryz.func11 rfl rfl rfl (by simp [outSlots, moved, rvSlot, sl]) ?_
 intro B g bo
 refine CW.keep 22 [0,1] rfl ?_;(conv=>whnf);refine ⟨?_⟩
 refine CW.k XK 22 1 [0,1,2] rfl ?_
 (conv=>whnf);intro b1;(conv=>whnf);refine ⟨rfl,?_⟩
 refine CW.seq ?_
 refine CW.region ?_
 refine RW.k XK 22 3 rfl ?_
 (conv=>whnf);refine ⟨rfl,?_⟩
 refine RW.callW (k := 0) (laws_markNode_fn a.node k (by repeat (first | exact hk | apply mkL_le | apply mkI_le | apply mkS_le | apply mkB_le | apply mkEEntry_le | apply mkEPeer_le | apply mkEFile_le | apply mkESession_le | apply mkEItem_le | apply mkVLog_le | apply mkVNode_le | apply mkVDisk_le | apply mkVJournal_le | apply mkVKeep_le | apply mkVServer_le | apply mkVSnap_le))) rfl rfl (Nat.le_of_ble_eq_true rfl) (by decide) (.here (AsW.rangeA (off := 0) (len := 14) (Hand.v (Hand.v (Hand.v (Hand.v (Hand.v (Hand.w (Hand.v (Hand.v (Hand.w (Hand.v (Hand.v (Hand.v (Hand.w (Hand.w Hand.e))))))))))))))) (.cons (.one (.r .r)) (.nil))) rfl fun g2 q3 => ?_
 refine RW.k XK 22 1 rfl ?_
 (conv=>whnf);refine ⟨rfl,?_⟩
 refine RW.nil ?_
 refine CW.keep 22 [0,1,2] rfl ?_;(conv=>whnf);refine ⟨?_⟩
 refine CW.seq ?_
 refine CW.region ?_
 refine RW.k XK 22 3 rfl ?_
 (conv=>whnf);refine ⟨rfl,?_⟩
 refine RW.callW (k := 0) (laws_markDisk_fn a.disk ((mkVNode a.node k).2) (by repeat (first | exact hk | apply mkL_le | apply mkI_le | apply mkS_le | apply mkB_le | apply mkEEntry_le | apply mkEPeer_le | apply mkEFile_le | apply mkESession_le | apply mkEItem_le | apply mkVLog_le | apply mkVNode_le | apply mkVDisk_le | apply mkVJournal_le | apply mkVKeep_le | apply mkVServer_le | apply mkVSnap_le))) rfl rfl (Nat.le_of_ble_eq_true rfl) (by decide) (.here (AsW.partA rfl (One.here (xs := []))) (.cons (.one (.r .r)) (.nil))) rfl fun g4 q5 => ?_
 refine RW.k XK 22 1 rfl ?_
 (conv=>whnf);refine ⟨rfl,?_⟩
 refine RW.nil ?_
 refine CW.keep 22 [0,1,2] rfl ?_;(conv=>whnf);refine ⟨?_⟩
 refine CW.seq ?_
 refine CW.region ?_
 refine RW.k XK 22 3 rfl ?_
 (conv=>whnf);refine ⟨rfl,?_⟩
 refine RW.callW (k := 0) (laws_markJournal_fn a.journal ((mkVDisk a.disk ((mkVNode a.node k).2)).2) (by repeat (first | exact hk | apply mkL_le | apply mkI_le | apply mkS_le | apply mkB_le | apply mkEEntry_le | apply mkEPeer_le | apply mkEFile_le | apply mkESession_le | apply mkEItem_le | apply mkVLog_le | apply mkVNode_le | apply mkVDisk_le | apply mkVJournal_le | apply mkVKeep_le | apply mkVServer_le | apply mkVSnap_le))) rfl rfl (Nat.le_of_ble_eq_true rfl) (by decide) (.here (AsW.partA rfl (One.there (One.there (One.there (One.there (One.there (One.here (xs := [])))))))) (.cons (.one (.r .r)) (.nil))) rfl fun g6 q7 => ?_
 refine RW.k XK 22 1 rfl ?_
 (conv=>whnf);refine ⟨rfl,?_⟩
 refine RW.nil ?_
 refine CW.keep 22 [0,1,2] rfl ?_;(conv=>whnf);refine ⟨?_⟩
 refine CW.seq ?_
 refine CW.region ?_
 refine RW.k XK 22 3 rfl ?_
 (conv=>whnf);refine ⟨rfl,?_⟩
 refine RW.callW (k := 0) (laws_markKeep_fn a.keep ((mkVJournal a.journal ((mkVDisk a.disk ((mkVNode a.node k).2)).2)).2) (by repeat (first | exact hk | apply mkL_le | apply mkI_le | apply mkS_le | apply mkB_le | apply mkEEntry_le | apply mkEPeer_le | apply mkEFile_le | apply mkESession_le | apply mkEItem_le | apply mkVLog_le | apply mkVNode_le | apply mkVDisk_le | apply mkVJournal_le | apply mkVKeep_le | apply mkVServer_le | apply mkVSnap_le))) rfl rfl (Nat.le_of_ble_eq_true rfl) (by decide) (.here (AsW.rangeA (off := 21) (len := 2) (Hand.w (Hand.w Hand.e))) (.cons (.one (.r .r)) (.nil))) rfl fun g8 q9 => ?_
 refine RW.k XK 22 1 rfl ?_
 (conv=>whnf);refine ⟨rfl,?_⟩
 refine RW.nil ?_
 refine CW.keep 22 [0,1] rfl ?_;(conv=>whnf);refine ⟨?_⟩
 refine CW.k XK 22 1 [0,4] rfl ?_
 (conv=>whnf);refine ⟨rfl,?_⟩
 refine CW.ret ?_
 exact Post.one (RV.i rfl (by rfl)) (AOs.ag rfl (AOc.r rfl (AOc.r rfl (AOc.r rfl (AOc.r rfl (AOc.r rfl (AOc.w rfl (AOc.r rfl (AOc.r rfl (AOc.w rfl (AOc.r rfl (AOc.r rfl (AOc.r rfl (AOc.w rfl (AOc.w rfl (AOc.w rfl (AOc.r rfl (AOc.r rfl (AOc.r rfl (AOc.r rfl (AOc.r rfl (AOc.w rfl (AOc.w rfl (AOc.w rfl (AOc.r rfl (AOc.r rfl (AOc.r rfl (AOc.r rfl AOc.e))))))))))))))))))))))))))) (AOs.r AOs.e))
set_option maxHeartbeats 4000000 in
theorem laws_markSnap_fn (a : Snap) (k : Int) (hk : k ≤ 9223372036854775807) : Eng.Fn E.P 12 [.agg ((Snap.c a).map .w), .one (.r (.v (.int .i64 k)))] (.one (.one (.w (.v (.int .i64 ((mkVSnap a k).2)))))) [.agg ((Snap.c ((mkVSnap a k).1)).map .w), .one (.r (.v (.int .i64 k)))] := by
 refine Eng.Fn.intro (E := E) (rvs := [.tmp 4]) Tryz.func12 rfl rfl rfl (by simp [outSlots, moved, rvSlot, sl]) ?_
 intro B g bo
 refine CW.keep 10 [0,1] rfl ?_;(conv=>whnf);refine ⟨?_⟩
 refine CW.k XK 10 1 [0,1,2] rfl ?_
 (conv=>whnf);intro b1;(conv=>whnf);refine ⟨rfl,?_⟩
 refine CW.seq ?_
 refine CW.region ?_
 refine RW.k XK 10 3 rfl ?_
 (conv=>whnf);refine ⟨rfl,?_⟩
 refine RW.callW (k := 0) (laws_markIntS_fn a.conf k (by repeat (first | exact hk | apply mkL_le | apply mkI_le | apply mkS_le | apply mkB_le | apply mkEEntry_le | apply mkEPeer_le | apply mkEFile_le | apply mkESession_le | apply mkEItem_le | apply mkVLog_le | apply mkVNode_le | apply mkVDisk_le | apply mkVJournal_le | apply mkVKeep_le | apply mkVServer_le | apply mkVSnap_le))) rfl rfl (Nat.le_of_ble_eq_true rfl) (by decide) (.here (AsW.cellA rfl) (.cons (.one (.r .r)) (.nil))) rfl fun g2 q3 => ?_
 refine RW.k XK 10 1 rfl ?_
 (conv=>whnf);refine ⟨rfl,?_⟩
 refine RW.nil ?_
 refine CW.keep 10 [0,1] rfl ?_;(conv=>whnf);refine ⟨?_⟩
 refine CW.k XK 10 1 [0,4] rfl ?_
 (conv=>whnf);refine ⟨rfl,?_⟩
 refine CW.ret ?_
 exact Post.one (RV.i rfl (by rfl)) (AOs.ag rfl (AOc.r rfl (AOc.r rfl (AOc.w rfl (AOc.r rfl AOc.e)))) (AOs.r AOs.e))
set_option maxHeartbeats 4000000 in
theorem laws_heldIntS_fn (a : List Int) (k : Int) (hk : k ≤ 9223372036854775807) : Eng.Fn E.P 42 [.one (.r (sl 1 cI a)), .one (.r (.v (.int .i64 k)))] (.one (.one (.w (.v (.int .i64 ((hdL hdI a k).getD (-1))))))) [.one (.r (sl 1 cI a)), .one (.r (.v (.int .i64 k)))] := by
 refine Eng.Fn.intro (E := E) (rvs := [.tmp 4]) Tryz.func42 rfl rfl rfl (by simp [outSlots, moved, rvSlot, sl]) ?_
 intro B g bo
 refine CW.bound (x := .tmp 0) (n := a.length) (AsT.r) (fun hl0 => ?_)
 refine CW.keep 21 [0,1] rfl ?_;(conv=>whnf);refine ⟨?_⟩
 refine CW.k XK 21 1 [0,1] rfl ?_
 (conv=>whnf);refine ⟨rfl,?_⟩
 refine CW.seq ?_
 refine CW.k XK 21 1 [0,1,5] rfl ?_
 (conv=>whnf);refine ⟨rfl,?_⟩
 refine CW.block ?_
 refine CW.loopI 21 (fun (zz : Nat × Int) => match zz with | (i, l) => [(0, .r (sl 1 cI a)), (1, I l), (5, I (i : Int))]) (fun (zz : Nat × Int) => match zz with | (i, l) => i ≤ a.length ∧ l ≤ 9223372036854775807 ∧ hdL hdI (a.drop i) l = hdL hdI a k) (fun (zz : Nat × Int) => match zz with | (i, l) => a.length - i) (0, _) rfl (Le.c rfl <| Le.c rfl <| Le.c rfl <| Le.e) ⟨by omega, hk, by simp⟩ ?_
 rintro ⟨i, l⟩ ⟨hb, hlk, hr⟩
 refine CW.seq ?_
 refine CW.k XK 21 1 [0,1,5,9] rfl ?_
 (conv=>whnf);refine ⟨rfl,?_⟩
 refine CW.cond rfl (fun h1 => ?_) (fun h1 => ?_)
 ·skip
  have hii : i < a.length := by have := h1; simp at this; first | exact this | omega | (simp; done) | (simp; omega)
  obtain ⟨ei, hei⟩ : ∃ e, a[i]? = some e := ⟨_, List.getElem?_eq_getElem hii⟩
  have hdi := drop_get hei
  refine CW.skip ?_
  refine CW.keep 21 [0,1,5] rfl ?_;(conv=>whnf);refine ⟨?_⟩
  refine CW.seq ?_
  refine CW.block ?_
  refine CW.seq ?_
  refine CW.seq ?_
  refine CW.region ?_
  refine RW.k XK 21 2 rfl ?_
  (conv=>whnf);refine ⟨rfl,?_⟩
  refine RW.v rfl (V.indexS rfl rfl rfl rfl rfl rfl cI.len hei) ?_
  refine RW.k XK 21 3 rfl ?_
  (conv=>whnf);refine ⟨rfl,?_⟩
  refine RW.nil ?_
  refine CW.keep 21 [0,1,5,17] rfl ?_;(conv=>whnf);refine ⟨?_⟩
  refine CW.cond rfl (fun h2 => ?_) (fun h2 => ?_)
  ·skip
   refine CW.k XK 21 1 [4] rfl ?_
   (conv=>whnf);refine ⟨rfl,?_⟩
   refine CW.ret ?_
   exact Post.one (RV.i rfl (by rw [← hr, hdi]; clear hr; first | rfl | (simp_all [hdL, hdI, inc]; done) | grind [hdL, hdI, inc])) (AOs.r (AOs.r AOs.e))
  ·skip
   refine CW.skip ?_
   refine CW.keep 21 [0,1,5] rfl ?_;(conv=>whnf);refine ⟨?_⟩
   refine CW.region ?_
   refine RW.k XK 21 3 rfl ?_
   (conv=>whnf);refine ⟨rfl,?_⟩
   refine RW.nil ?_
   refine CW.keep 21 [0,1,5] rfl ?_;(conv=>whnf);refine ⟨?_⟩
   refine CW.region ?_
   refine RW.k XK 21 1 rfl ?_
   (conv=>whnf);refine ⟨rfl,?_⟩
   refine RW.v rfl (V.inc rfl rfl rfl hii hl0) ?_
   refine RW.k XK 21 1 rfl ?_
   (conv=>whnf);refine ⟨rfl,?_⟩
   refine RW.nil ?_
   exact ⟨(i + 1, _), by simp only []; omega, ⟨by omega, by first | exact wrap_le _ | omega, by rw [← hr, hdi]; clear hr; first | rfl | (simp_all [hdL, hdI, inc]; done) | grind [hdL, hdI, inc]⟩, rfl, Le.c rfl <| Le.c rfl <| Le.c rfl <| Le.e⟩
 ·skip
  have hii : a.length ≤ i := by have := h1; simp at this; first | exact this | omega | (simp; done) | (simp; omega)
  have hdi : a.drop i = [] := List.drop_eq_nil_of_le hii
  refine CW.exit ?_
  refine CW.keep 21 [1] rfl ?_;(conv=>whnf);refine ⟨?_⟩
  refine CW.k XK 21 1 [4] rfl ?_
  (conv=>whnf);refine ⟨rfl,?_⟩
  refine CW.ret ?_
  exact Post.one (RV.i rfl (by rw [← hr, hdi]; clear hr; first | rfl | (simp_all [hdL, hdI, inc]; done) | grind [hdL, hdI, inc])) (AOs.r (AOs.r AOs.e))
set_option maxHeartbeats 4000000 in
theorem laws_heldSnap_fn (a : Snap) (k : Int) (hk : k ≤ 9223372036854775807) : Eng.Fn E.P 13 [.agg ((Snap.c a).map .r), .one (.r (.v (.int .i64 k)))] (.one (.one (.w (.v (.int .i64 ((hdVSnap a k).getD (-1))))))) [.agg ((Snap.c a).map .r), .one (.r (.v (.int .i64 k)))] := by
 refine Eng.Fn.intro (E := E) (rvs := [.tmp 4]) Tryz.func13 rfl rfl rfl (by simp [outSlots, moved, rvSlot, sl]) ?_
 intro B g bo
 refine CW.keep 12 [0,1] rfl ?_;(conv=>whnf);refine ⟨?_⟩
 refine CW.seq ?_
 refine CW.region ?_
 refine RW.k XK 12 1 rfl ?_
 (conv=>whnf);intro b1;(conv=>whnf);refine ⟨rfl,?_⟩
 refine RW.freezeB (ts := (Snap.c a)) 2 rfl (DRd.r (DRd.r (DRd.r (DRd.r DRd.e)))) ?_
 refine RW.k XK 12 1 rfl ?_
 (conv=>whnf);refine ⟨rfl,?_⟩
 refine RW.nil ?_
 refine CW.keep 12 [1,2] rfl ?_;(conv=>whnf);refine ⟨?_⟩
 refine CW.seq ?_
 refine CW.region ?_
 refine RW.k XK 12 3 rfl ?_
 (conv=>whnf);refine ⟨rfl,?_⟩
 refine RW.call rfl (laws_heldIntS_fn a.conf k (by repeat (first | exact hk | apply leD | apply hdL_le | apply hdN_le | exact hdI_le | exact hdS_le | exact hdB_le | exact hdVSnap_le))) rfl (.cons (.one (.r .r)) (.cons (.one (.r .r)) (.nil))) fun g2 => ?_
 refine RW.k XK 12 1 rfl ?_
 (conv=>whnf);refine ⟨rfl,?_⟩
 refine RW.nil ?_
 refine CW.keep 12 [1] rfl ?_;(conv=>whnf);refine ⟨?_⟩
 refine CW.seq ?_
 refine CW.k XK 12 1 [1,10] rfl ?_
 (conv=>whnf);refine ⟨rfl,?_⟩
 refine CW.cond rfl (fun h3 => ?_) (fun h3 => ?_)
 ·skip
  refine CW.k XK 12 1 [4] rfl ?_
  (conv=>whnf);refine ⟨rfl,?_⟩
  refine CW.ret ?_
  exact Post.one (RV.i rfl (by simp_all [hdVSnap, hdN_ok, hdN_bad])) (AOs.a rfl (AOs.r AOs.e))
 ·skip
  refine CW.skip ?_
  refine CW.keep 12 [1] rfl ?_;(conv=>whnf);refine ⟨?_⟩
  refine CW.k XK 12 1 [4] rfl ?_
  (conv=>whnf);refine ⟨rfl,?_⟩
  refine CW.ret ?_
  exact Post.one (RV.i rfl (by simp_all [hdVSnap, hdN_ok, hdN_bad])) (AOs.a rfl (AOs.r AOs.e))
set_option maxHeartbeats 4000000 in
theorem laws_FnExactSnapOf_fn (a : Server) (hok : okServer a) : Eng.Fn E.P 3 [.agg ((Server.c a).map .r)] (.one (.one (.w (.v (.bool true))))) [.agg ((Server.c a).map .r)] := by
 refine Eng.Fn.intro (E := E) (rvs := [.tmp 2]) Tryz.func3 rfl rfl rfl (by simp [outSlots, moved, rvSlot, sl]) ?_
 intro B g bo
 refine CW.keep 96 [0] rfl ?_;(conv=>whnf);refine ⟨?_⟩
 refine CW.seq ?_
 refine CW.region ?_
 refine RW.k XK 96 1 rfl ?_
 (conv=>whnf);intro b1;(conv=>whnf);refine ⟨rfl,?_⟩
 refine RW.freezeB (ts := (Server.c a)) 1 rfl (DRd.r (DRd.r (DRd.r (DRd.r (DRd.r (DRd.r (DRd.r (DRd.r (DRd.r (DRd.r (DRd.r (DRd.r (DRd.r (DRd.r (DRd.r (DRd.r (DRd.r (DRd.r (DRd.r (DRd.r (DRd.r (DRd.r (DRd.r (DRd.r (DRd.r (DRd.r (DRd.r DRd.e))))))))))))))))))))))))))) ?_
 refine RW.k XK 96 1 rfl ?_
 (conv=>whnf);refine ⟨rfl,?_⟩
 refine RW.nil ?_
 refine CW.keep 96 [1] rfl ?_;(conv=>whnf);refine ⟨?_⟩
 refine CW.k XK 96 1 [1,3] rfl ?_
 (conv=>whnf);refine ⟨rfl,?_⟩
 refine CW.seq ?_
 refine CW.region ?_
 refine RW.k XK 96 2 rfl ?_
 (conv=>whnf);refine ⟨rfl,?_⟩
 refine RW.call rfl (laws_szServer_fn a 1048576) rfl (.cons (.agg (.cons (.r .r) (.cons (.r .r) (.cons (.r .r) (.cons (.r .r) (.cons (.r .r) (.cons (.r .r) (.cons (.r .r) (.cons (.r .r) (.cons (.r .r) (.cons (.r .r) (.cons (.r .r) (.cons (.r .r) (.cons (.r .r) (.cons (.r .r) (.cons (.r .r) (.cons (.r .r) (.cons (.r .r) (.cons (.r .r) (.cons (.r .r) (.cons (.r .r) (.cons (.r .r) (.cons (.r .r) (.cons (.r .r) (.cons (.r .r) (.cons (.r .r) (.cons (.r .r) (.cons (.r .r) (.nil))))))))))))))))))))))))))))) (.cons (.one (.r .r)) (.nil))) fun g2 => ?_
 refine RW.k XK 96 1 rfl ?_
 (conv=>whnf);refine ⟨rfl,?_⟩
 refine RW.nil ?_
 refine CW.keep 96 [1,3] rfl ?_;(conv=>whnf);refine ⟨?_⟩
 refine CW.seq ?_
 refine CW.k XK 96 1 [1,18] rfl ?_
 (conv=>whnf);refine ⟨rfl,?_⟩
 refine CW.cond rfl (fun h3 => ?_) (fun h3 => ?_)
 ·skip
  refine CW.k XK 96 1 [2] rfl ?_
  (conv=>whnf);refine ⟨rfl,?_⟩
  refine CW.ret ?_
  exact Post.one (RV.b rfl (by first | rfl | (exfalso; have p0 := mkVServer_pos hP; have p1 := (mkVSnap_facts (newest_conf a.disk)).1; have p2 := (mkVSnap_facts (newest_conf a.disk)).2; simp_all [eqSnap_refl, eqServer_refl]; done) | (exfalso; have p0 := mkVServer_pos hP; have p1 := (mkVSnap_facts (newest_conf a.disk)).1; have p2 := (mkVSnap_facts (newest_conf a.disk)).2; simp_all [eqSnap_refl, eqServer_refl]; omega))) (AOs.a rfl AOs.e)
 ·skip
  have hP : okToServer a := (szServer_ok a 1048576 hok (by omega) (by omega) (by simpa using h3)).1
  refine CW.skip ?_
  refine CW.keep 96 [1] rfl ?_;(conv=>whnf);refine ⟨?_⟩
  refine CW.seq ?_
  refine CW.region ?_
  refine RW.k XK 96 1 rfl ?_
  (conv=>whnf);refine ⟨rfl,?_⟩
  refine RW.call rfl (laws_toServer_fn a hP) rfl (.cons (.agg (.cons (.r .r) (.cons (.r .r) (.cons (.r .r) (.cons (.r .r) (.cons (.r .r) (.cons (.r .r) (.cons (.r .r) (.cons (.r .r) (.cons (.r .r) (.cons (.r .r) (.cons (.r .r) (.cons (.r .r) (.cons (.r .r) (.cons (.r .r) (.cons (.r .r) (.cons (.r .r) (.cons (.r .r) (.cons (.r .r) (.cons (.r .r) (.cons (.r .r) (.cons (.r .r) (.cons (.r .r) (.cons (.r .r) (.cons (.r .r) (.cons (.r .r) (.cons (.r .r) (.cons (.r .r) (.nil))))))))))))))))))))))))))))) (.nil)) fun g4 => ?_
  refine RW.callOwn rfl (spec_SnapOf_fn a hP.2.1) rfl (.cons (.agg (.cons (.r .r) (.cons (.r .r) (.cons (.r .r) (.cons (.r .r) (.cons (.r .r) (.cons (.r (.ala (k := none) (i := 21) (j := 5) (sz := 1) (V := (g4 0 5)) rfl rfl rfl nofun)) (.cons (.r .r) (.cons (.r .r) (.cons (.r (.ala (k := none) (i := 21) (j := 8) (sz := 3) (V := (g4 0 8)) rfl rfl rfl nofun)) (.cons (.r .r) (.cons (.r .r) (.cons (.r .r) (.cons (.r (.ala (k := none) (i := 21) (j := 12) (sz := 1) (V := (g4 0 12)) rfl rfl rfl nofun)) (.cons (.r (.ala (k := none) (i := 21) (j := 13) (sz := 4) (V := (g4 0 13)) rfl rfl rfl nofun)) (.cons (.r (.ala (k := none) (i := 21) (j := 14) (sz := 3) (V := (g4 0 14)) rfl rfl rfl nofun)) (.cons (.r .r) (.cons (.r .r) (.cons (.r .r) (.cons (.r .r) (.cons (.r .r) (.cons (.r (.ala (k := none) (i := 21) (j := 20) (sz := 3) (V := (g4 0 20)) rfl rfl rfl nofun)) (.cons (.r (.ala (k := none) (i := 21) (j := 21) (sz := 3) (V := (g4 0 21)) rfl rfl rfl nofun)) (.cons (.r (.ala (k := none) (i := 21) (j := 22) (sz := 3) (V := (g4 0 22)) rfl rfl rfl nofun)) (.cons (.r .r) (.cons (.r .r) (.cons (.r .r) (.cons (.r .r) (.nil))))))))))))))))))))))))))))) (.nil)) rfl fun g5 => ?_
  refine RW.k XK 96 5 rfl ?_
  (conv=>whnf);intro b6;(conv=>whnf);refine ⟨rfl,?_⟩
  refine RW.keep 96 [1,4,23,24] rfl ?_;(conv=>whnf);refine ⟨?_⟩
  refine RW.pullA (k := 4) (l := 23) (j := 2) 4 23 2 rfl rfl rfl (by decide) rfl rfl rfl rfl ?_
  refine RW.keep 96 [1,4,24] rfl ?_;(conv=>whnf);refine ⟨?_⟩
  refine RW.k XK 96 1 rfl ?_
  (conv=>whnf);refine ⟨rfl,?_⟩
  refine RW.nil ?_
  refine CW.keep 96 [1,4,5] rfl ?_;(conv=>whnf);refine ⟨?_⟩
  refine CW.seq ?_
  refine CW.region ?_
  refine RW.k XK 96 1 rfl ?_
  (conv=>whnf);refine ⟨rfl,?_⟩
  refine RW.call rfl (laws_toServer_fn a hP) rfl (.cons (.agg (.cons (.r .r) (.cons (.r .r) (.cons (.r .r) (.cons (.r .r) (.cons (.r .r) (.cons (.r .r) (.cons (.r .r) (.cons (.r .r) (.cons (.r .r) (.cons (.r .r) (.cons (.r .r) (.cons (.r .r) (.cons (.r .r) (.cons (.r .r) (.cons (.r .r) (.cons (.r .r) (.cons (.r .r) (.cons (.r .r) (.cons (.r .r) (.cons (.r .r) (.cons (.r .r) (.cons (.r .r) (.cons (.r .r) (.cons (.r .r) (.cons (.r .r) (.cons (.r .r) (.cons (.r .r) (.nil))))))))))))))))))))))))))))) (.nil)) fun g7 => ?_
  refine RW.k XK 96 2 rfl ?_
  (conv=>whnf);intro b8;(conv=>whnf);refine ⟨rfl,?_⟩
  refine RW.keep 96 [1,4,5,6,26] rfl ?_;(conv=>whnf);refine ⟨?_⟩
  refine RW.pullA (k := 6) (l := 26) (j := 5) 6 26 5 rfl rfl rfl (by decide) rfl rfl rfl rfl ?_
  refine RW.keep 96 [1,4,5,6,26] rfl ?_;(conv=>whnf);refine ⟨?_⟩
  refine RW.pullA (k := 6) (l := 26) (j := 8) 6 26 8 rfl rfl rfl (by decide) rfl rfl rfl rfl ?_
  refine RW.keep 96 [1,4,5,6,26] rfl ?_;(conv=>whnf);refine ⟨?_⟩
  refine RW.pullA (k := 6) (l := 26) (j := 12) 6 26 12 rfl rfl rfl (by decide) rfl rfl rfl rfl ?_
  refine RW.keep 96 [1,4,5,6,26] rfl ?_;(conv=>whnf);refine ⟨?_⟩
  refine RW.pullA (k := 6) (l := 26) (j := 13) 6 26 13 rfl rfl rfl (by decide) rfl rfl rfl rfl ?_
  refine RW.keep 96 [1,4,5,6,26] rfl ?_;(conv=>whnf);refine ⟨?_⟩
  refine RW.pullA (k := 6) (l := 26) (j := 14) 6 26 14 rfl rfl rfl (by decide) rfl rfl rfl rfl ?_
  refine RW.keep 96 [1,4,5,6,26] rfl ?_;(conv=>whnf);refine ⟨?_⟩
  refine RW.pullA (k := 6) (l := 26) (j := 20) 6 26 20 rfl rfl rfl (by decide) rfl rfl rfl rfl ?_
  refine RW.keep 96 [1,4,5,6,26] rfl ?_;(conv=>whnf);refine ⟨?_⟩
  refine RW.pullA (k := 6) (l := 26) (j := 21) 6 26 21 rfl rfl rfl (by decide) rfl rfl rfl rfl ?_
  refine RW.keep 96 [1,4,5,6,26] rfl ?_;(conv=>whnf);refine ⟨?_⟩
  refine RW.pullA (k := 6) (l := 26) (j := 22) 6 26 22 rfl rfl rfl (by decide) rfl rfl rfl rfl ?_
  refine RW.keep 96 [1,4,5,6] rfl ?_;(conv=>whnf);refine ⟨?_⟩
  refine RW.nil ?_
  refine CW.keep 96 [1,4,5,6] rfl ?_;(conv=>whnf);refine ⟨?_⟩
  refine CW.seq ?_
  refine CW.region ?_
  refine RW.k XK 96 1 rfl ?_
  (conv=>whnf);refine ⟨rfl,?_⟩
  refine RW.callOwn rfl (impl_SnapOf_fn a hP.2.1) rfl (.cons (.agg (.cons (.r .r) (.cons (.r .r) (.cons (.r .r) (.cons (.r .r) (.cons (.r .r) (.cons (.r (.alo (k := none) (i := 6) (j := 5) (sz := 1) (V := (g7 0 5)) rfl rfl rfl nofun)) (.cons (.r .r) (.cons (.r .r) (.cons (.r (.alo (k := none) (i := 6) (j := 8) (sz := 3) (V := (g7 0 8)) rfl rfl rfl nofun)) (.cons (.r .r) (.cons (.r .r) (.cons (.r .r) (.cons (.r (.alo (k := none) (i := 6) (j := 12) (sz := 1) (V := (g7 0 12)) rfl rfl rfl nofun)) (.cons (.r (.alo (k := none) (i := 6) (j := 13) (sz := 4) (V := (g7 0 13)) rfl rfl rfl nofun)) (.cons (.r (.alo (k := none) (i := 6) (j := 14) (sz := 3) (V := (g7 0 14)) rfl rfl rfl nofun)) (.cons (.r .r) (.cons (.r .r) (.cons (.r .r) (.cons (.r .r) (.cons (.r .r) (.cons (.r (.alo (k := none) (i := 6) (j := 20) (sz := 3) (V := (g7 0 20)) rfl rfl rfl nofun)) (.cons (.r (.alo (k := none) (i := 6) (j := 21) (sz := 3) (V := (g7 0 21)) rfl rfl rfl nofun)) (.cons (.r (.alo (k := none) (i := 6) (j := 22) (sz := 3) (V := (g7 0 22)) rfl rfl rfl nofun)) (.cons (.r .r) (.cons (.r .r) (.cons (.r .r) (.cons (.r .r) (.nil))))))))))))))))))))))))))))) (.nil)) rfl fun g9 => ?_
  refine RW.k XK 96 5 rfl ?_
  (conv=>whnf);intro b10;(conv=>whnf);refine ⟨rfl,?_⟩
  refine RW.keep 96 [1,4,5,6,7,30,31] rfl ?_;(conv=>whnf);refine ⟨?_⟩
  refine RW.pullA (k := 7) (l := 30) (j := 2) 7 30 2 rfl rfl rfl (by decide) rfl rfl rfl rfl ?_
  refine RW.keep 96 [1,4,5,6,7,31] rfl ?_;(conv=>whnf);refine ⟨?_⟩
  refine RW.k XK 96 1 rfl ?_
  (conv=>whnf);refine ⟨rfl,?_⟩
  refine RW.nil ?_
  refine CW.keep 96 [1,4,5,6,7,8] rfl ?_;(conv=>whnf);refine ⟨?_⟩
  refine CW.seq ?_
  refine CW.seqJ 96 (fun (v11 : Bool) => [(1, .rp (Server.c a)), (4, .obj b6 [I (((newest a.disk).1).index), I (((newest a.disk).1).term_), .w (sl 1 cI (((newest a.disk).1).conf)) (g5 0 2), S (((newest a.disk).1).body)]), (5, Bo ((newest a.disk).2)), (6, .obj b8 [I a.node.id, I a.node.term_, I a.node.vote, I a.node.role, I a.node.lead, .w (sl 1 cI a.node.conf) (g7 0 5), I a.node.log.start, I a.node.log.startTerm, .w (sl 3 Entry.c a.node.log.entries) (g7 0 8), I a.node.commit, I a.node.clock, I a.node.limit, .w (sl 1 cI a.node.votes) (g7 0 12), .w (sl 4 Peer.c a.node.peers) (g7 0 13), .w (sl 3 File.c a.disk.files) (g7 0 14), I a.journal.number, I a.journal.term_, I a.journal.vote, I a.journal.log.start, I a.journal.log.startTerm, .w (sl 3 Entry.c a.journal.log.entries) (g7 0 20), .w (sl 3 Session.c a.keep.sessions) (g7 0 21), .w (sl 3 Item.c a.keep.items) (g7 0 22), I a.applied, S a.stage, I a.stageAt, I a.stageTerm]), (7, .obj b10 [I (((newest a.disk).1).index), I (((newest a.disk).1).term_), .w (sl 1 cI (((newest a.disk).1).conf)) (g9 0 2), S (((newest a.disk).1).body)]), (8, Bo ((newest a.disk).2)), (40, Bo v11)]) (fun v11 => v11 = ((!(eqSnap ((newest a.disk).1) ((newest a.disk).1))) || (!(((newest a.disk).2) == ((newest a.disk).2))))) ?_ ?_
  ·refine CW.region ?_
   refine RW.k XK 96 2 rfl ?_
   (conv=>whnf);refine ⟨rfl,?_⟩
   refine RW.callOwn rfl (laws_eqSnap_fn ((newest a.disk).1) ((newest a.disk).1)) rfl (.cons (.agg (.cons (.r .r) (.cons (.r .r) (.cons (.r (.alo (k := none) (i := 7) (j := 2) (sz := 1) (V := (g9 0 2)) rfl rfl rfl nofun)) (.cons (.r .r) (.nil)))))) (.cons (.agg (.cons (.r .r) (.cons (.r .r) (.cons (.r (.alo (k := none) (i := 4) (j := 2) (sz := 1) (V := (g5 0 2)) rfl rfl rfl nofun)) (.cons (.r .r) (.nil)))))) (.nil))) rfl fun g12 => ?_
   refine RW.k XK 96 2 rfl ?_
   (conv=>whnf);refine ⟨rfl,?_⟩
   refine RW.gv rfl rfl rfl rfl (fun h13 => V.mv (d := Bo ((newest a.disk).2)) rfl rfl) (fun h13 => ?_) (fun h13 => ?_)
   ·skip
    refine RW.k XK 96 1 rfl ?_
    (conv=>whnf);refine ⟨rfl,?_⟩
    refine RW.gt rfl rfl rfl rfl (V.eqBool rfl rfl rfl (by kernel_rfl) (.inr ⟨rfl, rfl⟩)) ?_
    refine RW.k XK 96 1 rfl ?_
    (conv=>whnf);refine ⟨rfl,?_⟩
    refine RW.nil ?_
    exact ⟨_, by first | rfl | (simp_all; done) | (simp_all; omega) | grind, rfl, Le.of rfl⟩
   ·skip
    refine RW.k XK 96 3 rfl ?_
    (conv=>whnf);refine ⟨rfl,?_⟩
    refine RW.nil ?_
    exact ⟨_, by first | rfl | (simp_all; done) | (simp_all; omega) | grind, rfl, Le.of rfl⟩
  ·intro v11 hv14
   refine CW.cond rfl (fun h15 => ?_) (fun h15 => ?_)
   ·skip
    refine CW.k XK 96 1 [2] rfl ?_
    (conv=>whnf);refine ⟨rfl,?_⟩
    refine CW.ret ?_
    exact Post.one (RV.b rfl (by first | rfl | (exfalso; have p0 := mkVServer_pos hP; have p1 := (mkVSnap_facts (newest_conf a.disk)).1; have p2 := (mkVSnap_facts (newest_conf a.disk)).2; simp_all [eqSnap_refl, eqServer_refl]; done) | (exfalso; have p0 := mkVServer_pos hP; have p1 := (mkVSnap_facts (newest_conf a.disk)).1; have p2 := (mkVSnap_facts (newest_conf a.disk)).2; simp_all [eqSnap_refl, eqServer_refl]; omega))) (AOs.a rfl AOs.e)
   ·skip
    refine CW.skip ?_
    refine CW.keep 96 [1,4,5,6,7,8] rfl ?_;(conv=>whnf);refine ⟨?_⟩
    refine CW.seq ?_
    refine CW.anyJ2 (fc := [(4, b6, [.int .i64 (((newest a.disk).1).index), .int .i64 (((newest a.disk).1).term_), (g5 0 2), .string (((newest a.disk).1).body)]), (6, b8, [.int .i64 a.node.id, .int .i64 a.node.term_, .int .i64 a.node.vote, .int .i64 a.node.role, .int .i64 a.node.lead, (g7 0 5), .int .i64 a.node.log.start, .int .i64 a.node.log.startTerm, (g7 0 8), .int .i64 a.node.commit, .int .i64 a.node.clock, .int .i64 a.node.limit, (g7 0 12), (g7 0 13), (g7 0 14), .int .i64 a.journal.number, .int .i64 a.journal.term_, .int .i64 a.journal.vote, .int .i64 a.journal.log.start, .int .i64 a.journal.log.startTerm, (g7 0 20), (g7 0 21), (g7 0 22), .int .i64 a.applied, .string a.stage, .int .i64 a.stageAt, .int .i64 a.stageTerm]), (7, b10, [.int .i64 (((newest a.disk).1).index), .int .i64 (((newest a.disk).1).term_), (g9 0 2), .string (((newest a.disk).1).body)])]) (L0 := [(1, .rp (Server.c a)), (4, .obj b6 [I (((newest a.disk).1).index), I (((newest a.disk).1).term_), .w (sl 1 cI (((newest a.disk).1).conf)) (g5 0 2), S (((newest a.disk).1).body)]), (5, Bo ((newest a.disk).2)), (6, .obj b8 [I a.node.id, I a.node.term_, I a.node.vote, I a.node.role, I a.node.lead, .w (sl 1 cI a.node.conf) (g7 0 5), I a.node.log.start, I a.node.log.startTerm, .w (sl 3 Entry.c a.node.log.entries) (g7 0 8), I a.node.commit, I a.node.clock, I a.node.limit, .w (sl 1 cI a.node.votes) (g7 0 12), .w (sl 4 Peer.c a.node.peers) (g7 0 13), .w (sl 3 File.c a.disk.files) (g7 0 14), I a.journal.number, I a.journal.term_, I a.journal.vote, I a.journal.log.start, I a.journal.log.startTerm, .w (sl 3 Entry.c a.journal.log.entries) (g7 0 20), .w (sl 3 Session.c a.keep.sessions) (g7 0 21), .w (sl 3 Item.c a.keep.items) (g7 0 22), I a.applied, S a.stage, I a.stageAt, I a.stageTerm]), (7, .obj b10 [I (((newest a.disk).1).index), I (((newest a.disk).1).term_), .w (sl 1 cI (((newest a.disk).1).conf)) (g9 0 2), S (((newest a.disk).1).body)]), (8, Bo ((newest a.disk).2))]) 96 (fun (zz : (Nat → Nat → Value) × (Nat → Nat → Value)) => match zz with | (go16_2_1, go16_3_1) => [(45, Bo (!(eqServer a a)))]) (fun all hall f hf b0 hb K hK => ?_) ?_
    ·skip
     have ro16_2 : ∀ B, ∀ (go16_2_1 : Nat → Nat → Value), ∀ (go16_3_1 : Nat → Nat → Value), RA f E B all 0 (bt 5 31) ⟨96, [(45, Bo (!(eqServer a a)))] ++ b0⟩ K := by
      intro B go16_2_1 go16_3_1
      exact RA.of2 hall hf hb (RA.finH (Tell.of rfl) (by kernel_rfl) (hK (go16_2_1, go16_3_1) _ rfl (Le.of rfl)))
     have ro16_1 : ∀ B, ∀ (go16_2_1 : Nat → Nat → Value), RA f E B all 2 (bt 5 7) ⟨96, [(41, .agg [I a.node.id, I a.node.term_, I a.node.vote, I a.node.role, I a.node.lead, .al 6 (some 5) 1 a.node.conf.length (g7 0 5) 0, I a.node.log.start, I a.node.log.startTerm, .al 6 (some 8) 3 a.node.log.entries.length (g7 0 8) 0, I a.node.commit, I a.node.clock, I a.node.limit, .al 6 (some 12) 1 a.node.votes.length (g7 0 12) 0, .al 6 (some 13) 4 a.node.peers.length (g7 0 13) 0, .al 6 (some 14) 3 a.disk.files.length (g7 0 14) 0, I a.journal.number, I a.journal.term_, I a.journal.vote, I a.journal.log.start, I a.journal.log.startTerm, .al 6 (some 20) 3 a.journal.log.entries.length (g7 0 20) 0, .al 6 (some 21) 3 a.keep.sessions.length (g7 0 21) 0, .al 6 (some 22) 3 a.keep.items.length (g7 0 22) 0, I a.applied, S a.stage, I a.stageAt, I a.stageTerm]), (43, .agg [I a.node.id, I a.node.term_, I a.node.vote, I a.node.role, I a.node.lead, .w (sl 1 cI a.node.conf) (go16_2_1 0 5), I a.node.log.start, I a.node.log.startTerm, .w (sl 3 Entry.c a.node.log.entries) (go16_2_1 0 8), I a.node.commit, I a.node.clock, I a.node.limit, .w (sl 1 cI a.node.votes) (go16_2_1 0 12), .w (sl 4 Peer.c a.node.peers) (go16_2_1 0 13), .w (sl 3 File.c a.disk.files) (go16_2_1 0 14), I a.journal.number, I a.journal.term_, I a.journal.vote, I a.journal.log.start, I a.journal.log.startTerm, .w (sl 3 Entry.c a.journal.log.entries) (go16_2_1 0 20), .w (sl 3 Session.c a.keep.sessions) (go16_2_1 0 21), .w (sl 3 Item.c a.keep.items) (go16_2_1 0 22), I a.applied, S a.stage, I a.stageAt, I a.stageTerm])] ++ b0⟩ K := by
      intro B go16_2_1
      refine RA.of2 hall hf hb (RA.stepH (L := [3]) (Tell.of rfl) (by kernel_rfl) (by simp) (RA.each ?_ (RA.each0)))
      ·skip
       refine RO.callOwn rfl rfl (laws_eqServer_fn a a) rfl (.cons (.agg (.cons (.r .r) (.cons (.r .r) (.cons (.r .r) (.cons (.r .r) (.cons (.r .r) (.cons (.r (.alo (k := none) (i := 6) (j := 5) (sz := 1) (V := (g7 0 5)) rfl rfl rfl nofun)) (.cons (.r .r) (.cons (.r .r) (.cons (.r (.alo (k := none) (i := 6) (j := 8) (sz := 3) (V := (g7 0 8)) rfl rfl rfl nofun)) (.cons (.r .r) (.cons (.r .r) (.cons (.r .r) (.cons (.r (.alo (k := none) (i := 6) (j := 12) (sz := 1) (V := (g7 0 12)) rfl rfl rfl nofun)) (.cons (.r (.alo (k := none) (i := 6) (j := 13) (sz := 4) (V := (g7 0 13)) rfl rfl rfl nofun)) (.cons (.r (.alo (k := none) (i := 6) (j := 14) (sz := 3) (V := (g7 0 14)) rfl rfl rfl nofun)) (.cons (.r .r) (.cons (.r .r) (.cons (.r .r) (.cons (.r .r) (.cons (.r .r) (.cons (.r (.alo (k := none) (i := 6) (j := 20) (sz := 3) (V := (g7 0 20)) rfl rfl rfl nofun)) (.cons (.r (.alo (k := none) (i := 6) (j := 21) (sz := 3) (V := (g7 0 21)) rfl rfl rfl nofun)) (.cons (.r (.alo (k := none) (i := 6) (j := 22) (sz := 3) (V := (g7 0 22)) rfl rfl rfl nofun)) (.cons (.r .r) (.cons (.r .r) (.cons (.r .r) (.cons (.r .r) (.nil))))))))))))))))))))))))))))) (.cons (.agg (.cons (.r .r) (.cons (.r .r) (.cons (.r .r) (.cons (.r .r) (.cons (.r .r) (.cons (.r (.ala (k := none) (i := 43) (j := 5) (sz := 1) (V := (go16_2_1 0 5)) rfl rfl rfl nofun)) (.cons (.r .r) (.cons (.r .r) (.cons (.r (.ala (k := none) (i := 43) (j := 8) (sz := 3) (V := (go16_2_1 0 8)) rfl rfl rfl nofun)) (.cons (.r .r) (.cons (.r .r) (.cons (.r .r) (.cons (.r (.ala (k := none) (i := 43) (j := 12) (sz := 1) (V := (go16_2_1 0 12)) rfl rfl rfl nofun)) (.cons (.r (.ala (k := none) (i := 43) (j := 13) (sz := 4) (V := (go16_2_1 0 13)) rfl rfl rfl nofun)) (.cons (.r (.ala (k := none) (i := 43) (j := 14) (sz := 3) (V := (go16_2_1 0 14)) rfl rfl rfl nofun)) (.cons (.r .r) (.cons (.r .r) (.cons (.r .r) (.cons (.r .r) (.cons (.r .r) (.cons (.r (.ala (k := none) (i := 43) (j := 20) (sz := 3) (V := (go16_2_1 0 20)) rfl rfl rfl nofun)) (.cons (.r (.ala (k := none) (i := 43) (j := 21) (sz := 3) (V := (go16_2_1 0 21)) rfl rfl rfl nofun)) (.cons (.r (.ala (k := none) (i := 43) (j := 22) (sz := 3) (V := (go16_2_1 0 22)) rfl rfl rfl nofun)) (.cons (.r .r) (.cons (.r .r) (.cons (.r .r) (.cons (.r .r) (.nil))))))))))))))))))))))))))))) (.nil))) rfl rfl fun go16_3_1 => ?_
       refine RA.fr XK 96 0 [4] (bt 5 31) rfl rfl (by kernel_rfl) (Tell.of rfl) ?_
       (conv=>whnf);refine ⟨rfl,fun B=>?_⟩
       exact RA.to2 hall hf hb (ro16_2 B go16_2_1 go16_3_1) rfl rfl (by kernel_rfl)
     have ro16_0 : ∀ B, RA f E B all 3 (bt 5 3) ⟨96, [(41, .agg [I a.node.id, I a.node.term_, I a.node.vote, I a.node.role, I a.node.lead, .al 6 (some 5) 1 a.node.conf.length (g7 0 5) 0, I a.node.log.start, I a.node.log.startTerm, .al 6 (some 8) 3 a.node.log.entries.length (g7 0 8) 0, I a.node.commit, I a.node.clock, I a.node.limit, .al 6 (some 12) 1 a.node.votes.length (g7 0 12) 0, .al 6 (some 13) 4 a.node.peers.length (g7 0 13) 0, .al 6 (some 14) 3 a.disk.files.length (g7 0 14) 0, I a.journal.number, I a.journal.term_, I a.journal.vote, I a.journal.log.start, I a.journal.log.startTerm, .al 6 (some 20) 3 a.journal.log.entries.length (g7 0 20) 0, .al 6 (some 21) 3 a.keep.sessions.length (g7 0 21) 0, .al 6 (some 22) 3 a.keep.items.length (g7 0 22) 0, I a.applied, S a.stage, I a.stageAt, I a.stageTerm]), (42, .agg ((Server.c a).map .r))] ++ b0⟩ K := by
      intro B
      refine RA.of2 hall hf hb (RA.stepH (L := [2]) (Tell.of rfl) (by kernel_rfl) (by simp) (RA.each ?_ (RA.each0)))
      ·skip
       refine RO.call rfl rfl (laws_toServer_fn a hP) rfl (.cons (.agg (.cons (.r .r) (.cons (.r .r) (.cons (.r .r) (.cons (.r .r) (.cons (.r .r) (.cons (.r .r) (.cons (.r .r) (.cons (.r .r) (.cons (.r .r) (.cons (.r .r) (.cons (.r .r) (.cons (.r .r) (.cons (.r .r) (.cons (.r .r) (.cons (.r .r) (.cons (.r .r) (.cons (.r .r) (.cons (.r .r) (.cons (.r .r) (.cons (.r .r) (.cons (.r .r) (.cons (.r .r) (.cons (.r .r) (.cons (.r .r) (.cons (.r .r) (.cons (.r .r) (.cons (.r .r) (.nil))))))))))))))))))))))))))))) (.nil)) rfl fun go16_2_1 => ?_
       exact RA.to2 hall hf hb (ro16_1 B go16_2_1) rfl rfl (by kernel_rfl)
     refine RA.start (by kernel_rfl) (by kernel_rfl) (m := 5) (ls' := (bt 5 0)) ?_
     refine RA.fr XK 96 3 [0,1] (bt 5 3) rfl rfl (by kernel_rfl) (Tell.of rfl) ?_
     (conv=>whnf);refine ⟨rfl,fun B=>?_⟩
     exact RA.to2 hall hf hb (ro16_0 B) rfl rfl (by kernel_rfl)
    ·rintro ⟨go16_2_1, go16_3_1⟩
     refine CW.cond rfl (fun h17 => ?_) (fun h17 => ?_)
     ·skip
      refine CW.k XK 96 1 [2] rfl ?_
      (conv=>whnf);refine ⟨rfl,?_⟩
      refine CW.ret ?_
      exact Post.one (RV.b rfl (by first | rfl | (exfalso; have p0 := mkVServer_pos hP; have p1 := (mkVSnap_facts (newest_conf a.disk)).1; have p2 := (mkVSnap_facts (newest_conf a.disk)).2; simp_all [eqSnap_refl, eqServer_refl]; done) | (exfalso; have p0 := mkVServer_pos hP; have p1 := (mkVSnap_facts (newest_conf a.disk)).1; have p2 := (mkVSnap_facts (newest_conf a.disk)).2; simp_all [eqSnap_refl, eqServer_refl]; omega))) (AOs.a rfl AOs.e)
     ·skip
      refine CW.skip ?_
      refine CW.keep 96 [1,4,5,6,7,8] rfl ?_;(conv=>whnf);refine ⟨?_⟩
      refine CW.k XK 96 1 [1,4,5,6,7,8,9] rfl ?_
      (conv=>whnf);refine ⟨rfl,?_⟩
      refine CW.seq ?_
      refine CW.region ?_
      refine RW.k XK 96 2 rfl ?_
      (conv=>whnf);refine ⟨rfl,?_⟩
      refine RW.callW (k := 6) (laws_markServer_fn a 1 (by decide)) rfl rfl (Nat.le_of_ble_eq_true rfl) (by decide) (.here (AsW.aggO (Hand.v (Hand.v (Hand.v (Hand.v (Hand.v (Hand.w (Hand.v (Hand.v (Hand.w (Hand.v (Hand.v (Hand.v (Hand.w (Hand.w (Hand.w (Hand.v (Hand.v (Hand.v (Hand.v (Hand.v (Hand.w (Hand.w (Hand.w (Hand.v (Hand.v (Hand.v (Hand.v Hand.e)))))))))))))))))))))))))))) (.cons (.one (.r .r)) (.nil))) rfl fun g18 q19 => ?_
      refine RW.k XK 96 1 rfl ?_
      (conv=>whnf);refine ⟨rfl,?_⟩
      refine RW.nil ?_
      refine CW.keep 96 [1,4,5,7,8,9] rfl ?_;(conv=>whnf);refine ⟨?_⟩
      refine CW.seq ?_
      refine CW.seqJ 96 (fun (v20 : Bool) => [(1, .rp (Server.c a)), (4, .obj b6 [I (((newest a.disk).1).index), I (((newest a.disk).1).term_), .w (sl 1 cI (((newest a.disk).1).conf)) (g5 0 2), S (((newest a.disk).1).body)]), (5, Bo ((newest a.disk).2)), (7, .obj b10 [I (((newest a.disk).1).index), I (((newest a.disk).1).term_), .w (sl 1 cI (((newest a.disk).1).conf)) (g9 0 2), S (((newest a.disk).1).body)]), (61, Bo v20)]) (fun v20 => v20 = ((decide (((mkVServer a 1).2) < 0) || (!(eqSnap ((newest a.disk).1) ((newest a.disk).1)))) || (!(((newest a.disk).2) == ((newest a.disk).2))))) ?_ ?_
      ·refine CW.region ?_
       refine RW.k XK 96 3 rfl ?_
       (conv=>whnf);refine ⟨rfl,?_⟩
       refine RW.gv rfl rfl rfl rfl (fun h21 => V.loadAgg rfl rfl rfl rfl rfl (Nat.le_of_ble_eq_true rfl)) (fun h21 => ?_) (fun h21 => ?_)
       ·skip
        refine RW.k XK 96 1 rfl ?_
        (conv=>whnf);refine ⟨rfl,?_⟩
        refine RW.gcallOwn rfl rfl rfl rfl (laws_eqSnap_fn ((newest a.disk).1) ((newest a.disk).1)) rfl (.cons (.agg (.cons (.r .r) (.cons (.r .r) (.cons (.r (.alo (k := none) (i := 7) (j := 2) (sz := 1) (V := (g9 0 2)) rfl rfl rfl nofun)) (.cons (.r .r) (.nil)))))) (.cons (.agg (.cons (.r .r) (.cons (.r .r) (.cons (.r (.alo (k := none) (i := 4) (j := 2) (sz := 1) (V := (g5 0 2)) rfl rfl rfl nofun)) (.cons (.r .r) (.nil)))))) (.nil))) rfl fun g22 => ?_
        refine RW.k XK 96 3 rfl ?_
        (conv=>whnf);refine ⟨rfl,?_⟩
        refine RW.gv rfl rfl rfl rfl (fun h23 => V.mv (d := Bo ((newest a.disk).2)) rfl rfl) (fun h23 => ?_) (fun h23 => ?_)
        ·skip
         refine RW.k XK 96 1 rfl ?_
         (conv=>whnf);refine ⟨rfl,?_⟩
         refine RW.gt rfl rfl rfl rfl (V.eqBool rfl rfl rfl (by kernel_rfl) (.inr ⟨rfl, rfl⟩)) ?_
         refine RW.k XK 96 1 rfl ?_
         (conv=>whnf);refine ⟨rfl,?_⟩
         refine RW.nil ?_
         exact ⟨_, by first | rfl | (simp_all; done) | (simp_all; omega) | grind, rfl, Le.of rfl⟩
        ·skip
         refine RW.k XK 96 3 rfl ?_
         (conv=>whnf);refine ⟨rfl,?_⟩
         refine RW.nil ?_
         exact ⟨_, by first | rfl | (simp_all; done) | (simp_all; omega) | grind, rfl, Le.of rfl⟩
       ·skip
        refine RW.k XK 96 9 rfl ?_
        (conv=>whnf);refine ⟨rfl,?_⟩
        refine RW.nil ?_
        exact ⟨_, by first | rfl | (simp_all; done) | (simp_all; omega) | grind, rfl, Le.of rfl⟩
      ·intro v20 hv24
       refine CW.cond rfl (fun h25 => ?_) (fun h25 => ?_)
       ·skip
        refine CW.k XK 96 1 [2] rfl ?_
        (conv=>whnf);refine ⟨rfl,?_⟩
        refine CW.ret ?_
        exact Post.one (RV.b rfl (by first | rfl | (exfalso; have p0 := mkVServer_pos hP; have p1 := (mkVSnap_facts (newest_conf a.disk)).1; have p2 := (mkVSnap_facts (newest_conf a.disk)).2; simp_all [eqSnap_refl, eqServer_refl]; done) | (exfalso; have p0 := mkVServer_pos hP; have p1 := (mkVSnap_facts (newest_conf a.disk)).1; have p2 := (mkVSnap_facts (newest_conf a.disk)).2; simp_all [eqSnap_refl, eqServer_refl]; omega))) (AOs.a rfl AOs.e)
       ·skip
        refine CW.skip ?_
        refine CW.keep 96 [1,4,5,7] rfl ?_;(conv=>whnf);refine ⟨?_⟩
        refine CW.k XK 96 1 [1,4,5,7,10] rfl ?_
        (conv=>whnf);refine ⟨rfl,?_⟩
        refine CW.seq ?_
        refine CW.region ?_
        refine RW.k XK 96 2 rfl ?_
        (conv=>whnf);refine ⟨rfl,?_⟩
        refine RW.callW (k := 7) (laws_markSnap_fn ((newest a.disk).1) 1 (by decide)) rfl rfl (Nat.le_of_ble_eq_true rfl) (by decide) (.here (AsW.aggO (Hand.v (Hand.v (Hand.w (Hand.v Hand.e))))) (.cons (.one (.r .r)) (.nil))) rfl fun g26 q27 => ?_
        refine RW.k XK 96 1 rfl ?_
        (conv=>whnf);refine ⟨rfl,?_⟩
        refine RW.nil ?_
        refine CW.keep 96 [1,4,5,7,10] rfl ?_;(conv=>whnf);refine ⟨?_⟩
        refine CW.k XK 96 1 [1,4,5,7,10,11] rfl ?_
        (conv=>whnf);refine ⟨rfl,?_⟩
        refine CW.seq ?_
        refine CW.region ?_
        refine RW.k XK 96 2 rfl ?_
        (conv=>whnf);refine ⟨rfl,?_⟩
        refine RW.callOwn rfl (laws_heldSnap_fn ((mkVSnap ((newest a.disk).1) 1).1) 1 (by decide)) rfl (.cons (.agg (.cons (.r .r) (.cons (.r .r) (.cons (.r (.alo (k := none) (i := 7) (j := 2) (sz := 1) (V := (g9 0 2)) rfl rfl rfl nofun)) (.cons (.r .r) (.nil)))))) (.cons (.one (.r .r)) (.nil))) rfl fun g28 => ?_
        refine RW.k XK 96 1 rfl ?_
        (conv=>whnf);refine ⟨rfl,?_⟩
        refine RW.nil ?_
        refine CW.keep 96 [1,4,5,7,10,11] rfl ?_;(conv=>whnf);refine ⟨?_⟩
        refine CW.seq ?_
        refine CW.k XK 96 1 [1,4,5,7,10,11,69] rfl ?_
        (conv=>whnf);refine ⟨rfl,?_⟩
        refine CW.cond rfl (fun h29 => ?_) (fun h29 => ?_)
        ·skip
         refine CW.k XK 96 1 [2] rfl ?_
         (conv=>whnf);refine ⟨rfl,?_⟩
         refine CW.ret ?_
         exact Post.one (RV.b rfl (by first | rfl | (exfalso; have p0 := mkVServer_pos hP; have p1 := (mkVSnap_facts (newest_conf a.disk)).1; have p2 := (mkVSnap_facts (newest_conf a.disk)).2; simp_all [eqSnap_refl, eqServer_refl]; done) | (exfalso; have p0 := mkVServer_pos hP; have p1 := (mkVSnap_facts (newest_conf a.disk)).1; have p2 := (mkVSnap_facts (newest_conf a.disk)).2; simp_all [eqSnap_refl, eqServer_refl]; omega))) (AOs.a rfl AOs.e)
        ·skip
         refine CW.skip ?_
         refine CW.keep 96 [1,4,5,7,10,11] rfl ?_;(conv=>whnf);refine ⟨?_⟩
         refine CW.seq ?_
         refine CW.k XK 96 1 [1,4,5,7,10,72] rfl ?_
         (conv=>whnf);refine ⟨rfl,?_⟩
         refine CW.cond rfl (fun h30 => ?_) (fun h30 => ?_)
         ·skip
          refine CW.k XK 96 1 [2] rfl ?_
          (conv=>whnf);refine ⟨rfl,?_⟩
          refine CW.ret ?_
          exact Post.one (RV.b rfl (by first | rfl | (exfalso; have p0 := mkVServer_pos hP; have p1 := (mkVSnap_facts (newest_conf a.disk)).1; have p2 := (mkVSnap_facts (newest_conf a.disk)).2; simp_all [eqSnap_refl, eqServer_refl]; done) | (exfalso; have p0 := mkVServer_pos hP; have p1 := (mkVSnap_facts (newest_conf a.disk)).1; have p2 := (mkVSnap_facts (newest_conf a.disk)).2; simp_all [eqSnap_refl, eqServer_refl]; omega))) (AOs.a rfl AOs.e)
         ·skip
          refine CW.skip ?_
          refine CW.keep 96 [1,4,5,7,10] rfl ?_;(conv=>whnf);refine ⟨?_⟩
          refine CW.seq ?_
          refine CW.region ?_
          refine RW.k XK 96 1 rfl ?_
          (conv=>whnf);refine ⟨rfl,?_⟩
          refine RW.call rfl (laws_toServer_fn a hP) rfl (.cons (.agg (.cons (.r .r) (.cons (.r .r) (.cons (.r .r) (.cons (.r .r) (.cons (.r .r) (.cons (.r .r) (.cons (.r .r) (.cons (.r .r) (.cons (.r .r) (.cons (.r .r) (.cons (.r .r) (.cons (.r .r) (.cons (.r .r) (.cons (.r .r) (.cons (.r .r) (.cons (.r .r) (.cons (.r .r) (.cons (.r .r) (.cons (.r .r) (.cons (.r .r) (.cons (.r .r) (.cons (.r .r) (.cons (.r .r) (.cons (.r .r) (.cons (.r .r) (.cons (.r .r) (.cons (.r .r) (.nil))))))))))))))))))))))))))))) (.nil)) fun g31 => ?_
          refine RW.callOwn rfl (impl_SnapOf_fn a hP.2.1) rfl (.cons (.agg (.cons (.r .r) (.cons (.r .r) (.cons (.r .r) (.cons (.r .r) (.cons (.r .r) (.cons (.r (.ala (k := none) (i := 75) (j := 5) (sz := 1) (V := (g31 0 5)) rfl rfl rfl nofun)) (.cons (.r .r) (.cons (.r .r) (.cons (.r (.ala (k := none) (i := 75) (j := 8) (sz := 3) (V := (g31 0 8)) rfl rfl rfl nofun)) (.cons (.r .r) (.cons (.r .r) (.cons (.r .r) (.cons (.r (.ala (k := none) (i := 75) (j := 12) (sz := 1) (V := (g31 0 12)) rfl rfl rfl nofun)) (.cons (.r (.ala (k := none) (i := 75) (j := 13) (sz := 4) (V := (g31 0 13)) rfl rfl rfl nofun)) (.cons (.r (.ala (k := none) (i := 75) (j := 14) (sz := 3) (V := (g31 0 14)) rfl rfl rfl nofun)) (.cons (.r .r) (.cons (.r .r) (.cons (.r .r) (.cons (.r .r) (.cons (.r .r) (.cons (.r (.ala (k := none) (i := 75) (j := 20) (sz := 3) (V := (g31 0 20)) rfl rfl rfl nofun)) (.cons (.r (.ala (k := none) (i := 75) (j := 21) (sz := 3) (V := (g31 0 21)) rfl rfl rfl nofun)) (.cons (.r (.ala (k := none) (i := 75) (j := 22) (sz := 3) (V := (g31 0 22)) rfl rfl rfl nofun)) (.cons (.r .r) (.cons (.r .r) (.cons (.r .r) (.cons (.r .r) (.nil))))))))))))))))))))))))))))) (.nil)) rfl fun g32 => ?_
          refine RW.k XK 96 5 rfl ?_
          (conv=>whnf);intro b33;(conv=>whnf);refine ⟨rfl,?_⟩
          refine RW.keep 96 [4,5,7,10,12,77,78] rfl ?_;(conv=>whnf);refine ⟨?_⟩
          refine RW.pullA (k := 12) (l := 77) (j := 2) 12 77 2 rfl rfl rfl (by decide) rfl rfl rfl rfl ?_
          refine RW.keep 96 [4,5,7,10,12,78] rfl ?_;(conv=>whnf);refine ⟨?_⟩
          refine RW.k XK 96 1 rfl ?_
          (conv=>whnf);refine ⟨rfl,?_⟩
          refine RW.nil ?_
          refine CW.keep 96 [4,5,7,10,12,13] rfl ?_;(conv=>whnf);refine ⟨?_⟩
          refine CW.seq ?_
          refine CW.seqJ 96 (fun (v34 : Bool) => [(7, .obj b10 [I (((mkVSnap ((newest a.disk).1) 1).1).index), I (((mkVSnap ((newest a.disk).1) 1).1).term_), .w (sl 1 cI (((mkVSnap ((newest a.disk).1) 1).1).conf)) (g9 0 2), S (((mkVSnap ((newest a.disk).1) 1).1).body)]), (10, I ((mkVSnap ((newest a.disk).1) 1).2)), (87, Bo v34)]) (fun v34 => v34 = ((!(eqSnap ((newest a.disk).1) ((newest a.disk).1))) || (!(((newest a.disk).2) == ((newest a.disk).2))))) ?_ ?_
          ·refine CW.region ?_
           refine RW.k XK 96 2 rfl ?_
           (conv=>whnf);refine ⟨rfl,?_⟩
           refine RW.callOwn rfl (laws_eqSnap_fn ((newest a.disk).1) ((newest a.disk).1)) rfl (.cons (.agg (.cons (.r .r) (.cons (.r .r) (.cons (.r (.alo (k := none) (i := 12) (j := 2) (sz := 1) (V := (g32 0 2)) rfl rfl rfl nofun)) (.cons (.r .r) (.nil)))))) (.cons (.agg (.cons (.r .r) (.cons (.r .r) (.cons (.r (.alo (k := none) (i := 4) (j := 2) (sz := 1) (V := (g5 0 2)) rfl rfl rfl nofun)) (.cons (.r .r) (.nil)))))) (.nil))) rfl fun g35 => ?_
           refine RW.k XK 96 2 rfl ?_
           (conv=>whnf);refine ⟨rfl,?_⟩
           refine RW.gv rfl rfl rfl rfl (fun h36 => V.mv (d := Bo ((newest a.disk).2)) rfl rfl) (fun h36 => ?_) (fun h36 => ?_)
           ·skip
            refine RW.k XK 96 1 rfl ?_
            (conv=>whnf);refine ⟨rfl,?_⟩
            refine RW.gt rfl rfl rfl rfl (V.eqBool rfl rfl rfl (by kernel_rfl) (.inr ⟨rfl, rfl⟩)) ?_
            refine RW.k XK 96 1 rfl ?_
            (conv=>whnf);refine ⟨rfl,?_⟩
            refine RW.nil ?_
            exact ⟨_, by first | rfl | (simp_all; done) | (simp_all; omega) | grind, rfl, Le.of rfl⟩
           ·skip
            refine RW.k XK 96 3 rfl ?_
            (conv=>whnf);refine ⟨rfl,?_⟩
            refine RW.nil ?_
            exact ⟨_, by first | rfl | (simp_all; done) | (simp_all; omega) | grind, rfl, Le.of rfl⟩
          ·intro v34 hv37
           refine CW.cond rfl (fun h38 => ?_) (fun h38 => ?_)
           ·skip
            refine CW.k XK 96 1 [2] rfl ?_
            (conv=>whnf);refine ⟨rfl,?_⟩
            refine CW.ret ?_
            exact Post.one (RV.b rfl (by first | rfl | (exfalso; have p0 := mkVServer_pos hP; have p1 := (mkVSnap_facts (newest_conf a.disk)).1; have p2 := (mkVSnap_facts (newest_conf a.disk)).2; simp_all [eqSnap_refl, eqServer_refl]; done) | (exfalso; have p0 := mkVServer_pos hP; have p1 := (mkVSnap_facts (newest_conf a.disk)).1; have p2 := (mkVSnap_facts (newest_conf a.disk)).2; simp_all [eqSnap_refl, eqServer_refl]; omega))) (AOs.a rfl AOs.e)
           ·skip
            refine CW.skip ?_
            refine CW.keep 96 [7,10] rfl ?_;(conv=>whnf);refine ⟨?_⟩
            refine CW.k XK 96 1 [7,10,11] rfl ?_
            (conv=>whnf);refine ⟨rfl,?_⟩
            refine CW.seq ?_
            refine CW.region ?_
            refine RW.k XK 96 2 rfl ?_
            (conv=>whnf);refine ⟨rfl,?_⟩
            refine RW.callOwn rfl (laws_heldSnap_fn ((mkVSnap ((newest a.disk).1) 1).1) 1 (by decide)) rfl (.cons (.agg (.cons (.r .r) (.cons (.r .r) (.cons (.r (.alo (k := none) (i := 7) (j := 2) (sz := 1) (V := (g9 0 2)) rfl rfl rfl nofun)) (.cons (.r .r) (.nil)))))) (.cons (.one (.r .r)) (.nil))) rfl fun g39 => ?_
            refine RW.k XK 96 1 rfl ?_
            (conv=>whnf);refine ⟨rfl,?_⟩
            refine RW.nil ?_
            refine CW.keep 96 [10,11] rfl ?_;(conv=>whnf);refine ⟨?_⟩
            refine CW.seq ?_
            refine CW.k XK 96 1 [10,11,92] rfl ?_
            (conv=>whnf);refine ⟨rfl,?_⟩
            refine CW.cond rfl (fun h40 => ?_) (fun h40 => ?_)
            ·skip
             refine CW.k XK 96 1 [2] rfl ?_
             (conv=>whnf);refine ⟨rfl,?_⟩
             refine CW.ret ?_
             exact Post.one (RV.b rfl (by first | rfl | (exfalso; have p0 := mkVServer_pos hP; have p1 := (mkVSnap_facts (newest_conf a.disk)).1; have p2 := (mkVSnap_facts (newest_conf a.disk)).2; simp_all [eqSnap_refl, eqServer_refl]; done) | (exfalso; have p0 := mkVServer_pos hP; have p1 := (mkVSnap_facts (newest_conf a.disk)).1; have p2 := (mkVSnap_facts (newest_conf a.disk)).2; simp_all [eqSnap_refl, eqServer_refl]; omega))) (AOs.a rfl AOs.e)
            ·skip
             refine CW.skip ?_
             refine CW.keep 96 [10,11] rfl ?_;(conv=>whnf);refine ⟨?_⟩
             refine CW.seq ?_
             refine CW.k XK 96 1 [95] rfl ?_
             (conv=>whnf);refine ⟨rfl,?_⟩
             refine CW.cond rfl (fun h41 => ?_) (fun h41 => ?_)
             ·skip
              refine CW.k XK 96 1 [2] rfl ?_
              (conv=>whnf);refine ⟨rfl,?_⟩
              refine CW.ret ?_
              exact Post.one (RV.b rfl (by first | rfl | (exfalso; have p0 := mkVServer_pos hP; have p1 := (mkVSnap_facts (newest_conf a.disk)).1; have p2 := (mkVSnap_facts (newest_conf a.disk)).2; simp_all [eqSnap_refl, eqServer_refl]; done) | (exfalso; have p0 := mkVServer_pos hP; have p1 := (mkVSnap_facts (newest_conf a.disk)).1; have p2 := (mkVSnap_facts (newest_conf a.disk)).2; simp_all [eqSnap_refl, eqServer_refl]; omega))) (AOs.a rfl AOs.e)
             ·skip
              refine CW.skip ?_
              refine CW.keep 96 [] rfl ?_;(conv=>whnf);refine ⟨?_⟩
              refine CW.k XK 96 1 [2] rfl ?_
              (conv=>whnf);refine ⟨rfl,?_⟩
              refine CW.ret ?_
              exact Post.one (RV.b rfl (by first | rfl | (exfalso; have p0 := mkVServer_pos hP; have p1 := (mkVSnap_facts (newest_conf a.disk)).1; have p2 := (mkVSnap_facts (newest_conf a.disk)).2; simp_all [eqSnap_refl, eqServer_refl]; done) | (exfalso; have p0 := mkVServer_pos hP; have p1 := (mkVSnap_facts (newest_conf a.disk)).1; have p2 := (mkVSnap_facts (newest_conf a.disk)).2; simp_all [eqSnap_refl, eqServer_refl]; omega))) (AOs.a rfl AOs.e)
end Go.Proofs.YtmhnehgpmndiiaaGreatDoor.Y
