import Derived.Test.YtdipdkfbaehglaaGreatDoorWSoundK
namespace Go.Proofs.YtdipdkfbaehglaaGreatDoor.Y
open Go Go.RowKit Go.Eng Go.Proofs
set_option maxRecDepth 10000
set_option maxHeartbeats 4000000 in
theorem impl_KeepOk_fn (k : Keep) (hok : okToKeep k) : Eng.Fn E.P 122 [.agg ((Keep.c k).map .r)] (.one (.one (.w (.v (.bool (keepOk k)))))) [.agg ((Keep.c k).map .r)] := by
 refine Eng.Fn.intro (E := E) (rvs := [.tmp 2]) Tryz.func122 rfl rfl rfl (by simp [outSlots, moved, rvSlot, sl]) ?_
 intro B g bo
 refine CW.g XK 107 [.e [0]] rfl rfl rfl ?_
 have hl1 : k.sessions.length ≤ maxLen := by have := hok.1.1; simp only [maxLen]; omega
 have hl2 : k.items.length ≤ maxLen := by have := hok.2.1; simp only [maxLen]; omega
 refine CW.h XK 107 [.o 1] rfl ?_;(conv=>whnf);intro b1;(conv=>whnf);refine ⟨rfl,?_⟩
 refine RW.freezeB (ts := (Keep.c k)) 1 rfl (DRd.r (DRd.r DRd.e)) ?_
 refine RW.g XK 107 [.o 1,.p,.e [1],.n 1,.e [1,8,9,10],.p] rfl rfl rfl ?_
 refine CW.loopI 107 (fun (i : Nat) => [(1, .rp (Keep.c k)), (8, .r (sl 3 Session.c k.sessions)), (9, I (k.sessions.length : Int)), (10, I (i : Int))]) (fun (i : Nat) => i ≤ k.sessions.length ∧ sessF (prevO Session.token Session.z k.sessions i) (k.sessions.drop i) = sessF none k.sessions) (fun (i : Nat) => k.sessions.length - i) 0 rfl (Le.c rfl <| Le.c rfl <| Le.c rfl <| Le.c rfl <| Le.e) ⟨by omega, rfl⟩ ?_
 rintro i ⟨hb, hr⟩
 refine CW.g XK 107 [.n 1,.e [1,8,9,10,11],.p] rfl rfl rfl ?_
 refine CW.cond rfl (fun h2 => ?_) (fun h2 => ?_)
 have hii : i < k.sessions.length := by have := h2; simp at this; first | exact this | omega | (simp; done) | (simp; omega)
 obtain ⟨ei, hei⟩ : ∃ e, k.sessions[i]? = some e := ⟨_, List.getElem?_eq_getElem hii⟩
 have hdi := drop_get hei
 refine CW.g XK 107 [.p,.e [1,8,9,10],.o 1] rfl rfl rfl ?_
 refine RW.v rfl (V.indexS rfl rfl rfl rfl rfl rfl Session.len hei) ?_
 refine RW.h XK 107 [.o 4] rfl ?_;(conv=>whnf);intro b3;(conv=>whnf);refine ⟨rfl,?_⟩
 refine RW.freezeB (ts := (Session.c ei)) 4 rfl (DRd.r (DRd.r (DRd.r DRd.e))) ?_
 refine RW.g XK 107 [.p,.e [1,3,4,8,9,10],.p] rfl rfl rfl ?_
 refine CW.seqJ 107 (fun (v4 : Bool) => [(1, .rp (Keep.c k)), (3, I (i : Int)), (4, .rp (Session.c ei)), (8, .r (sl 3 Session.c k.sessions)), (9, I (k.sessions.length : Int)), (10, I (i : Int)), (40, Bo v4)]) (fun v4 => v4 = ((((!(inR ei.token 1 1000000)) || (!(inR ei.last 0 1000000))) || decide ((ei.reply.size : Int) > 40)) || ((ei.last == 0) && (!(ei.reply.toList == (⟨#[]⟩ : ByteArray).toList))))) ?_ ?_
 refine CW.g XK 107 [.o 2] rfl rfl rfl ?_
 refine RW.call rfl (impl_within_fn ei.token 1 1000000) rfl (.cons (.one (.r .r)) (.cons (.one (.r .r)) (.cons (.one (.r .r)) (.nil)))) fun g5 => ?_
 refine RW.g XK 107 [.o 2] rfl rfl rfl ?_
 refine RW.gv rfl rfl rfl rfl (fun h6 => V.fieldR rfl rfl rfl rfl (by decide) rfl (Nat.le_of_ble_eq_true rfl)) (fun h6 => ?_) (fun h6 => ?_)
 refine RW.g XK 107 [.o 1] rfl rfl rfl ?_
 refine RW.gcall rfl rfl rfl rfl (impl_isIndex_fn ei.last) rfl (.cons (.one (.r .r)) (.nil)) fun g7 => ?_
 refine RW.g XK 107 [.o 3] rfl rfl rfl ?_
 refine RW.gv rfl rfl rfl rfl (fun h8 => V.fieldR rfl rfl rfl rfl (by decide) rfl (Nat.le_of_ble_eq_true rfl)) (fun h8 => ?_) (fun h8 => ?_)
 refine RW.g XK 107 [.o 5] rfl rfl rfl ?_
 refine RW.gv rfl rfl rfl rfl (fun h9 => V.fieldR rfl rfl rfl rfl (by decide) rfl (Nat.le_of_ble_eq_true rfl)) (fun h9 => ?_) (fun h9 => ?_)
 refine RW.g XK 107 [.o 3] rfl rfl rfl ?_
 refine RW.gv rfl rfl rfl rfl (fun h10 => V.fieldR rfl rfl rfl rfl (by decide) rfl (Nat.le_of_ble_eq_true rfl)) (fun h10 => ?_) (fun h10 => ?_)
 refine RW.g XK 107 [.o 4,.p] rfl rfl rfl ?_
 exact ⟨_, by first | rfl | (simp_all; done) | (simp_all; omega) | grind, rfl, Le.of rfl⟩
 refine RW.g XK 107 [.o 4,.p] rfl rfl rfl ?_
 exact ⟨_, by first | rfl | (simp_all; done) | (simp_all; omega) | grind, rfl, Le.of rfl⟩
 refine RW.g XK 107 [.o 8,.p] rfl rfl rfl ?_
 exact ⟨_, by first | rfl | (simp_all; done) | (simp_all; omega) | grind, rfl, Le.of rfl⟩
 refine RW.g XK 107 [.o 14,.p] rfl rfl rfl ?_
 exact ⟨_, by first | rfl | (simp_all; done) | (simp_all; omega) | grind, rfl, Le.of rfl⟩
 refine RW.g XK 107 [.o 20,.p] rfl rfl rfl ?_
 exact ⟨_, by first | rfl | (simp_all; done) | (simp_all; omega) | grind, rfl, Le.of rfl⟩
 intro v4 hv11
 refine CW.cond rfl (fun h12 => ?_) (fun h12 => ?_)
 refine CW.g XK 107 [.n 1,.e [2]] rfl rfl rfl ?_
 refine CW.ret ?_
 exact Post.one (RV.b rfl (by have ht : sessF none k.sessions = false := q30; simp [keepOk, ht])) (AOs.a rfl AOs.e)
 refine CW.g XK 107 [.p,.e [1,3,4,8,9,10]] rfl rfl rfl ?_
 refine CW.seqJ 107 (fun (v13 : Bool) => [(1, .rp (Keep.c k)), (8, .r (sl 3 Session.c k.sessions)), (9, I (k.sessions.length : Int)), (10, I (i : Int)), (54, Bo v13)]) (fun v13 => v13 = (decide ((i : Int) > 0) && decide ((k.sessions.getD (i - 1) Session.z).token ≥ ei.token))) ?_ ?_
 refine CW.drawn (by kernel_rfl) ?_
 refine RQ.k XK 107 3 rfl ?_
 (conv=>whnf);refine ⟨rfl,?_⟩
 refine RQ.gv rfl rfl rfl rfl (fun h14 => V.fieldR rfl rfl rfl rfl (by decide) rfl (Nat.le_of_ble_eq_true rfl)) (fun h14 => ?_) (fun h14 => ?_)
 refine RQ.k XK 107 2 rfl ?_
 (conv=>whnf);refine ⟨rfl,?_⟩
 refine RQ.gt rfl rfl rfl rfl (V.dec (m := i) rfl rfl rfl (by have := h14; simp at this; omega) (by omega)) ?_
 refine RQ.gt rfl rfl rfl rfl (V.indexS rfl rfl rfl rfl rfl rfl Session.len (getD_some (l := k.sessions) (j := i - 1) (z := Session.z) (by omega))) ?_
 refine RQ.k XK 107 6 rfl ?_
 (conv=>whnf);refine ⟨rfl,?_⟩
 refine RQ.nil ?_
 exact ⟨_, by first | rfl | (simp_all; done) | (simp_all; omega) | grind, rfl, Le.of rfl⟩
 refine RQ.k XK 107 10 rfl ?_
 (conv=>whnf);refine ⟨rfl,?_⟩
 refine RQ.nil ?_
 exact ⟨_, by first | rfl | (simp_all; done) | (simp_all; omega) | grind, rfl, Le.of rfl⟩
 intro v13 hv15
 refine CW.cond rfl (fun h16 => ?_) (fun h16 => ?_)
 refine CW.g XK 107 [.n 1,.e [2]] rfl rfl rfl ?_
 refine CW.ret ?_
 exact Post.one (RV.b rfl (by have ht : sessF none k.sessions = false := q30; simp [keepOk, ht])) (AOs.a rfl AOs.e)
 refine CW.g XK 107 [.p,.e [1,8,9,10],.p] rfl rfl rfl ?_
 refine RW.v rfl (V.inc rfl rfl rfl hii hl1) ?_
 refine RW.g XK 107 [.o 1,.p] rfl rfl rfl ?_
 exact ⟨i + 1, by omega, ⟨by omega, by rw [← hr, hdi, sessF, prevO_succ hei]; first | (simp_all [sessOk, itemOk, emp, prevO, prevGe, prevS]; done) | grind [sessOk, itemOk, emp, prevO, prevGe, prevS]⟩, rfl, Le.c rfl <| Le.c rfl <| Le.c rfl <| Le.c rfl <| Le.e⟩
 have hii : k.sessions.length ≤ i := by have := h2; simp at this; first | exact this | omega | (simp; done) | (simp; omega)
 have hdi : k.sessions.drop i = [] := List.drop_eq_nil_of_le hii
 refine CW.exit ?_
 refine CW.g XK 107 [.e [1],.n 1,.e [1,57,58,59],.p] rfl rfl rfl ?_
 refine CW.loopI 107 (fun (j : Nat) => [(1, .rp (Keep.c k)), (57, .r (sl 3 Item.c k.items)), (58, I (k.items.length : Int)), (59, I (j : Int))]) (fun (j : Nat) => j ≤ k.items.length ∧ itemF (prevO Item.key Item.z k.items j) (k.items.drop j) = itemF none k.items) (fun (j : Nat) => k.items.length - j) 0 rfl (Le.c rfl <| Le.c rfl <| Le.c rfl <| Le.c rfl <| Le.e) ⟨by omega, rfl⟩ ?_
 rintro j ⟨hc, hs⟩
 refine CW.g XK 107 [.n 1,.e [1,57,58,59,60],.p] rfl rfl rfl ?_
 refine CW.cond rfl (fun h17 => ?_) (fun h17 => ?_)
 have hij : j < k.items.length := by have := h17; simp at this; first | exact this | omega | (simp; done) | (simp; omega)
 obtain ⟨ej, hej⟩ : ∃ e, k.items[j]? = some e := ⟨_, List.getElem?_eq_getElem hij⟩
 have hdj := drop_get hej
 refine CW.g XK 107 [.p,.e [1,57,58,59],.o 1] rfl rfl rfl ?_
 refine RW.v rfl (V.indexS rfl rfl rfl rfl rfl rfl Item.len hej) ?_
 refine RW.h XK 107 [.o 4] rfl ?_;(conv=>whnf);intro b18;(conv=>whnf);refine ⟨rfl,?_⟩
 refine RW.freezeB (ts := (Item.c ej)) 6 rfl (DRd.r (DRd.r (DRd.r DRd.e))) ?_
 refine RW.g XK 107 [.p,.e [1,5,6,57,58,59]] rfl rfl rfl ?_
 refine CW.seqJ 107 (fun (v19 : Bool) => [(1, .rp (Keep.c k)), (57, .r (sl 3 Item.c k.items)), (58, I (k.items.length : Int)), (59, I (j : Int)), (95, Bo v19)]) (fun v19 => v19 = ((((!(inR (ej.key.size : Int) 1 8)) || (!(decide ((ej.val.size : Int) ≤ 20)))) || (!(inR ej.ver 1 1000000000))) || (decide ((j : Int) > 0) && (!(Op.bytesLess ((k.items.getD (j - 1) Item.z).key).toList ej.key.toList))))) ?_ ?_
 refine CW.drawn (by kernel_rfl) ?_
 refine RQ.k XK 107 2 rfl ?_
 (conv=>whnf);refine ⟨rfl,?_⟩
 refine RQ.cons rfl (QOK.call (impl_keyOk_fn ej.key) rfl (.cons (.one (.r .r)) (.nil)) ?_)
 refine RQ.k XK 107 2 rfl ?_
 (conv=>whnf);refine ⟨rfl,?_⟩
 refine RQ.gv rfl rfl rfl rfl (fun h20 => V.fieldR rfl rfl rfl rfl (by decide) rfl (Nat.le_of_ble_eq_true rfl)) (fun h20 => ?_) (fun h20 => ?_)
 refine RQ.k XK 107 1 rfl ?_
 (conv=>whnf);refine ⟨rfl,?_⟩
 refine RQ.guardT rfl rfl rfl rfl (QOK.call (impl_valOk_fn ej.val) rfl (.cons (.one (.r .r)) (.nil)) ?_)
 refine RQ.k XK 107 3 rfl ?_
 (conv=>whnf);refine ⟨rfl,?_⟩
 refine RQ.gv rfl rfl rfl rfl (fun h21 => V.fieldR rfl rfl rfl rfl (by decide) rfl (Nat.le_of_ble_eq_true rfl)) (fun h21 => ?_) (fun h21 => ?_)
 refine RQ.k XK 107 1 rfl ?_
 (conv=>whnf);refine ⟨rfl,?_⟩
 refine RQ.guardT rfl rfl rfl rfl (QOK.call (impl_within_fn ej.ver 1 1000000000) rfl (.cons (.one (.r .r)) (.cons (.one (.r .r)) (.cons (.one (.r .r)) (.nil)))) ?_)
 refine RQ.k XK 107 3 rfl ?_
 (conv=>whnf);refine ⟨rfl,?_⟩
 refine RQ.gv rfl rfl rfl rfl (fun h22 => V.mv (d := I (j : Int)) rfl rfl) (fun h22 => ?_) (fun h22 => ?_)
 refine RQ.k XK 107 2 rfl ?_
 (conv=>whnf);refine ⟨rfl,?_⟩
 refine RQ.gv rfl rfl rfl rfl (fun h23 => V.fieldR rfl rfl rfl rfl (by decide) rfl (Nat.le_of_ble_eq_true rfl)) (fun h23 => ?_) (fun h23 => ?_)
 refine RQ.k XK 107 2 rfl ?_
 (conv=>whnf);refine ⟨rfl,?_⟩
 refine RQ.gt rfl rfl rfl rfl (V.dec (m := j) rfl rfl rfl (by have := h23; simp at this; omega) (by omega)) ?_
 refine RQ.gt rfl rfl rfl rfl (V.indexS rfl rfl rfl rfl rfl rfl Item.len (getD_some (l := k.items) (j := j - 1) (z := Item.z) (by omega))) ?_
 refine RQ.k XK 107 7 rfl ?_
 (conv=>whnf);refine ⟨rfl,?_⟩
 refine RQ.nil ?_
 exact ⟨_, by first | rfl | (simp_all; done) | (simp_all; omega) | grind, rfl, Le.of rfl⟩
 refine RQ.k XK 107 11 rfl ?_
 (conv=>whnf);refine ⟨rfl,?_⟩
 refine RQ.nil ?_
 exact ⟨_, by first | rfl | (simp_all; done) | (simp_all; omega) | grind, rfl, Le.of rfl⟩
 refine RQ.k XK 107 14 rfl ?_
 (conv=>whnf);refine ⟨rfl,?_⟩
 refine RQ.nil ?_
 exact ⟨_, by first | rfl | (simp_all; done) | (simp_all; omega) | grind, rfl, Le.of rfl⟩
 refine RQ.k XK 107 20 rfl ?_
 (conv=>whnf);refine ⟨rfl,?_⟩
 refine RQ.nil ?_
 exact ⟨_, by first | rfl | (simp_all; done) | (simp_all; omega) | grind, rfl, Le.of rfl⟩
 refine RQ.k XK 107 26 rfl ?_
 (conv=>whnf);refine ⟨rfl,?_⟩
 refine RQ.nil ?_
 exact ⟨_, by first | rfl | (simp_all; done) | (simp_all; omega) | grind, rfl, Le.of rfl⟩
 intro v19 hv24
 refine CW.cond rfl (fun h25 => ?_) (fun h25 => ?_)
 refine CW.g XK 107 [.n 1,.e [2]] rfl rfl rfl ?_
 refine CW.ret ?_
 exact Post.one (RV.b rfl (by have ht : itemF none k.items = false := (by rw [← hs, hdj, itemF]; first | (simp_all [itemOk, prevO, prevS]; done) | grind [itemOk, prevO, prevS]); simp [keepOk, ht])) (AOs.a rfl AOs.e)
 refine CW.g XK 107 [.p,.e [1,57,58,59],.p] rfl rfl rfl ?_
 refine RW.v rfl (V.inc rfl rfl rfl hij hl2) ?_
 refine RW.g XK 107 [.o 1,.p] rfl rfl rfl ?_
 exact ⟨j + 1, by omega, ⟨by omega, by rw [← hs, hdj, itemF, prevO_succ hej]; first | (simp_all [sessOk, itemOk, emp, prevO, prevGe, prevS]; done) | grind [sessOk, itemOk, emp, prevO, prevGe, prevS]⟩, rfl, Le.c rfl <| Le.c rfl <| Le.c rfl <| Le.c rfl <| Le.e⟩
 have hij : k.items.length ≤ j := by have := h17; simp at this; first | exact this | omega | (simp; done) | (simp; omega)
 have hdj : k.items.drop j = [] := List.drop_eq_nil_of_le hij
 refine CW.exit ?_
 refine CW.g XK 107 [.e [1]] rfl rfl rfl ?_
 refine CW.seqJ 107 (fun (v26 : Bool) => [(2, Bo v26)]) (fun v26 => v26 = (decide ((k.sessions.length : Int) ≤ 3) && decide ((k.items.length : Int) ≤ 8))) ?_ ?_
 refine CW.g XK 107 [.o 5] rfl rfl rfl ?_
 refine RW.gv rfl rfl rfl rfl (fun h27 => V.fieldR rfl rfl rfl rfl (by decide) rfl (Nat.le_of_ble_eq_true rfl)) (fun h27 => ?_) (fun h27 => ?_)
 refine RW.g XK 107 [.o 5,.p] rfl rfl rfl ?_
 exact ⟨_, by first | rfl | (simp_all; done) | (simp_all; omega) | grind, rfl, Le.of rfl⟩
 refine RW.g XK 107 [.o 5,.p] rfl rfl rfl ?_
 exact ⟨_, by first | rfl | (simp_all; done) | (simp_all; omega) | grind, rfl, Le.of rfl⟩
 intro v26 hv28
 refine CW.ret ?_
 exact Post.one (RV.b rfl (by have ht : sessF none k.sessions = true := (by rw [← hr, hdi]; rfl); have hu : itemF none k.items = true := (by rw [← hs, hdj]; rfl); clear hr hs hdi hdj; first | (simp_all [keepOk]; done) | grind [keepOk])) (AOs.a rfl AOs.e)
set_option maxHeartbeats 4000000 in
theorem impl_Decimal_fn (n : Int) (hn : okI n) : Eng.Fn E.P 148 [.one (.r (.v (.int .i64 n)))] (.one (.one (.w (.v (.string (itoaB n)))))) [.one (.r (.v (.int .i64 n)))] := by
 refine Eng.Fn.intro (E := E) (rvs := [.tmp 2]) Tryz.func148 rfl rfl rfl (by simp [outSlots, moved, rvSlot, sl]) ?_
 intro B g bo
 refine CW.g XK 5 [.e [0],.n 1,.e [0],.o 1] rfl rfl rfl ?_
 refine RW.call rfl (strconv_Itoa_fn n hn) rfl (.cons (.one (.r .r)) (.nil)) fun g1 => ?_
 refine RW.g XK 5 [.o 1,.p,.e [2]] rfl rfl rfl ?_
 refine CW.ret ?_
 exact Post.one (RV.s rfl (by rfl)) (AOs.r AOs.e)
set_option maxHeartbeats 4000000 in
theorem __impl_Keep__open_fn (k : Keep) (n : Int) (hok : okToKeep k) (hn : 1 ≤ n ∧ n ≤ 400000) : Eng.Fn E.P 123 [.ob ((Keep.c k).map .w), .one (.r (.v (.int .i64 n)))] (.one (.one (.w (.v (.string (tOpen ++ itoaB n)))))) [.ob ((Keep.c (openK k n)).map .w), .one (.r (.v (.int .i64 n)))] := by
 refine Eng.Fn.intro (E := E) (rvs := [.tmp 4]) Tryz.func123 rfl rfl rfl (by simp [outSlots, moved, rvSlot, sl]) ?_
 intro B g bo
 refine CW.g XK 60 [.e [0,1]] rfl rfl rfl ?_
 have hl1 : k.sessions.length ≤ maxLen := by have := hok.1.1; simp only [maxLen]; omega
 have hl2 : k.items.length ≤ maxLen := by have := hok.2.1; simp only [maxLen]; omega
 have hn1 := hn.1; have hn2 := hn.2
 refine CW.g XK 60 [.n 1,.e [0,1],.p,.p] rfl rfl rfl ?_
 refine RW.build0 Session.c rfl rfl rfl rfl rfl fun X1 => ?_
 refine RW.assignMove rfl rfl rfl (by decide) (Nat.le_of_ble_eq_true rfl) (Nat.le_of_ble_eq_true rfl) ?_
 refine RW.g XK 60 [.p,.e [0,1,5],.n 1,.e [0,1,5,6],.n 1,.e [0,1,5,6,13,14,15],.p] rfl rfl rfl ?_
 refine CW.loopI 60 (fun (zz : Nat × List Session × Bool × Value) => match zz with | (i, rest, p, X) => [(0, .obj (bo 0) [.w (sl 3 Session.c k.sessions) (g 0 0), .w (sl 3 Item.c k.items) (g 0 1)]), (1, I n), (5, .w (sl 3 Session.c rest) X), (6, Bo p), (13, .al 0 (some 0) 3 k.sessions.length (g 0 0) 0), (14, I (k.sessions.length : Int)), (15, I (i : Int))]) (fun (zz : Nat × List Session × Bool × Value) => match zz with | (i, rest, p, X) => OpenP n k.sessions i rest p) (fun (zz : Nat × List Session × Bool × Value) => match zz with | (i, rest, p, X) => k.sessions.length - i) (0, _, _, _) rfl (Le.c rfl <| Le.c rfl <| Le.c rfl <| Le.c rfl <| Le.c rfl <| Le.c rfl <| Le.c rfl <| Le.e) (OpenP.init _ _) ?_
 rintro ⟨i, rest, p, X⟩ hP
 have hPl := hP.len1
 have hPe := hP.le
 refine CW.g XK 60 [.n 1,.e [0,1,5,6,13,14,15,16],.p] rfl rfl rfl ?_
 refine CW.cond rfl (fun h2 => ?_) (fun h2 => ?_)
 have hii : i < k.sessions.length := by have := h2; simp at this; first | exact this | omega | (simp; done) | (simp; omega)
 obtain ⟨ei, hei⟩ : ∃ e, k.sessions[i]? = some e := ⟨_, List.getElem?_eq_getElem hii⟩
 have hdi := drop_get hei
 refine CW.g XK 60 [.p,.e [0,1,5,6,13,14,15],.p,.p,.p,.p] rfl rfl rfl ?_
 refine RW.swapO 13 0 0 (by decide) rfl rfl rfl ?_
 refine RW.v rfl (V.indexW rfl rfl rfl rfl rfl rfl rfl hii) ?_
 refine RW.v rfl (V.loadAggF (m := i) rfl rfl rfl rfl rfl Session.len hei (vs := Session.vs ei) rfl (by decide)) ?_
 refine RW.h XK 60 [.o 2] rfl ?_;(conv=>whnf);intro b3;(conv=>whnf);refine ⟨rfl,?_⟩
 refine RW.freezeB (ts := (Session.c ei)) 8 rfl (DRd.r (DRd.r (DRd.r DRd.e))) ?_
 refine RW.unswapO (k := 0) (l := 13) (j := 0) 0 13 0 rfl rfl rfl (by decide) rfl rfl rfl ?_
 refine RW.g XK 60 [.p,.e [0,1,5,6,8,13,14,15],.p] rfl rfl rfl ?_
 refine CW.seqJ 60 (fun (v4 : Bool) => [(0, .obj (bo 0) [.w (sl 3 Session.c k.sessions) (g 0 0), .w (sl 3 Item.c k.items) (g 0 1)]), (1, I n), (5, .w (sl 3 Session.c rest) X), (6, Bo p), (8, .rp (Session.c ei)), (13, .al 0 (some 0) 3 k.sessions.length (g 0 0) 0), (14, I (k.sessions.length : Int)), (15, I (i : Int)), (26, Bo v4)]) (fun v4 => v4 = ((!p) && decide (ei.token ≥ n))) ?_ ?_
 refine CW.g XK 60 [.o 3] rfl rfl rfl ?_
 refine RW.gv rfl rfl rfl rfl (fun h5 => V.fieldR rfl rfl rfl rfl (by decide) rfl (Nat.le_of_ble_eq_true rfl)) (fun h5 => ?_) (fun h5 => ?_)
 refine RW.g XK 60 [.o 4,.p] rfl rfl rfl ?_
 exact ⟨_, by first | rfl | (simp_all; done) | (simp_all; omega) | grind, rfl, Le.of rfl⟩
 refine RW.g XK 60 [.o 4,.p] rfl rfl rfl ?_
 exact ⟨_, by first | rfl | (simp_all; done) | (simp_all; omega) | grind, rfl, Le.of rfl⟩
 intro v4 hv6
 refine CW.cond rfl (fun h7 => ?_) (fun h7 => ?_)
 refine CW.g XK 60 [.o 3] rfl rfl rfl ?_
 refine RW.build1 (c := Session.c) (v := (⟨n, 0, ⟨#[]⟩⟩ : Session)) rfl rfl rfl rfl rfl rfl (DW.v (DW.v (DW.v DW.e))) Session.len (by decide) (by decide) fun X8 => ?_
 refine RW.appendSR (c := Session.c) (l1 := rest) (l2 := [(⟨n, 0, ⟨#[]⟩⟩ : Session)]) rfl rfl rfl rfl rfl rfl rfl rfl (.al (k := none) (i := 30) (sz := 3) (V := X8) rfl rfl nofun) (by decide) (Nat.le_of_ble_eq_true rfl) Session.len (fun _ => rfl) rfl q15 q15 fun X9 => ?_
 refine RW.assignMove rfl rfl rfl (by decide) (Nat.le_of_ble_eq_true rfl) (Nat.le_of_ble_eq_true rfl) ?_
 refine RW.g XK 60 [.p,.e [0,1,5,8,13,14,15],.o 1,.p,.e [0,1,5,6,8,13,14,15],.n 1,.e [0,1,5,6,8,13,14,15,35]] rfl rfl rfl ?_
 refine CW.cond rfl (fun h10 => ?_) (fun h10 => ?_)
 refine CW.g XK 60 [.o 2] rfl rfl rfl ?_
 refine RW.build1 (c := Session.c) (v := ei) rfl rfl rfl rfl rfl rfl (DW.v (DW.v (DW.v DW.e))) Session.len (by decide) (by decide) fun X11 => ?_
 refine RW.appendSR (c := Session.c) (l1 := (rest ++ ([(⟨n, 0, ⟨#[]⟩⟩ : Session)]))) (l2 := [ei]) rfl rfl rfl rfl rfl rfl rfl rfl (.al (k := none) (i := 38) (sz := 3) (V := X11) rfl rfl nofun) (by decide) (Nat.le_of_ble_eq_true rfl) Session.len (fun _ => rfl) rfl q15 q15 fun X12 => ?_
 refine RW.assignMove rfl rfl rfl (by decide) (Nat.le_of_ble_eq_true rfl) (Nat.le_of_ble_eq_true rfl) ?_
 refine RW.g XK 60 [.p,.e [0,1,5,6,13,14,15],.p] rfl rfl rfl ?_
 refine RW.v rfl (V.inc rfl rfl rfl hii hl1) ?_
 refine RW.g XK 60 [.o 1,.p] rfl rfl rfl ?_
 exact ⟨(i + 1, ((rest ++ ([(⟨n, 0, ⟨#[]⟩⟩ : Session)])) ++ ([ei])), true, _), by simp only []; omega, q20, rfl, Le.c rfl <| Le.c rfl <| Le.c rfl <| Le.c rfl <| Le.c rfl <| Le.c rfl <| Le.c rfl <| Le.e⟩
 refine CW.g XK 60 [.p,.e [0,1,5,6,13,14,15],.p] rfl rfl rfl ?_
 refine RW.v rfl (V.inc rfl rfl rfl hii hl1) ?_
 refine RW.g XK 60 [.o 1,.p] rfl rfl rfl ?_
 exact ⟨(i + 1, (rest ++ ([(⟨n, 0, ⟨#[]⟩⟩ : Session)])), true, _), by simp only []; omega, q20, rfl, Le.c rfl <| Le.c rfl <| Le.c rfl <| Le.c rfl <| Le.c rfl <| Le.c rfl <| Le.c rfl <| Le.e⟩
 refine CW.g XK 60 [.p,.e [0,1,5,6,8,13,14,15],.n 1,.e [0,1,5,6,8,13,14,15,35]] rfl rfl rfl ?_
 refine CW.cond rfl (fun h13 => ?_) (fun h13 => ?_)
 refine CW.g XK 60 [.o 2] rfl rfl rfl ?_
 refine RW.build1 (c := Session.c) (v := ei) rfl rfl rfl rfl rfl rfl (DW.v (DW.v (DW.v DW.e))) Session.len (by decide) (by decide) fun X14 => ?_
 refine RW.appendSR (c := Session.c) (l1 := rest) (l2 := [ei]) rfl rfl rfl rfl rfl rfl rfl rfl (.al (k := none) (i := 38) (sz := 3) (V := X14) rfl rfl nofun) (by decide) (Nat.le_of_ble_eq_true rfl) Session.len (fun _ => rfl) rfl q15 q15 fun X15 => ?_
 refine RW.assignMove rfl rfl rfl (by decide) (Nat.le_of_ble_eq_true rfl) (Nat.le_of_ble_eq_true rfl) ?_
 refine RW.g XK 60 [.p,.e [0,1,5,6,13,14,15],.p] rfl rfl rfl ?_
 refine RW.v rfl (V.inc rfl rfl rfl hii hl1) ?_
 refine RW.g XK 60 [.o 1,.p] rfl rfl rfl ?_
 exact ⟨(i + 1, (rest ++ ([ei])), p, _), by simp only []; omega, q20, rfl, Le.c rfl <| Le.c rfl <| Le.c rfl <| Le.c rfl <| Le.c rfl <| Le.c rfl <| Le.c rfl <| Le.e⟩
 refine CW.g XK 60 [.p,.e [0,1,5,6,13,14,15],.p] rfl rfl rfl ?_
 refine RW.v rfl (V.inc rfl rfl rfl hii hl1) ?_
 refine RW.g XK 60 [.o 1,.p] rfl rfl rfl ?_
 exact ⟨(i + 1, rest, p, _), by simp only []; omega, q20, rfl, Le.c rfl <| Le.c rfl <| Le.c rfl <| Le.c rfl <| Le.c rfl <| Le.c rfl <| Le.c rfl <| Le.e⟩
 have hii : k.sessions.length ≤ i := by have := h2; simp at this; first | exact this | omega | (simp; done) | (simp; omega)
 have hdi : k.sessions.drop i = [] := List.drop_eq_nil_of_le hii
 refine CW.exit ?_
 refine CW.g XK 60 [.e [0,1,5,6],.n 1,.e [0,1,5,42]] rfl rfl rfl ?_
 refine CW.cond rfl (fun h16 => ?_) (fun h16 => ?_)
 refine CW.g XK 60 [.o 3] rfl rfl rfl ?_
 refine RW.build1 (c := Session.c) (v := (⟨n, 0, ⟨#[]⟩⟩ : Session)) rfl rfl rfl rfl rfl rfl (DW.v (DW.v (DW.v DW.e))) Session.len (by decide) (by decide) fun X17 => ?_
 refine RW.appendSR (c := Session.c) (l1 := rest) (l2 := [(⟨n, 0, ⟨#[]⟩⟩ : Session)]) rfl rfl rfl rfl rfl rfl rfl rfl (.al (k := none) (i := 46) (sz := 3) (V := X17) rfl rfl nofun) (by decide) (Nat.le_of_ble_eq_true rfl) Session.len (fun _ => rfl) rfl q15 q15 fun X18 => ?_
 refine RW.assignMove rfl rfl rfl (by decide) (Nat.le_of_ble_eq_true rfl) (Nat.le_of_ble_eq_true rfl) ?_
 refine RW.g XK 60 [.p,.e [0,1,5],.n 1,.e [0,1,5,50]] rfl rfl rfl ?_
 refine CW.cond rfl (fun h19 => ?_) (fun h19 => ?_)
 have hgt := of_decide_eq_true h19
 refine CW.g XK 60 [.o 1] rfl rfl rfl ?_
 refine RW.dropOwn (m := 1) rfl rfl rfl rfl rfl rfl rfl rfl rfl Session.len (by omega) (by decide) (Nat.le_of_ble_eq_true rfl) fun Y20 => ?_
 refine RW.assignMove rfl rfl rfl (by decide) (Nat.le_of_ble_eq_true rfl) (Nat.le_of_ble_eq_true rfl) ?_
 refine RW.g XK 60 [.p,.e [0,1,5],.o 5,.e [0,1,5]] rfl rfl rfl ?_
 refine RW.pullT (k := 0) (l := 5) (j := 0) 0 5 0 rfl rfl rfl (by decide) rfl rfl rfl ?_
 refine RW.g XK 60 [.e [0,1],.p,.e [0,1],.o 1] rfl rfl rfl ?_
 refine RW.call rfl (impl_Decimal_fn n (okI_of (by omega) (by omega))) rfl (.cons (.one (.r .r)) (.nil)) fun g21 => ?_
 refine RW.v rfl (V.cat rfl rfl rfl q11) ?_
 refine RW.g XK 60 [.o 1,.p,.e [0,4]] rfl rfl rfl ?_
 refine CW.ret ?_
 exact Post.one (RV.s rfl (by rfl)) (AOs.obE (f := fun e => (Keep.c e).map .w) (e' := (⟨((rest ++ ([(⟨n, 0, ⟨#[]⟩⟩ : Session)])).drop 1), k.items⟩ : Keep)) rfl (DT.w (DT.w DT.e)) q21 (AOs.r AOs.e))
 refine CW.g XK 60 [.p,.e [0,1,5],.o 5,.e [0,1,5]] rfl rfl rfl ?_
 refine RW.pullT (k := 0) (l := 5) (j := 0) 0 5 0 rfl rfl rfl (by decide) rfl rfl rfl ?_
 refine RW.g XK 60 [.e [0,1],.p,.e [0,1],.o 1] rfl rfl rfl ?_
 refine RW.call rfl (impl_Decimal_fn n (okI_of (by omega) (by omega))) rfl (.cons (.one (.r .r)) (.nil)) fun g22 => ?_
 refine RW.v rfl (V.cat rfl rfl rfl q11) ?_
 refine RW.g XK 60 [.o 1,.p,.e [0,4]] rfl rfl rfl ?_
 refine CW.ret ?_
 exact Post.one (RV.s rfl (by rfl)) (AOs.obE (f := fun e => (Keep.c e).map .w) (e' := (⟨(rest ++ ([(⟨n, 0, ⟨#[]⟩⟩ : Session)])), k.items⟩ : Keep)) rfl (DT.w (DT.w DT.e)) q21 (AOs.r AOs.e))
 refine CW.g XK 60 [.p,.e [0,1,5],.n 1,.e [0,1,5,50]] rfl rfl rfl ?_
 refine CW.cond rfl (fun h23 => ?_) (fun h23 => ?_)
 have hgt := of_decide_eq_true h23
 refine CW.g XK 60 [.o 1] rfl rfl rfl ?_
 refine RW.dropOwn (m := 1) rfl rfl rfl rfl rfl rfl rfl rfl rfl Session.len (by omega) (by decide) (Nat.le_of_ble_eq_true rfl) fun Y24 => ?_
 refine RW.assignMove rfl rfl rfl (by decide) (Nat.le_of_ble_eq_true rfl) (Nat.le_of_ble_eq_true rfl) ?_
 refine RW.g XK 60 [.p,.e [0,1,5],.o 5,.e [0,1,5]] rfl rfl rfl ?_
 refine RW.pullT (k := 0) (l := 5) (j := 0) 0 5 0 rfl rfl rfl (by decide) rfl rfl rfl ?_
 refine RW.g XK 60 [.e [0,1],.p,.e [0,1],.o 1] rfl rfl rfl ?_
 refine RW.call rfl (impl_Decimal_fn n (okI_of (by omega) (by omega))) rfl (.cons (.one (.r .r)) (.nil)) fun g25 => ?_
 refine RW.v rfl (V.cat rfl rfl rfl q11) ?_
 refine RW.g XK 60 [.o 1,.p,.e [0,4]] rfl rfl rfl ?_
 refine CW.ret ?_
 exact Post.one (RV.s rfl (by rfl)) (AOs.obE (f := fun e => (Keep.c e).map .w) (e' := (⟨(rest.drop 1), k.items⟩ : Keep)) rfl (DT.w (DT.w DT.e)) q21 (AOs.r AOs.e))
 refine CW.g XK 60 [.p,.e [0,1,5],.o 5,.e [0,1,5]] rfl rfl rfl ?_
 refine RW.pullT (k := 0) (l := 5) (j := 0) 0 5 0 rfl rfl rfl (by decide) rfl rfl rfl ?_
 refine RW.g XK 60 [.e [0,1],.p,.e [0,1],.o 1] rfl rfl rfl ?_
 refine RW.call rfl (impl_Decimal_fn n (okI_of (by omega) (by omega))) rfl (.cons (.one (.r .r)) (.nil)) fun g26 => ?_
 refine RW.v rfl (V.cat rfl rfl rfl q11) ?_
 refine RW.g XK 60 [.o 1,.p,.e [0,4]] rfl rfl rfl ?_
 refine CW.ret ?_
 exact Post.one (RV.s rfl (by rfl)) (AOs.obE (f := fun e => (Keep.c e).map .w) (e' := (⟨rest, k.items⟩ : Keep)) rfl (DT.w (DT.w DT.e)) q21 (AOs.r AOs.e))
set_option maxHeartbeats 4000000 in
theorem impl_ItemOf_fn (k : Keep) (key : ByteArray) (hok : okToKeep k) : Eng.Fn E.P 81 [.agg ((Keep.c k).map .r), .one (.r (.v (.string key)))] (.tup [.agg ((Item.c ((itemOf k key).1)).map .w), .one (.w (.v (.bool ((itemOf k key).2))))]) [.agg ((Keep.c k).map .r), .one (.r (.v (.string key)))] := by
 refine Eng.Fn.intro (E := E) (rvs := [.cell 4 71, .tmp 5]) Tryz.func81 rfl rfl rfl (by simp [outSlots, moved, rvSlot, sl]) ?_
 intro B g bo
 refine CW.g XK 22 [.e [0,1]] rfl rfl rfl ?_
 have hl1 : k.sessions.length ≤ maxLen := by have := hok.1.1; simp only [maxLen]; omega
 have hl2 : k.items.length ≤ maxLen := by have := hok.2.1; simp only [maxLen]; omega
 refine CW.h XK 22 [.o 1] rfl ?_;(conv=>whnf);intro b1;(conv=>whnf);refine ⟨rfl,?_⟩
 refine RW.freezeB (ts := (Keep.c k)) 2 rfl (DRd.r (DRd.r DRd.e)) ?_
 refine RW.h XK 22 [.o 2,.p,.e [1,2,4],.n 1,.e [1,4,9,10,11],.p] rfl ?_;(conv=>whnf);intro b2;(conv=>whnf);refine ⟨rfl,?_⟩
 refine CW.loopI 22 (fun (i : Nat) => [(1, S key), (4, .obj b2 [S (⟨#[]⟩), S (⟨#[]⟩), I 0]), (9, .r (sl 3 Item.c k.items)), (10, I (k.items.length : Int)), (11, I (i : Int))]) (fun (i : Nat) => i ≤ k.items.length ∧ (k.items.drop i).find? (isKey key) = k.items.find? (isKey key)) (fun (i : Nat) => k.items.length - i) 0 rfl (Le.c rfl <| Le.c rfl <| Le.c rfl <| Le.c rfl <| Le.c rfl <| Le.e) ⟨by omega, rfl⟩ ?_
 rintro i ⟨hb, hr⟩
 refine CW.g XK 22 [.n 1,.e [1,4,9,10,11,12],.p] rfl rfl rfl ?_
 refine CW.cond rfl (fun h3 => ?_) (fun h3 => ?_)
 have hii : i < k.items.length := by have := h3; simp at this; first | exact this | omega | (simp; done) | (simp; omega)
 obtain ⟨ei, hei⟩ : ∃ e, k.items[i]? = some e := ⟨_, List.getElem?_eq_getElem hii⟩
 have hdi := drop_get hei
 refine CW.g XK 22 [.p,.e [1,4,9,10,11],.p,.p,.p,.p] rfl rfl rfl ?_
 refine RW.v rfl (V.indexS rfl rfl rfl rfl rfl rfl Item.len hei) ?_
 refine RW.h XK 22 [.o 3] rfl ?_;(conv=>whnf);intro b4;(conv=>whnf);refine ⟨rfl,?_⟩
 refine RW.freezeB (ts := (Item.c ei)) 7 rfl (DRd.r (DRd.r (DRd.r DRd.e))) ?_
 refine RW.g XK 22 [.p,.e [1,4,7,9,10,11],.n 1,.e [1,4,7,9,10,11,18]] rfl rfl rfl ?_
 refine CW.cond rfl (fun h5 => ?_) (fun h5 => ?_)
 refine CW.g XK 22 [.n 1,.e [4,5]] rfl rfl rfl ?_
 refine CW.ret ?_
 exact Post.tup (by decide) (RVs.c (RV.c (f := fun e => (Item.c e).map .w) (e' := ei) rfl rfl rfl rfl (DT.v (DT.v (DT.v DT.e))) q40) (RVs.c (RV.b rfl q40) RVs.e)) (AOs.a rfl (AOs.r AOs.e))
 refine CW.g XK 22 [.p,.e [1,4,9,10,11],.p] rfl rfl rfl ?_
 refine RW.v rfl (V.inc rfl rfl rfl hii hl2) ?_
 refine RW.g XK 22 [.o 1,.p] rfl rfl rfl ?_
 exact ⟨i + 1, by omega, ⟨by omega, item_step hr hdi (by simp_all [isKey, sEq])⟩, rfl, Le.c rfl <| Le.c rfl <| Le.c rfl <| Le.c rfl <| Le.c rfl <| Le.e⟩
 have hii : k.items.length ≤ i := by have := h3; simp at this; first | exact this | omega | (simp; done) | (simp; omega)
 have hdi : k.items.drop i = [] := List.drop_eq_nil_of_le hii
 refine CW.exit ?_
 refine CW.g XK 22 [.e [4],.n 1,.e [4,5]] rfl rfl rfl ?_
 refine CW.ret ?_
 exact Post.tup (by decide) (RVs.c (RV.c (f := fun e => (Item.c e).map .w) (e' := (⟨⟨#[]⟩, ⟨#[]⟩, 0⟩ : Item)) rfl rfl rfl rfl (DT.v (DT.v (DT.v DT.e))) (by rw [item_no hr hdi]; try rfl)) (RVs.c (RV.b rfl (by rw [item_no hr hdi]; try rfl)) RVs.e)) (AOs.a rfl (AOs.r AOs.e))
set_option maxHeartbeats 4000000 in
theorem __impl_Keep__without_fn (k : Keep) (key : ByteArray) (hok : okToKeep k) : Eng.Fn E.P 149 [.ob ((Keep.c k).map .w), .one (.r (.v (.string key)))] (.tup []) [.ob ((Keep.c (withoutK k key)).map .w), .one (.r (.v (.string key)))] := by
 refine Eng.Fn.intro (E := E) (rvs := []) Tryz.func149 rfl rfl rfl (by simp [outSlots, moved, rvSlot, sl]) ?_
 intro B g bo
 refine CW.g XK 30 [.e [0,1]] rfl rfl rfl ?_
 have hl1 : k.sessions.length ≤ maxLen := by have := hok.1.1; simp only [maxLen]; omega
 have hl2 : k.items.length ≤ maxLen := by have := hok.2.1; simp only [maxLen]; omega
 refine CW.g XK 30 [.p,.p] rfl rfl rfl ?_
 refine RW.build0 Item.c rfl rfl rfl rfl rfl fun X1 => ?_
 refine RW.assignMove rfl rfl rfl (by decide) (Nat.le_of_ble_eq_true rfl) (Nat.le_of_ble_eq_true rfl) ?_
 refine RW.g XK 30 [.p,.e [0,1,4],.n 1,.e [0,1,4,11,12,13],.p] rfl rfl rfl ?_
 refine CW.loopI 30 (fun (zz : Nat × Value) => match zz with | (i, X) => [(0, .obj (bo 0) [.w (sl 3 Session.c k.sessions) (g 0 0), .w (sl 3 Item.c k.items) (g 0 1)]), (1, S key), (4, .w (sl 3 Item.c (withoutL (k.items.take i) key)) X), (11, .al 0 (some 1) 3 k.items.length (g 0 1) 0), (12, I (k.items.length : Int)), (13, I (i : Int))]) (fun (zz : Nat × Value) => match zz with | (i, X) => i ≤ k.items.length) (fun (zz : Nat × Value) => match zz with | (i, X) => k.items.length - i) (0, _) rfl (Le.c rfl <| Le.c rfl <| Le.c rfl <| Le.c rfl <| Le.c rfl <| Le.c rfl <| Le.e) (by omega) ?_
 rintro ⟨i, X⟩ hb
 refine CW.g XK 30 [.n 1,.e [0,1,4,11,12,13,14],.p] rfl rfl rfl ?_
 refine CW.cond rfl (fun h2 => ?_) (fun h2 => ?_)
 have hii : i < k.items.length := by have := h2; simp at this; first | exact this | omega | (simp; done) | (simp; omega)
 obtain ⟨ei, hei⟩ : ∃ e, k.items[i]? = some e := ⟨_, List.getElem?_eq_getElem hii⟩
 have hdi := drop_get hei
 refine CW.g XK 30 [.p,.e [0,1,4,11,12,13],.p,.p,.p,.p] rfl rfl rfl ?_
 refine RW.swapO 11 0 1 (by decide) rfl rfl rfl ?_
 refine RW.v rfl (V.indexW rfl rfl rfl rfl rfl rfl rfl hii) ?_
 refine RW.v rfl (V.loadAggF (m := i) rfl rfl rfl rfl rfl Item.len hei (vs := Item.vs ei) rfl (by decide)) ?_
 refine RW.h XK 30 [.o 2] rfl ?_;(conv=>whnf);intro b3;(conv=>whnf);refine ⟨rfl,?_⟩
 refine RW.freezeB (ts := (Item.c ei)) 6 rfl (DRd.r (DRd.r (DRd.r DRd.e))) ?_
 refine RW.unswapO (k := 0) (l := 11) (j := 1) 0 11 1 rfl rfl rfl (by decide) rfl rfl rfl ?_
 refine RW.g XK 30 [.p,.e [0,1,4,6,11,12,13],.n 1,.e [0,1,4,6,11,12,13,20]] rfl rfl rfl ?_
 refine CW.cond rfl (fun h4 => ?_) (fun h4 => ?_)
 refine CW.g XK 30 [.o 2] rfl rfl rfl ?_
 refine RW.build1 (c := Item.c) (v := ei) rfl rfl rfl rfl rfl rfl (DW.v (DW.v (DW.v DW.e))) Item.len (by decide) (by decide) fun X5 => ?_
 refine RW.appendSR (c := Item.c) (l1 := (withoutL (k.items.take i) key)) (l2 := [ei]) rfl rfl rfl rfl rfl rfl rfl rfl (.al (k := none) (i := 23) (sz := 3) (V := X5) rfl rfl nofun) (by decide) (Nat.le_of_ble_eq_true rfl) Item.len (fun _ => rfl) rfl (by have h9 := without_len (k.items.take i) key; have h10 : (k.items.take i).length ≤ k.items.length := (by rw [List.length_take]; omega); have h11 := hok.2.1; simp only [maxLen, List.length_singleton]; omega) (by have h9 := without_len (k.items.take i) key; have h10 : (k.items.take i).length ≤ k.items.length := (by rw [List.length_take]; omega); have h11 := hok.2.1; simp only [maxLen, List.length_singleton]; omega) fun X6 => ?_
 refine RW.assignMove rfl rfl rfl (by decide) (Nat.le_of_ble_eq_true rfl) (Nat.le_of_ble_eq_true rfl) ?_
 refine RW.g XK 30 [.p,.e [0,1,4,11,12,13],.p] rfl rfl rfl ?_
 refine RW.v rfl (V.inc rfl rfl rfl hii hl2) ?_
 refine RW.g XK 30 [.o 1,.p] rfl rfl rfl ?_
 exact ⟨(i + 1, _), by simp only []; omega, (by omega), rfl, Le.c rfl <| Le.c rfl <| Le.c (Dw_congr q42) <| Le.c rfl <| Le.c rfl <| Le.c rfl <| Le.e⟩
 refine CW.g XK 30 [.p,.e [0,1,4,11,12,13],.p] rfl rfl rfl ?_
 refine RW.v rfl (V.inc rfl rfl rfl hii hl2) ?_
 refine RW.g XK 30 [.o 1,.p] rfl rfl rfl ?_
 exact ⟨(i + 1, _), by simp only []; omega, (by omega), rfl, Le.c rfl <| Le.c rfl <| Le.c (Dw_congr q42) <| Le.c rfl <| Le.c rfl <| Le.c rfl <| Le.e⟩
 have hii : k.items.length ≤ i := by have := h2; simp at this; first | exact this | omega | (simp; done) | (simp; omega)
 have hdi : k.items.drop i = [] := List.drop_eq_nil_of_le hii
 refine CW.exit ?_
 refine CW.g XK 30 [.e [0,4],.o 5,.e [0,4]] rfl rfl rfl ?_
 refine RW.pullT (k := 0) (l := 4) (j := 1) 0 4 1 rfl rfl rfl (by decide) rfl rfl rfl ?_
 refine RW.g XK 30 [.e [0],.p] rfl rfl rfl ?_
 exact Post.tup (by decide) RVs.e (AOs.obE (f := fun e => (Keep.c e).map .w) (e' := (⟨k.sessions, (withoutL (k.items.take i) key)⟩ : Keep)) rfl (DT.w (DT.w DT.e)) (by rw [List.take_of_length_le hii]; rfl) (AOs.r AOs.e))
set_option maxHeartbeats 4000000 in
theorem __impl_Keep__put_fn (k : Keep) (it : Item) (hok : okToKeep k) : Eng.Fn E.P 150 [.ob ((Keep.c k).map .w), .agg ((Item.c it).map .r)] (.tup []) [.ob ((Keep.c (putK k it)).map .w), .agg ((Item.c it).map .r)] := by
 refine Eng.Fn.intro (E := E) (rvs := []) Tryz.func150 rfl rfl rfl (by simp [outSlots, moved, rvSlot, sl]) ?_
 intro B g bo
 refine CW.g XK 50 [.e [0,1]] rfl rfl rfl ?_
 have hl1 : k.sessions.length ≤ maxLen := by have := hok.1.1; simp only [maxLen]; omega
 have hl2 : k.items.length ≤ maxLen := by have := hok.2.1; simp only [maxLen]; omega
 refine CW.h XK 50 [.o 1] rfl ?_;(conv=>whnf);intro b1;(conv=>whnf);refine ⟨rfl,?_⟩
 refine RW.freezeB (ts := (Item.c it)) 3 rfl (DRd.r (DRd.r (DRd.r DRd.e))) ?_
 refine RW.g XK 50 [.p,.e [0,3],.o 3] rfl rfl rfl ?_
 refine RW.callW (k := 0) (__impl_Keep__without_fn k it.key hok) rfl rfl (Nat.le_of_ble_eq_true rfl) (by decide) (.here (AsW.ob (DT.w (DT.w DT.e)) rfl) (.cons (.one (.r .r)) (.nil))) rfl fun g2 q3 => ?_
 refine RW.g XK 50 [.p,.e [0,3],.p,.p] rfl rfl rfl ?_
 refine RW.build0 Item.c rfl rfl rfl rfl rfl fun X4 => ?_
 refine RW.assignMove rfl rfl rfl (by decide) (Nat.le_of_ble_eq_true rfl) (Nat.le_of_ble_eq_true rfl) ?_
 refine RW.g XK 50 [.p,.e [0,3,4],.n 1,.e [0,3,4,5],.n 1,.e [0,3,4,5,16,17,18],.p] rfl rfl rfl ?_
 refine CW.loopI 50 (fun (zz : Nat × List Item × Bool × Value) => match zz with | (i, rest, p, X) => [(0, .obj (bo 0) [.w (sl 3 Session.c ((withoutK k it.key).sessions)) (q3 0), .w (sl 3 Item.c ((withoutK k it.key).items)) (q3 1)]), (3, .rp (Item.c it)), (4, .w (sl 3 Item.c rest) X), (5, Bo p), (16, .al 0 (some 1) 3 (((withoutK k it.key).items).length) (q3 1) 0), (17, I (((withoutK k it.key).items).length : Int)), (18, I (i : Int))]) (fun (zz : Nat × List Item × Bool × Value) => match zz with | (i, rest, p, X) => PutP it (withoutK k it.key).items i rest p) (fun (zz : Nat × List Item × Bool × Value) => match zz with | (i, rest, p, X) => (withoutK k it.key).items.length - i) (0, _, _, _) rfl (Le.c rfl <| Le.c rfl <| Le.c rfl <| Le.c rfl <| Le.c rfl <| Le.c rfl <| Le.c rfl <| Le.e) (PutP.init _ _) ?_
 rintro ⟨i, rest, p, X⟩ hP
 have hPl := hP.len1
 have hPe := hP.le
 have hL : (withoutK k it.key).items.length ≤ k.items.length := without_len _ _
 refine CW.g XK 50 [.n 1,.e [0,3,4,5,16,17,18,19],.p] rfl rfl rfl ?_
 refine CW.cond rfl (fun h5 => ?_) (fun h5 => ?_)
 have hii : i < (withoutK k it.key).items.length := by simpa using h5
 obtain ⟨ei, hei⟩ : ∃ e, (withoutK k it.key).items[i]? = some e := ⟨_, List.getElem?_eq_getElem hii⟩
 refine CW.g XK 50 [.p,.e [0,3,4,5,16,17,18],.p,.p,.p,.p] rfl rfl rfl ?_
 refine RW.swapO 16 0 1 (by decide) rfl rfl rfl ?_
 refine RW.v rfl (V.indexW rfl rfl rfl rfl rfl rfl rfl hii) ?_
 refine RW.v rfl (V.loadAggF (m := i) rfl rfl rfl rfl rfl Item.len hei (vs := Item.vs ei) rfl (by decide)) ?_
 refine RW.h XK 50 [.o 2] rfl ?_;(conv=>whnf);intro b6;(conv=>whnf);refine ⟨rfl,?_⟩
 refine RW.freezeB (ts := (Item.c ei)) 7 rfl (DRd.r (DRd.r (DRd.r DRd.e))) ?_
 refine RW.unswapO (k := 0) (l := 16) (j := 1) 0 16 1 rfl rfl rfl (by decide) rfl rfl rfl ?_
 refine RW.g XK 50 [.p,.e [0,3,4,5,7,16,17,18],.p] rfl rfl rfl ?_
 refine CW.seqJ 50 (fun (v7 : Bool) => [(0, .obj (bo 0) [.w (sl 3 Session.c ((withoutK k it.key).sessions)) (q3 0), .w (sl 3 Item.c ((withoutK k it.key).items)) (q3 1)]), (3, .rp (Item.c it)), (4, .w (sl 3 Item.c rest) X), (5, Bo p), (7, .rp (Item.c ei)), (16, .al 0 (some 1) 3 (((withoutK k it.key).items).length) (q3 1) 0), (17, I (((withoutK k it.key).items).length : Int)), (18, I (i : Int)), (30, Bo v7)]) (fun v7 => v7 = ((!p) && (!(Op.bytesLess ei.key.toList it.key.toList || ei.key.toList == it.key.toList)))) ?_ ?_
 refine CW.g XK 50 [.o 3] rfl rfl rfl ?_
 refine RW.gv rfl rfl rfl rfl (fun h8 => V.fieldR rfl rfl rfl rfl (by decide) rfl (Nat.le_of_ble_eq_true rfl)) (fun h8 => ?_) (fun h8 => ?_)
 refine RW.g XK 50 [.o 5,.p] rfl rfl rfl ?_
 exact ⟨_, by first | rfl | (simp_all; done) | (simp_all; omega) | grind, rfl, Le.of rfl⟩
 refine RW.g XK 50 [.o 5,.p] rfl rfl rfl ?_
 exact ⟨_, by first | rfl | (simp_all; done) | (simp_all; omega) | grind, rfl, Le.of rfl⟩
 intro v7 hv9
 refine CW.cond rfl (fun h10 => ?_) (fun h10 => ?_)
 refine CW.g XK 50 [.o 2] rfl rfl rfl ?_
 refine RW.build1 (c := Item.c) (v := it) rfl rfl rfl rfl rfl rfl (DW.v (DW.v (DW.v DW.e))) Item.len (by decide) (by decide) fun X11 => ?_
 refine RW.appendSR (c := Item.c) (l1 := rest) (l2 := [it]) rfl rfl rfl rfl rfl rfl rfl rfl (.al (k := none) (i := 33) (sz := 3) (V := X11) rfl rfl nofun) (by decide) (Nat.le_of_ble_eq_true rfl) Item.len (fun _ => rfl) rfl q16 q16 fun X12 => ?_
 refine RW.assignMove rfl rfl rfl (by decide) (Nat.le_of_ble_eq_true rfl) (Nat.le_of_ble_eq_true rfl) ?_
 refine RW.g XK 50 [.p,.e [0,3,4,7,16,17,18],.o 1,.p,.e [0,3,4,5,7,16,17,18],.o 2] rfl rfl rfl ?_
 refine RW.build1 (c := Item.c) (v := ei) rfl rfl rfl rfl rfl rfl (DW.v (DW.v (DW.v DW.e))) Item.len (by decide) (by decide) fun X13 => ?_
 refine RW.appendSR (c := Item.c) (l1 := (rest ++ ([it]))) (l2 := [ei]) rfl rfl rfl rfl rfl rfl rfl rfl (.al (k := none) (i := 37) (sz := 3) (V := X13) rfl rfl nofun) (by decide) (Nat.le_of_ble_eq_true rfl) Item.len (fun _ => rfl) rfl q16 q16 fun X14 => ?_
 refine RW.assignMove rfl rfl rfl (by decide) (Nat.le_of_ble_eq_true rfl) (Nat.le_of_ble_eq_true rfl) ?_
 refine RW.g XK 50 [.p,.e [0,3,4,5,16,17,18],.p] rfl rfl rfl ?_
 refine RW.v rfl (V.inc rfl rfl rfl hii (Nat.le_trans hL hl2)) ?_
 refine RW.g XK 50 [.o 1,.p] rfl rfl rfl ?_
 exact ⟨(i + 1, ((rest ++ ([it])) ++ ([ei])), true, _), by simp only []; omega, (by first | exact hP.ins hei (hv9.symm.trans h10) | exact hP.go hei (hv9.symm.trans h10)), rfl, Le.c rfl <| Le.c rfl <| Le.c rfl <| Le.c rfl <| Le.c rfl <| Le.c rfl <| Le.c rfl <| Le.e⟩
 refine CW.g XK 50 [.p,.e [0,3,4,5,7,16,17,18],.o 2] rfl rfl rfl ?_
 refine RW.build1 (c := Item.c) (v := ei) rfl rfl rfl rfl rfl rfl (DW.v (DW.v (DW.v DW.e))) Item.len (by decide) (by decide) fun X15 => ?_
 refine RW.appendSR (c := Item.c) (l1 := rest) (l2 := [ei]) rfl rfl rfl rfl rfl rfl rfl rfl (.al (k := none) (i := 37) (sz := 3) (V := X15) rfl rfl nofun) (by decide) (Nat.le_of_ble_eq_true rfl) Item.len (fun _ => rfl) rfl q16 q16 fun X16 => ?_
 refine RW.assignMove rfl rfl rfl (by decide) (Nat.le_of_ble_eq_true rfl) (Nat.le_of_ble_eq_true rfl) ?_
 refine RW.g XK 50 [.p,.e [0,3,4,5,16,17,18],.p] rfl rfl rfl ?_
 refine RW.v rfl (V.inc rfl rfl rfl hii (Nat.le_trans hL hl2)) ?_
 refine RW.g XK 50 [.o 1,.p] rfl rfl rfl ?_
 exact ⟨(i + 1, (rest ++ ([ei])), p, _), by simp only []; omega, (by first | exact hP.ins hei (hv9.symm.trans h10) | exact hP.go hei (hv9.symm.trans h10)), rfl, Le.c rfl <| Le.c rfl <| Le.c rfl <| Le.c rfl <| Le.c rfl <| Le.c rfl <| Le.c rfl <| Le.e⟩
 have hii : (withoutK k it.key).items.length ≤ i := by simpa using h5
 refine CW.exit ?_
 refine CW.g XK 50 [.e [0,3,4,5],.n 1,.e [0,3,4,41]] rfl rfl rfl ?_
 refine CW.cond rfl (fun h17 => ?_) (fun h17 => ?_)
 refine CW.g XK 50 [.o 2] rfl rfl rfl ?_
 refine RW.build1 (c := Item.c) (v := it) rfl rfl rfl rfl rfl rfl (DW.v (DW.v (DW.v DW.e))) Item.len (by decide) (by decide) fun X18 => ?_
 refine RW.appendSR (c := Item.c) (l1 := rest) (l2 := [it]) rfl rfl rfl rfl rfl rfl rfl rfl (.al (k := none) (i := 44) (sz := 3) (V := X18) rfl rfl nofun) (by decide) (Nat.le_of_ble_eq_true rfl) Item.len (fun _ => rfl) rfl q16 q16 fun X19 => ?_
 refine RW.assignMove rfl rfl rfl (by decide) (Nat.le_of_ble_eq_true rfl) (Nat.le_of_ble_eq_true rfl) ?_
 refine RW.g XK 50 [.p,.e [0,4],.o 5,.e [0,4]] rfl rfl rfl ?_
 refine RW.pullT (k := 0) (l := 4) (j := 1) 0 4 1 rfl rfl rfl (by decide) rfl rfl rfl ?_
 refine RW.g XK 50 [.e [0],.p] rfl rfl rfl ?_
 exact Post.tup (by decide) RVs.e (AOs.obE (f := fun e => (Keep.c e).map .w) (e' := (⟨(withoutK k it.key).sessions, (rest ++ ([it]))⟩ : Keep)) rfl (DT.w (DT.w DT.e)) (by rw [show (putK k it) = ⟨(withoutK k it.key).sessions, insL it (withoutK k it.key).items⟩ from rfl]; first | rw [hP.fin1 h17 hii] | rw [hP.fin0 h17 hii]) (AOs.a rfl AOs.e))
 refine CW.g XK 50 [.p,.e [0,4],.o 5,.e [0,4]] rfl rfl rfl ?_
 refine RW.pullT (k := 0) (l := 4) (j := 1) 0 4 1 rfl rfl rfl (by decide) rfl rfl rfl ?_
 refine RW.g XK 50 [.e [0],.p] rfl rfl rfl ?_
 exact Post.tup (by decide) RVs.e (AOs.obE (f := fun e => (Keep.c e).map .w) (e' := (⟨(withoutK k it.key).sessions, rest⟩ : Keep)) rfl (DT.w (DT.w DT.e)) (by rw [show (putK k it) = ⟨(withoutK k it.key).sessions, insL it (withoutK k it.key).items⟩ from rfl]; first | rw [hP.fin1 h17 hii] | rw [hP.fin0 h17 hii]) (AOs.a rfl AOs.e))
end Go.Proofs.YtdipdkfbaehglaaGreatDoor.Y
