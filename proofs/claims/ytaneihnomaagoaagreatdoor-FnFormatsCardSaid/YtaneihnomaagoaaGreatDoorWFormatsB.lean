import Derived.Test.YtaneihnomaagoaaGreatDoorWFormatsA
namespace Go.Proofs.YtaneihnomaagoaaGreatDoor.Y
open Go Go.RowKit Go.Eng Go.Proofs
set_option maxRecDepth 10000
set_option maxHeartbeats 4000000 in
theorem impl_KeepOk_fn (k : Keep) (hok : okToKeep k) : Eng.Fn E.P 85 [.agg ((Keep.c k).map .r)] (.one (.one (.w (.v (.bool (keepOk k)))))) [.agg ((Keep.c k).map .r)] := by
 refine Eng.Fn.intro (E := E) (rvs := [.tmp 2]) Tryz.func85 rfl rfl rfl (by simp [outSlots, moved, rvSlot, sl]) ?_
 intro B g bo
 refine CW.g XK 107 [.e [0]] rfl rfl rfl ?_
 have hl1 : k.sessions.length ≤ maxLen := by have := hok.1.1; simp only [maxLen]; omega
 have hl2 : k.items.length ≤ maxLen := by have := hok.2.1; simp only [maxLen]; omega
 refine CW.h XK 107 [.o 1] rfl ?_;(conv=>whnf);intro b1;(conv=>whnf);refine ⟨rfl,?_⟩
 refine RW.freezeB (ts := (Keep.c k)) 1 rfl (DRd.r (DRd.r DRd.e)) ?_
 refine RW.g XK 107 [.o 1,.p,.e [1],.n 1,.e [1,8,9,10],.p] rfl rfl rfl ?_
 refine CW.loopI 107 (fun (i : Nat) => [(1, .rp (Keep.c k)), (8, .r (sl 3 Session.c k.sessions)), (9, I (k.sessions.length : Int)), (10, I (i : Int))]) (fun (i : Nat) => i ≤ k.sessions.length ∧ sessF (prevO Session.token Session.z k.sessions i) (k.sessions.drop i) = sessF none k.sessions) (fun (i : Nat) => k.sessions.length - i) 0 rfl (Le.c rfl <| Le.c rfl <| Le.c rfl <| Le.c rfl <| Le.e) ⟨by omega, rfl⟩ ?_
 rintro i ⟨hb, hr⟩
 refine CW.g XK 107 [.n 1,.e [1,8,9,10,11],.p] rfl rfl rfl ?_
 refine CW.cond rfl (fun h2 => ?_) (fun h2 => ?_)
 have hii : i < k.sessions.length := by have := h2; simp at this; first | exact this | omega | (simp; done) | (simp; omega)
 obtain ⟨ei, hei⟩ : ∃ e, k.sessions[i]? = some e := ⟨_, List.getElem?_eq_getElem hii⟩
 have hdi := drop_get hei
 refine CW.g XK 107 [.p,.e [1,8,9,10],.o 1] rfl rfl rfl ?_
 refine RW.v rfl (V.indexS rfl rfl rfl rfl rfl rfl Session.len hei) ?_
 refine RW.h XK 107 [.o 4] rfl ?_;(conv=>whnf);intro b3;(conv=>whnf);refine ⟨rfl,?_⟩
 refine RW.freezeB (ts := (Session.c ei)) 4 rfl (DRd.r (DRd.r (DRd.r DRd.e))) ?_
 refine RW.g XK 107 [.p,.e [1,3,4,8,9,10],.p] rfl rfl rfl ?_
 refine CW.seqJ 107 (fun (v4 : Bool) => [(1, .rp (Keep.c k)), (3, I (i : Int)), (4, .rp (Session.c ei)), (8, .r (sl 3 Session.c k.sessions)), (9, I (k.sessions.length : Int)), (10, I (i : Int)), (40, Bo v4)]) (fun v4 => v4 = ((((!(inR ei.token 1 1000000)) || (!(inR ei.last 0 1000000))) || decide ((ei.reply.size : Int) > 40)) || ((ei.last == 0) && (!(ei.reply.toList == (⟨#[]⟩ : ByteArray).toList))))) ?_ ?_
 refine CW.g XK 107 [.o 2] rfl rfl rfl ?_
 refine RW.call rfl (impl_within_fn ei.token 1 1000000) rfl (.cons (.one (.r .r)) (.cons (.one (.r .r)) (.cons (.one (.r .r)) (.nil)))) fun g5 => ?_
 refine RW.g XK 107 [.o 2] rfl rfl rfl ?_
 refine RW.gv rfl rfl rfl rfl (fun h6 => V.fieldR rfl rfl rfl rfl (by decide) rfl (Nat.le_of_ble_eq_true rfl)) (fun h6 => ?_) (fun h6 => ?_)
 refine RW.g XK 107 [.o 1] rfl rfl rfl ?_
 refine RW.gcall rfl rfl rfl rfl (impl_isIndex_fn ei.last) rfl (.cons (.one (.r .r)) (.nil)) fun g7 => ?_
 refine RW.g XK 107 [.o 3] rfl rfl rfl ?_
 refine RW.gv rfl rfl rfl rfl (fun h8 => V.fieldR rfl rfl rfl rfl (by decide) rfl (Nat.le_of_ble_eq_true rfl)) (fun h8 => ?_) (fun h8 => ?_)
 refine RW.g XK 107 [.o 5] rfl rfl rfl ?_
 refine RW.gv rfl rfl rfl rfl (fun h9 => V.fieldR rfl rfl rfl rfl (by decide) rfl (Nat.le_of_ble_eq_true rfl)) (fun h9 => ?_) (fun h9 => ?_)
 refine RW.g XK 107 [.o 3] rfl rfl rfl ?_
 refine RW.gv rfl rfl rfl rfl (fun h10 => V.fieldR rfl rfl rfl rfl (by decide) rfl (Nat.le_of_ble_eq_true rfl)) (fun h10 => ?_) (fun h10 => ?_)
 refine RW.g XK 107 [.o 4,.p] rfl rfl rfl ?_
 exact ⟨_, by first | rfl | (simp_all; done) | (simp_all; omega) | grind, rfl, Le.of rfl⟩
 refine RW.g XK 107 [.o 4,.p] rfl rfl rfl ?_
 exact ⟨_, by first | rfl | (simp_all; done) | (simp_all; omega) | grind, rfl, Le.of rfl⟩
 refine RW.g XK 107 [.o 8,.p] rfl rfl rfl ?_
 exact ⟨_, by first | rfl | (simp_all; done) | (simp_all; omega) | grind, rfl, Le.of rfl⟩
 refine RW.g XK 107 [.o 14,.p] rfl rfl rfl ?_
 exact ⟨_, by first | rfl | (simp_all; done) | (simp_all; omega) | grind, rfl, Le.of rfl⟩
 refine RW.g XK 107 [.o 20,.p] rfl rfl rfl ?_
 exact ⟨_, by first | rfl | (simp_all; done) | (simp_all; omega) | grind, rfl, Le.of rfl⟩
 intro v4 hv11
 refine CW.cond rfl (fun h12 => ?_) (fun h12 => ?_)
 refine CW.g XK 107 [.n 1,.e [2]] rfl rfl rfl ?_
 refine CW.ret ?_
 exact Post.one (RV.b rfl (by have ht : sessF none k.sessions = false := (by rw [← hr, hdi, sessF]; first | (simp_all [sessOk, emp, prevO, prevGe]; done) | grind [sessOk, emp, prevO, prevGe]); simp [keepOk, ht])) (AOs.a rfl AOs.e)
 refine CW.g XK 107 [.p,.e [1,3,4,8,9,10]] rfl rfl rfl ?_
 refine CW.seqJ 107 (fun (v13 : Bool) => [(1, .rp (Keep.c k)), (8, .r (sl 3 Session.c k.sessions)), (9, I (k.sessions.length : Int)), (10, I (i : Int)), (54, Bo v13)]) (fun v13 => v13 = (decide ((i : Int) > 0) && decide ((k.sessions.getD (i - 1) Session.z).token ≥ ei.token))) ?_ ?_
 refine CW.drawn (by kernel_rfl) ?_
 refine RQ.k XK 107 3 rfl ?_
 (conv=>whnf);refine ⟨rfl,?_⟩
 refine RQ.gv rfl rfl rfl rfl (fun h14 => V.fieldR rfl rfl rfl rfl (by decide) rfl (Nat.le_of_ble_eq_true rfl)) (fun h14 => ?_) (fun h14 => ?_)
 refine RQ.k XK 107 2 rfl ?_
 (conv=>whnf);refine ⟨rfl,?_⟩
 refine RQ.gt rfl rfl rfl rfl (V.dec (m := i) rfl rfl rfl (by have := h14; simp at this; omega) (by omega)) ?_
 refine RQ.gt rfl rfl rfl rfl (V.indexS rfl rfl rfl rfl rfl rfl Session.len (getD_some (l := k.sessions) (j := i - 1) (z := Session.z) (by omega))) ?_
 refine RQ.k XK 107 6 rfl ?_
 (conv=>whnf);refine ⟨rfl,?_⟩
 refine RQ.nil ?_
 exact ⟨_, by first | rfl | (simp_all; done) | (simp_all; omega) | grind, rfl, Le.of rfl⟩
 refine RQ.k XK 107 10 rfl ?_
 (conv=>whnf);refine ⟨rfl,?_⟩
 refine RQ.nil ?_
 exact ⟨_, by first | rfl | (simp_all; done) | (simp_all; omega) | grind, rfl, Le.of rfl⟩
 intro v13 hv15
 refine CW.cond rfl (fun h16 => ?_) (fun h16 => ?_)
 refine CW.g XK 107 [.n 1,.e [2]] rfl rfl rfl ?_
 refine CW.ret ?_
 exact Post.one (RV.b rfl (by have ht : sessF none k.sessions = false := (by rw [← hr, hdi, sessF]; first | (simp_all [sessOk, emp, prevO, prevGe]; done) | grind [sessOk, emp, prevO, prevGe]); simp [keepOk, ht])) (AOs.a rfl AOs.e)
 refine CW.g XK 107 [.p,.e [1,8,9,10],.p] rfl rfl rfl ?_
 refine RW.v rfl (V.inc rfl rfl rfl hii hl1) ?_
 refine RW.g XK 107 [.o 1,.p] rfl rfl rfl ?_
 exact ⟨i + 1, by omega, ⟨by omega, by rw [← hr, hdi, sessF, prevO_succ hei]; first | (simp_all [sessOk, itemOk, emp, prevO, prevGe, prevS]; done) | grind [sessOk, itemOk, emp, prevO, prevGe, prevS]⟩, rfl, Le.c rfl <| Le.c rfl <| Le.c rfl <| Le.c rfl <| Le.e⟩
 have hii : k.sessions.length ≤ i := by have := h2; simp at this; first | exact this | omega | (simp; done) | (simp; omega)
 have hdi : k.sessions.drop i = [] := List.drop_eq_nil_of_le hii
 refine CW.exit ?_
 refine CW.g XK 107 [.e [1],.n 1,.e [1,57,58,59],.p] rfl rfl rfl ?_
 refine CW.loopI 107 (fun (j : Nat) => [(1, .rp (Keep.c k)), (57, .r (sl 3 Item.c k.items)), (58, I (k.items.length : Int)), (59, I (j : Int))]) (fun (j : Nat) => j ≤ k.items.length ∧ itemF (prevO Item.key Item.z k.items j) (k.items.drop j) = itemF none k.items) (fun (j : Nat) => k.items.length - j) 0 rfl (Le.c rfl <| Le.c rfl <| Le.c rfl <| Le.c rfl <| Le.e) ⟨by omega, rfl⟩ ?_
 rintro j ⟨hc, hs⟩
 refine CW.g XK 107 [.n 1,.e [1,57,58,59,60],.p] rfl rfl rfl ?_
 refine CW.cond rfl (fun h17 => ?_) (fun h17 => ?_)
 have hij : j < k.items.length := by have := h17; simp at this; first | exact this | omega | (simp; done) | (simp; omega)
 obtain ⟨ej, hej⟩ : ∃ e, k.items[j]? = some e := ⟨_, List.getElem?_eq_getElem hij⟩
 have hdj := drop_get hej
 refine CW.g XK 107 [.p,.e [1,57,58,59],.o 1] rfl rfl rfl ?_
 refine RW.v rfl (V.indexS rfl rfl rfl rfl rfl rfl Item.len hej) ?_
 refine RW.h XK 107 [.o 4] rfl ?_;(conv=>whnf);intro b18;(conv=>whnf);refine ⟨rfl,?_⟩
 refine RW.freezeB (ts := (Item.c ej)) 6 rfl (DRd.r (DRd.r (DRd.r DRd.e))) ?_
 refine RW.g XK 107 [.p,.e [1,5,6,57,58,59]] rfl rfl rfl ?_
 refine CW.seqJ 107 (fun (v19 : Bool) => [(1, .rp (Keep.c k)), (57, .r (sl 3 Item.c k.items)), (58, I (k.items.length : Int)), (59, I (j : Int)), (95, Bo v19)]) (fun v19 => v19 = ((((!(inR (ej.key.size : Int) 1 8)) || (!(decide ((ej.val.size : Int) ≤ 20)))) || (!(inR ej.ver 1 1000000000))) || (decide ((j : Int) > 0) && (!(Op.bytesLess ((k.items.getD (j - 1) Item.z).key).toList ej.key.toList))))) ?_ ?_
 refine CW.drawn (by kernel_rfl) ?_
 refine RQ.k XK 107 2 rfl ?_
 (conv=>whnf);refine ⟨rfl,?_⟩
 refine RQ.cons rfl (QOK.call (impl_keyOk_fn ej.key) rfl (.cons (.one (.r .r)) (.nil)) ?_)
 refine RQ.k XK 107 2 rfl ?_
 (conv=>whnf);refine ⟨rfl,?_⟩
 refine RQ.gv rfl rfl rfl rfl (fun h20 => V.fieldR rfl rfl rfl rfl (by decide) rfl (Nat.le_of_ble_eq_true rfl)) (fun h20 => ?_) (fun h20 => ?_)
 refine RQ.k XK 107 1 rfl ?_
 (conv=>whnf);refine ⟨rfl,?_⟩
 refine RQ.guardT rfl rfl rfl rfl (QOK.call (impl_valOk_fn ej.val) rfl (.cons (.one (.r .r)) (.nil)) ?_)
 refine RQ.k XK 107 3 rfl ?_
 (conv=>whnf);refine ⟨rfl,?_⟩
 refine RQ.gv rfl rfl rfl rfl (fun h21 => V.fieldR rfl rfl rfl rfl (by decide) rfl (Nat.le_of_ble_eq_true rfl)) (fun h21 => ?_) (fun h21 => ?_)
 refine RQ.k XK 107 1 rfl ?_
 (conv=>whnf);refine ⟨rfl,?_⟩
 refine RQ.guardT rfl rfl rfl rfl (QOK.call (impl_within_fn ej.ver 1 1000000000) rfl (.cons (.one (.r .r)) (.cons (.one (.r .r)) (.cons (.one (.r .r)) (.nil)))) ?_)
 refine RQ.k XK 107 3 rfl ?_
 (conv=>whnf);refine ⟨rfl,?_⟩
 refine RQ.gv rfl rfl rfl rfl (fun h22 => V.mv (d := I (j : Int)) rfl rfl) (fun h22 => ?_) (fun h22 => ?_)
 refine RQ.k XK 107 2 rfl ?_
 (conv=>whnf);refine ⟨rfl,?_⟩
 refine RQ.gv rfl rfl rfl rfl (fun h23 => V.fieldR rfl rfl rfl rfl (by decide) rfl (Nat.le_of_ble_eq_true rfl)) (fun h23 => ?_) (fun h23 => ?_)
 refine RQ.k XK 107 2 rfl ?_
 (conv=>whnf);refine ⟨rfl,?_⟩
 refine RQ.gt rfl rfl rfl rfl (V.dec (m := j) rfl rfl rfl (by have := h23; simp at this; omega) (by omega)) ?_
 refine RQ.gt rfl rfl rfl rfl (V.indexS rfl rfl rfl rfl rfl rfl Item.len (getD_some (l := k.items) (j := j - 1) (z := Item.z) (by omega))) ?_
 refine RQ.k XK 107 7 rfl ?_
 (conv=>whnf);refine ⟨rfl,?_⟩
 refine RQ.nil ?_
 exact ⟨_, by first | rfl | (simp_all; done) | (simp_all; omega) | grind, rfl, Le.of rfl⟩
 refine RQ.k XK 107 11 rfl ?_
 (conv=>whnf);refine ⟨rfl,?_⟩
 refine RQ.nil ?_
 exact ⟨_, by first | rfl | (simp_all; done) | (simp_all; omega) | grind, rfl, Le.of rfl⟩
 refine RQ.k XK 107 14 rfl ?_
 (conv=>whnf);refine ⟨rfl,?_⟩
 refine RQ.nil ?_
 exact ⟨_, by first | rfl | (simp_all; done) | (simp_all; omega) | grind, rfl, Le.of rfl⟩
 refine RQ.k XK 107 20 rfl ?_
 (conv=>whnf);refine ⟨rfl,?_⟩
 refine RQ.nil ?_
 exact ⟨_, by first | rfl | (simp_all; done) | (simp_all; omega) | grind, rfl, Le.of rfl⟩
 refine RQ.k XK 107 26 rfl ?_
 (conv=>whnf);refine ⟨rfl,?_⟩
 refine RQ.nil ?_
 exact ⟨_, by first | rfl | (simp_all; done) | (simp_all; omega) | grind, rfl, Le.of rfl⟩
 intro v19 hv24
 refine CW.cond rfl (fun h25 => ?_) (fun h25 => ?_)
 refine CW.g XK 107 [.n 1,.e [2]] rfl rfl rfl ?_
 refine CW.ret ?_
 exact Post.one (RV.b rfl (by have ht : itemF none k.items = false := (by rw [← hs, hdj, itemF]; first | (simp_all [itemOk, prevO, prevS]; done) | grind [itemOk, prevO, prevS]); simp [keepOk, ht])) (AOs.a rfl AOs.e)
 refine CW.g XK 107 [.p,.e [1,57,58,59],.p] rfl rfl rfl ?_
 refine RW.v rfl (V.inc rfl rfl rfl hij hl2) ?_
 refine RW.g XK 107 [.o 1,.p] rfl rfl rfl ?_
 exact ⟨j + 1, by omega, ⟨by omega, by rw [← hs, hdj, itemF, prevO_succ hej]; first | (simp_all [sessOk, itemOk, emp, prevO, prevGe, prevS]; done) | grind [sessOk, itemOk, emp, prevO, prevGe, prevS]⟩, rfl, Le.c rfl <| Le.c rfl <| Le.c rfl <| Le.c rfl <| Le.e⟩
 have hij : k.items.length ≤ j := by have := h17; simp at this; first | exact this | omega | (simp; done) | (simp; omega)
 have hdj : k.items.drop j = [] := List.drop_eq_nil_of_le hij
 refine CW.exit ?_
 refine CW.g XK 107 [.e [1]] rfl rfl rfl ?_
 refine CW.seqJ 107 (fun (v26 : Bool) => [(2, Bo v26)]) (fun v26 => v26 = (decide ((k.sessions.length : Int) ≤ 3) && decide ((k.items.length : Int) ≤ 8))) ?_ ?_
 refine CW.g XK 107 [.o 5] rfl rfl rfl ?_
 refine RW.gv rfl rfl rfl rfl (fun h27 => V.fieldR rfl rfl rfl rfl (by decide) rfl (Nat.le_of_ble_eq_true rfl)) (fun h27 => ?_) (fun h27 => ?_)
 refine RW.g XK 107 [.o 5,.p] rfl rfl rfl ?_
 exact ⟨_, by first | rfl | (simp_all; done) | (simp_all; omega) | grind, rfl, Le.of rfl⟩
 refine RW.g XK 107 [.o 5,.p] rfl rfl rfl ?_
 exact ⟨_, by first | rfl | (simp_all; done) | (simp_all; omega) | grind, rfl, Le.of rfl⟩
 intro v26 hv28
 refine CW.ret ?_
 exact Post.one (RV.b rfl (by have ht : sessF none k.sessions = true := (by rw [← hr, hdi]; rfl); have hu : itemF none k.items = true := (by rw [← hs, hdj]; rfl); clear hr hs hdi hdj; first | (simp_all [keepOk]; done) | grind [keepOk])) (AOs.a rfl AOs.e)
set_option maxHeartbeats 4000000 in
theorem impl_ShortText_fn (t : ByteArray) : Eng.Fn E.P 88 [.one (.r (.v (.string t)))] (.tup [.one (.w (.v (.string (shT t)))), .one (.w (.v (.bool (decide ((t.size : Int) ≤ 20000)))))]) [.one (.r (.v (.string t)))] := by
 refine Eng.Fn.intro (E := E) (rvs := [.tmp 2, .tmp 3]) Tryz.func88 rfl rfl rfl (by simp [outSlots, moved, rvSlot, sl]) ?_
 intro B g bo
 refine CW.g XK 18 [.e [0],.n 1,.e [0],.n 1,.e [0,8]] rfl rfl rfl ?_
 refine CW.cond rfl (fun h1 => ?_) (fun h1 => ?_)
 refine CW.g XK 18 [.n 1,.e [2,3]] rfl rfl rfl ?_
 refine CW.ret ?_
 exact Post.tup (by decide) (RVs.c (RV.s rfl (by have h8 : ¬ (t.size : Int) ≤ 20000 := (by have h9 := of_decide_eq_true h1; omega); rw [shT, if_neg h8])) (RVs.c (RV.b rfl (by have h9 := of_decide_eq_true h1; simp; omega)) RVs.e)) (AOs.r AOs.e)
 refine CW.g XK 18 [.p,.e [0],.o 2] rfl rfl rfl ?_
 refine RW.call rfl (impl_VarText_fn (t.size : Int)) rfl (.cons (.one (.r .r)) (.nil)) fun g2 => ?_
 refine RW.g XK 18 [.o 5,.p,.e [0,4],.o 2] rfl rfl rfl ?_
 refine RW.v rfl (V.cat rfl rfl rfl (by have h9 := of_decide_eq_false h1; have h7 := vT_size t.size; simp only [vT] at h7; simp only [maxLen]; omega)) ?_
 refine RW.g XK 18 [.o 2,.p,.e [2,3]] rfl rfl rfl ?_
 refine CW.ret ?_
 exact Post.tup (by decide) (RVs.c (RV.s rfl (by have h8 : (t.size : Int) ≤ 20000 := (by have h9 := of_decide_eq_false h1; omega); rw [shT, if_pos h8]; rfl)) (RVs.c (RV.b rfl (by have h9 := of_decide_eq_false h1; simp; omega)) RVs.e)) (AOs.r AOs.e)
set_option maxHeartbeats 4000000 in
theorem impl_shortTexts_fn (l : List ByteArray) (hl : l.length ≤ 10) : Eng.Fn E.P 86 [.one (.r (sl 1 cS l))] (.one (.one (.w (.v (.string (shTs l)))))) [.one (.r (sl 1 cS l))] := by
 refine Eng.Fn.intro (E := E) (rvs := [.tmp 2]) Tryz.func86 rfl rfl rfl (by simp [outSlots, moved, rvSlot, sl]) ?_
 intro B g bo
 refine CW.bound (x := .tmp 0) (n := l.length) (AsT.r) (fun hl0 => ?_)
 refine CW.g XK 24 [.e [0],.n 2,.e [0,3],.n 1,.e [3,8,9,10],.p] rfl rfl rfl ?_
 refine CW.loopI 24 (fun (zz : Nat × ByteArray) => match zz with | (i, s) => [(3, S s), (8, .r (sl 1 cS l)), (9, I (l.length : Int)), (10, I (i : Int))]) (fun (zz : Nat × ByteArray) => match zz with | (i, s) => i ≤ l.length ∧ s = shTs (l.take i)) (fun (zz : Nat × ByteArray) => match zz with | (i, s) => l.length - i) (0, _) rfl (Le.c rfl <| Le.c rfl <| Le.c rfl <| Le.c rfl <| Le.e) ⟨by omega, rfl⟩ ?_
 rintro ⟨i, s⟩ ⟨hb, hs⟩
 refine CW.g XK 24 [.n 1,.e [3,8,9,10,11],.p] rfl rfl rfl ?_
 refine CW.cond rfl (fun h1 => ?_) (fun h1 => ?_)
 have hii : i < l.length := by have := h1; simp at this; first | exact this | omega | (simp; done) | (simp; omega)
 obtain ⟨ei, hei⟩ : ∃ e, l[i]? = some e := ⟨_, List.getElem?_eq_getElem hii⟩
 have hdi := drop_get hei
 refine CW.g XK 24 [.p,.e [3,8,9,10],.p,.p,.p,.p] rfl rfl rfl ?_
 refine RW.v rfl (V.indexS rfl rfl rfl rfl rfl rfl cS.len hei) ?_
 refine RW.g XK 24 [.o 2,.p,.e [3,5,8,9,10],.o 1] rfl rfl rfl ?_
 refine RW.call rfl (impl_ShortText_fn ei) rfl (.cons (.one (.r .r)) (.nil)) fun g2 => ?_
 refine RW.g XK 24 [.o 5,.p,.e [3,6,8,9,10],.o 2] rfl rfl rfl ?_
 refine RW.v rfl (V.cat rfl rfl rfl (by have h9 := shTs_size (l.take i); rw [← hs] at h9; have h8 := take_len l i; have h7 := shT_size ei; simp only [maxLen]; omega)) ?_
 refine RW.g XK 24 [.o 1,.p,.e [3,8,9,10],.p] rfl rfl rfl ?_
 refine RW.v rfl (V.inc rfl rfl rfl hii hl0) ?_
 refine RW.g XK 24 [.o 1,.p] rfl rfl rfl ?_
 exact ⟨(i + 1, _), by simp only []; omega, ⟨by omega, by rw [shTs_snoc hei, ← hs]⟩, rfl, Le.c rfl <| Le.c rfl <| Le.c rfl <| Le.c rfl <| Le.e⟩
 have hii : l.length ≤ i := by have := h1; simp at this; first | exact this | omega | (simp; done) | (simp; omega)
 have hdi : l.drop i = [] := List.drop_eq_nil_of_le hii
 refine CW.exit ?_
 refine CW.g XK 24 [.e [3],.n 1,.e [2]] rfl rfl rfl ?_
 refine CW.ret ?_
 exact Post.one (RV.s rfl (by rw [hs, List.take_of_length_le hii])) (AOs.r AOs.e)
set_option maxHeartbeats 4000000 in
theorem impl_KeepText_fn (k : Keep) (hk : k = keepNew) : Eng.Fn E.P 24 [.agg ((Keep.c k).map .r)] (.tup [.one (.w (.v (.string kT))), .one (.w (.v (.bool true)))]) [.agg ((Keep.c k).map .r)] := by
 refine Eng.Fn.intro (E := E) (rvs := [.tmp 2, .tmp 3]) Tryz.func24 rfl rfl rfl (by simp [outSlots, moved, rvSlot, sl]) ?_
 intro B g bo
 refine CW.g XK 70 [.e [0]] rfl rfl rfl ?_
 have hs0 : k.sessions = [] := by rw [hk]; rfl
 have hsl : k.sessions.length = 0 := by rw [hk]; rfl
 have hil : k.items.length = 1 := by rw [hk]; rfl
 have hkk : keepOk k = true := by rw [hk]; exact keepNew_k
 refine CW.h XK 70 [.o 1] rfl ?_;(conv=>whnf);intro b1;(conv=>whnf);refine ⟨rfl,?_⟩
 refine RW.freezeB (ts := (Keep.c k)) 1 rfl (DRd.r (DRd.r DRd.e)) ?_
 refine RW.g XK 70 [.o 2,.p,.e [1],.o 1] rfl rfl rfl ?_
 refine RW.call rfl (impl_KeepOk_fn k (by rw [hk]; exact keepNew_to)) rfl (.cons (.agg (.cons (.r .r) (.cons (.r .r) (.nil)))) (.nil)) fun g2 => ?_
 refine RW.g XK 70 [.o 1,.p,.e [1,11]] rfl rfl rfl ?_
 refine CW.cond rfl (fun h3 => ?_) (fun h3 => ?_)
 exact absurd h3 (by rw [hkk]; simp)
 refine CW.g XK 70 [.p,.e [1],.o 3] rfl rfl rfl ?_
 refine RW.build1c (c := cI) (v := (k.sessions.length : Int)) (u := .v (.int .i64 (k.sessions.length : Int))) rfl rfl rfl rfl rfl rfl (.inl rfl) rfl rfl fun X4 => ?_
 refine RW.callOwn rfl (impl_varTexts_fn ([(k.sessions.length : Int)]) (Nat.le_of_ble_eq_true rfl)) rfl (.cons (.one (.r (.al (k := none) (i := 15) (sz := 1) (V := X4) rfl rfl nofun))) (.nil)) rfl fun g5 => ?_
 refine RW.g XK 70 [.o 1,.p,.e [1,4],.n 1,.e [1,4,18,19,20],.p] rfl rfl rfl ?_
 refine CW.loopI 70 (fun (i : Nat) => [(1, .rp (Keep.c k)), (4, S (varTs ([(k.sessions.length : Int)]))), (18, .r (sl 3 Session.c k.sessions)), (19, I (k.sessions.length : Int)), (20, I (i : Int))]) (fun (i : Nat) => i = 0) (fun (i : Nat) => 0) 0 rfl (Le.c rfl <| Le.c rfl <| Le.c rfl <| Le.c rfl <| Le.c rfl <| Le.e) rfl ?_
 rintro i hi0
 refine CW.g XK 70 [.n 1,.e [1,4,18,19,20,21],.p] rfl rfl rfl ?_
 refine CW.cond rfl (fun h6 => ?_) (fun h6 => ?_)
 exact absurd (of_decide_eq_true h6) (by rw [hs0]; show ¬ (i : Int) < ((0 : Nat) : Int); omega)
 refine CW.exit ?_
 refine CW.g XK 70 [.e [1,4],.o 4] rfl rfl rfl ?_
 refine RW.build1c (c := cI) (v := (k.items.length : Int)) (u := .v (.int .i64 (k.items.length : Int))) rfl rfl rfl rfl rfl rfl (.inl rfl) rfl rfl fun X7 => ?_
 refine RW.callOwn rfl (impl_varTexts_fn ([(k.items.length : Int)]) (Nat.le_of_ble_eq_true rfl)) rfl (.cons (.one (.r (.al (k := none) (i := 42) (sz := 1) (V := X7) rfl rfl nofun))) (.nil)) rfl fun g8 => ?_
 refine RW.v rfl (V.cat rfl rfl rfl q2) ?_
 refine RW.g XK 70 [.o 1,.p,.e [1,4],.n 1,.e [4,46,47,48],.p] rfl rfl rfl ?_
 refine CW.loopI 70 (fun (zz : Nat × ByteArray) => match zz with | (j, s) => [(4, S s), (46, .r (sl 3 Item.c k.items)), (47, I (k.items.length : Int)), (48, I (j : Int))]) (fun (zz : Nat × ByteArray) => match zz with | (j, s) => j ≤ 1 ∧ KtP j s) (fun (zz : Nat × ByteArray) => match zz with | (j, s) => 1 - j) (0, _) rfl (Le.c rfl <| Le.c rfl <| Le.c rfl <| Le.c rfl <| Le.e) ⟨by omega, .inl ⟨rfl, by rw [hk]; exact kT0_I⟩⟩ ?_
 rintro ⟨j, s⟩ ⟨hj1, hP⟩
 refine CW.g XK 70 [.n 1,.e [4,46,47,48,49],.p] rfl rfl rfl ?_
 refine CW.cond rfl (fun h9 => ?_) (fun h9 => ?_)
 have hlt := of_decide_eq_true h9
 obtain ⟨ej, hej⟩ : ∃ e, k.items[j]? = some e := ⟨_, List.getElem?_eq_getElem (by omega)⟩
 refine CW.g XK 70 [.p,.e [4,46,47,48],.p,.p,.p,.p] rfl rfl rfl ?_
 refine RW.v rfl (V.indexS rfl rfl rfl rfl rfl rfl Item.len hej) ?_
 refine RW.h XK 70 [.o 3] rfl ?_;(conv=>whnf);intro b10;(conv=>whnf);refine ⟨rfl,?_⟩
 refine RW.freezeB (ts := (Item.c ej)) 8 rfl (DRd.r (DRd.r (DRd.r DRd.e))) ?_
 refine RW.g XK 70 [.p,.e [4,8,46,47,48]] rfl rfl rfl ?_
 refine CW.anyR2 (fc := []) (L0 := [(46, .r (sl 3 Item.c k.items)), (47, I (k.items.length : Int)), (48, I (j : Int))]) 70 (fun (zz : Value × Value × (Nat → Nat → Value) × (Nat → Nat → Value)) => match zz with | (Xo11_5_1, Xo11_9_1, go11_10_1, go11_6_1) => [(4, S (s ++ ((shTs ([ej.key, ej.val] : List ByteArray)) ++ (varTs ([ej.ver])))))]) (fun all hall f hf b0 hb K hK => ?_) ?_
 have ro11_6 : ∀ B, ∀ (Xo11_5_1 : Value), ∀ (Xo11_9_1 : Value), ∀ (go11_10_1 : Nat → Nat → Value), ∀ (go11_6_1 : Nat → Nat → Value), RA f E B all 0 (bt 14 16383) ⟨70, [(4, S (s ++ ((shTs ([ej.key, ej.val] : List ByteArray)) ++ (varTs ([ej.ver])))))] ++ b0⟩ K := by
  intro B Xo11_5_1 Xo11_9_1 go11_10_1 go11_6_1
  exact RA.of2 hall hf hb (RA.finH (Tell.of rfl) (by kernel_rfl) (hK (Xo11_5_1, Xo11_9_1, go11_10_1, go11_6_1) _ rfl (Le.of rfl)))
 have ro11_5 : ∀ B, ∀ (Xo11_5_1 : Value), ∀ (Xo11_9_1 : Value), ∀ (go11_6_1 : Nat → Nat → Value), RA f E B all 4 (bt 14 1023) ⟨70, [(4, S s), (52, S s), (58, S (shTs ([ej.key, ej.val] : List ByteArray))), (61, .w (sl 1 cI ([ej.ver])) Xo11_9_1)] ++ b0⟩ K := by
  intro B Xo11_5_1 Xo11_9_1 go11_6_1
  refine RA.of2 hall hf hb (RA.stepH (L := [10]) (Tell.of rfl) (by kernel_rfl) (by simp) (RA.each ?_ (RA.each0)))
  refine RO.callOwn rfl rfl (impl_varTexts_fn ([ej.ver]) (Nat.le_of_ble_eq_true rfl)) rfl (.cons (.one (.r (.al (k := none) (i := 61) (sz := 1) (V := Xo11_9_1) rfl rfl nofun))) (.nil)) rfl rfl fun go11_10_1 => ?_
  refine RA.first (i := 11) (ls' := (bt 14 4095)) (Tell.of rfl) (by kernel_rfl) rfl rfl rfl (VF.p (V.cat rfl rfl rfl q2)) ?_
  refine RA.first (i := 12) (ls' := (bt 14 8191)) (Tell.of rfl) (by kernel_rfl) rfl rfl rfl (VF.p (V.cat rfl rfl rfl q2)) ?_
  refine RA.fr XK 70 0 [13] (bt 14 16383) rfl rfl (by kernel_rfl) (Tell.of rfl) ?_
  (conv=>whnf);refine ⟨rfl,fun B=>?_⟩
  exact RA.to2 hall hf hb (ro11_6 B Xo11_5_1 Xo11_9_1 go11_10_1 go11_6_1) rfl rfl (by kernel_rfl)
 have ro11_4 : ∀ B, ∀ (Xo11_5_1 : Value), ∀ (Xo11_9_1 : Value), RA f E B all 5 (bt 14 959) ⟨70, [(4, S s), (52, S s), (57, .w (sl 1 cS ([ej.key, ej.val] : List ByteArray)) Xo11_5_1), (61, .w (sl 1 cI ([ej.ver])) Xo11_9_1)] ++ b0⟩ K := by
  intro B Xo11_5_1 Xo11_9_1
  refine RA.of2 hall hf hb (RA.stepH (L := [6]) (Tell.of rfl) (by kernel_rfl) (by simp) (RA.each ?_ (RA.each0)))
  refine RO.callOwn rfl rfl (impl_shortTexts_fn ([ej.key, ej.val] : List ByteArray) (Nat.le_of_ble_eq_true rfl)) rfl (.cons (.one (.r (.al (k := none) (i := 57) (sz := 1) (V := Xo11_5_1) rfl rfl nofun))) (.nil)) rfl rfl fun go11_6_1 => ?_
  exact RA.to2 hall hf hb (ro11_5 B Xo11_5_1 Xo11_9_1 go11_6_1) rfl rfl (by kernel_rfl)
 have ro11_3 : ∀ B, ∀ (Xo11_5_1 : Value), ∀ (go11_6_1 : Nat → Nat → Value), RA f E B all 5 (bt 14 511) ⟨70, [(4, S s), (52, S s), (58, S (shTs ([ej.key, ej.val] : List ByteArray))), (60, I ej.ver)] ++ b0⟩ K := by
  intro B Xo11_5_1 go11_6_1
  refine RA.of2 hall hf hb (RA.stepH (L := [9]) (Tell.of rfl) (by kernel_rfl) (by simp) (RA.each ?_ (RA.each0)))
  refine RO.build1c (c := cI) (v := ej.ver) (u := .v (.int .i64 ej.ver)) rfl rfl rfl rfl rfl rfl rfl rfl (.inl rfl) rfl rfl fun Xo11_9_1 => ?_
  exact RA.to2 hall hf hb (ro11_5 B Xo11_5_1 Xo11_9_1 go11_6_1) rfl rfl (by kernel_rfl)
 have ro11_2 : ∀ B, ∀ (Xo11_9_1 : Value), RA f E B all 6 (bt 14 927) ⟨70, [(4, S s), (52, S s), (54, S ej.key), (56, S ej.val), (61, .w (sl 1 cI ([ej.ver])) Xo11_9_1)] ++ b0⟩ K := by
  intro B Xo11_9_1
  refine RA.of2 hall hf hb (RA.stepH (L := [5]) (Tell.of rfl) (by kernel_rfl) (by simp) (RA.each ?_ (RA.each0)))
  refine RO.buildV (c := cS) (L := [ej.key, ej.val]) (vs := [(.string ej.key), (.string ej.val)]) [.tmp 54, .tmp 56] rfl rfl rfl rfl rfl rfl rfl rfl rfl rfl rfl rfl (by decide) (by decide) rfl rfl fun Xo11_5_1 => ?_
  exact RA.to2 hall hf hb (ro11_4 B Xo11_5_1 Xo11_9_1) rfl rfl (by kernel_rfl)
 have ro11_1 : ∀ B, ∀ (Xo11_5_1 : Value), RA f E B all 6 (bt 14 447) ⟨70, [(4, S s), (52, S s), (57, .w (sl 1 cS ([ej.key, ej.val] : List ByteArray)) Xo11_5_1), (60, I ej.ver)] ++ b0⟩ K := by
  intro B Xo11_5_1
  refine RA.of2 hall hf hb (RA.stepH (L := [6, 9]) (Tell.of rfl) (by kernel_rfl) (by simp) (RA.each ?_ (RA.each ?_ (RA.each0))))
  refine RO.callOwn rfl rfl (impl_shortTexts_fn ([ej.key, ej.val] : List ByteArray) (Nat.le_of_ble_eq_true rfl)) rfl (.cons (.one (.r (.al (k := none) (i := 57) (sz := 1) (V := Xo11_5_1) rfl rfl nofun))) (.nil)) rfl rfl fun go11_6_1 => ?_
  exact RA.to2 hall hf hb (ro11_3 B Xo11_5_1 go11_6_1) rfl rfl (by kernel_rfl)
  refine RO.build1c (c := cI) (v := ej.ver) (u := .v (.int .i64 ej.ver)) rfl rfl rfl rfl rfl rfl rfl rfl (.inl rfl) rfl rfl fun Xo11_9_1 => ?_
  exact RA.to2 hall hf hb (ro11_4 B Xo11_5_1 Xo11_9_1) rfl rfl (by kernel_rfl)
 have ro11_0 : ∀ B, RA f E B all 7 (bt 14 415) ⟨70, [(4, S s), (52, S s), (54, S ej.key), (56, S ej.val), (60, I ej.ver)] ++ b0⟩ K := by
  intro B
  refine RA.of2 hall hf hb (RA.stepH (L := [5, 9]) (Tell.of rfl) (by kernel_rfl) (by simp) (RA.each ?_ (RA.each ?_ (RA.each0))))
  refine RO.buildV (c := cS) (L := [ej.key, ej.val]) (vs := [(.string ej.key), (.string ej.val)]) [.tmp 54, .tmp 56] rfl rfl rfl rfl rfl rfl rfl rfl rfl rfl rfl rfl (by decide) (by decide) rfl rfl fun Xo11_5_1 => ?_
  exact RA.to2 hall hf hb (ro11_1 B Xo11_5_1) rfl rfl (by kernel_rfl)
  refine RO.build1c (c := cI) (v := ej.ver) (u := .v (.int .i64 ej.ver)) rfl rfl rfl rfl rfl rfl rfl rfl (.inl rfl) rfl rfl fun Xo11_9_1 => ?_
  exact RA.to2 hall hf hb (ro11_2 B Xo11_9_1) rfl rfl (by kernel_rfl)
 refine RA.start (by kernel_rfl) (by kernel_rfl) (m := 14) (ls' := (bt 14 0)) ?_
 refine RA.fr XK 70 7 [0,1,2,3,4,7,8] (bt 14 415) rfl rfl (by kernel_rfl) (Tell.of rfl) ?_
 (conv=>whnf);refine ⟨rfl,fun B=>?_⟩
 exact RA.to2 hall hf hb (ro11_0 B) rfl rfl (by kernel_rfl)
 rintro ⟨Xo11_5_1, Xo11_9_1, go11_10_1, go11_6_1⟩
 refine CW.g XK 70 [.e [4,46,47,48],.p] rfl rfl rfl ?_
 refine RW.v rfl (V.inc rfl rfl rfl (show j < 1 by omega) (by simp only [maxLen]; omega)) ?_
 refine RW.g XK 70 [.o 1,.p] rfl rfl rfl ?_
 exact ⟨(j + 1, _), by simp only []; omega, ⟨by omega, hP.stepI (by rw [← hk]; exact hej)⟩, rfl, Le.c rfl <| Le.c rfl <| Le.c rfl <| Le.c rfl <| Le.e⟩
 have hge := of_decide_eq_false h9
 refine CW.exit ?_
 refine CW.g XK 70 [.e [4],.n 1,.e [4,68]] rfl rfl rfl ?_
 refine CW.cond rfl (fun h12 => ?_) (fun h12 => ?_)
 exact absurd (of_decide_eq_true h12) (by have h9 := hP.size; omega)
 refine CW.g XK 70 [.p,.e [4],.n 1,.e [2,3]] rfl rfl rfl ?_
 refine CW.ret ?_
 exact Post.tup (by decide) (RVs.c (RV.s rfl (by exact hP.fin (by omega))) (RVs.c (RV.b rfl (by rfl)) RVs.e)) (AOs.a rfl AOs.e)
set_option maxHeartbeats 4000000 in
theorem impl_ConfText_fn (a : List Int) (hm : a.length ≤ 1048576) : Eng.Fn E.P 87 [.one (.r (sl 1 cI a))] (.tup [.one (.w (.v (.string ((confText a).1)))), .one (.w (.v (.bool ((confText a).2))))]) [.one (.r (sl 1 cI a))] := by
 refine Eng.Fn.intro (E := E) (rvs := [.tmp 2, .tmp 3]) Tryz.func87 rfl rfl rfl (by simp [outSlots, moved, rvSlot, sl]) ?_
 intro B g bo
 refine CW.bound (x := .tmp 0) (n := a.length) (AsT.r) (fun hl0 => ?_)
 refine CW.g XK 9 [.e [0],.n 1,.e [0],.o 1] rfl rfl rfl ?_
 refine RW.call rfl (impl_ConfOk_fn a) rfl (.cons (.one (.r .r)) (.nil)) fun g1 => ?_
 refine RW.g XK 9 [.o 1,.p,.e [0,6]] rfl rfl rfl ?_
 refine CW.cond rfl (fun h2 => ?_) (fun h2 => ?_)
 have hno := nT h2
 refine CW.g XK 9 [.n 1,.e [2,3]] rfl rfl rfl ?_
 refine CW.ret ?_
 exact Post.tup (by decide) (RVs.c (RV.s rfl (by rw [confText, if_neg (by rw [hno]; simp)])) (RVs.c (RV.b rfl (by rw [confText, if_neg (by rw [hno]; simp)])) RVs.e)) (AOs.r AOs.e)
 have hyes := nF h2
 refine CW.g XK 9 [.p,.e [0],.o 1] rfl rfl rfl ?_
 refine RW.call rfl (impl_byteTexts_fn a hm) rfl (.cons (.one (.r .r)) (.nil)) fun g3 => ?_
 refine RW.g XK 9 [.o 2,.p,.e [2,3]] rfl rfl rfl ?_
 refine CW.ret ?_
 exact Post.tup (by decide) (RVs.c (RV.s rfl (by rw [confText, if_pos hyes]; rfl)) (RVs.c (RV.b rfl (by rw [confText, if_pos hyes])) RVs.e)) (AOs.r AOs.e)
set_option maxHeartbeats 4000000 in
theorem impl_highFirst_fn (n : Int) (k : Int) (hk : k = 4) : Eng.Fn E.P 161 [.one (.r (.v (.int .i64 n))), .one (.r (.v (.int .i64 k)))] (.one (.one (.w (.v (.string (bytesOf (hf4 n))))))) [.one (.r (.v (.int .i64 n))), .one (.r (.v (.int .i64 k)))] := by
 refine Eng.Fn.intro (E := E) (rvs := [.tmp 4]) Tryz.func161 rfl rfl rfl (by simp [outSlots, moved, rvSlot, sl]) ?_
 intro B g bo
 refine CW.g XK 25 [.e [0,1]] rfl rfl rfl ?_
 have hk2 : k = ((4 : Nat) : Int) := hk
 have hk3 : IntKind.i64.wrap (k - 1) = ((4 : Nat) : Int) - 1 := by rw [hk]; rfl
 refine CW.g XK 25 [.n 1,.e [0,1],.o 1] rfl rfl rfl ?_
 refine RW.makeS (n := 4) (c := cU) 0 rfl rfl rfl rfl rfl (congrArg (fun z : Int => D.r (.v (.int .i64 z))) hk2) (congrArg (fun z : Int => D.r (.v (.int .i64 z))) hk2) rfl (ZT.v ZT.e) (by show 1 * 4 ≤ 281474976710656; omega) (by simp only [maxLen]; omega) fun X1 => ?_
 refine RW.assignMove rfl rfl rfl (by decide) (Nat.le_of_ble_eq_true rfl) (Nat.le_of_ble_eq_true rfl) ?_
 refine RW.g XK 25 [.p,.e [0,1,5],.n 1,.e [0,5,6],.p] rfl rfl rfl ?_
 refine CW.loopI 25 (fun (zz : Nat × Int × List Int × Value) => match zz with | (j, m, l, X) => [(0, I m), (5, .w (sl 1 cU l) X), (6, I ((j : Int) - 1))]) (fun (zz : Nat × Int × List Int × Value) => match zz with | (j, m, l, X) => HfP n j m l) (fun (zz : Nat × Int × List Int × Value) => match zz with | (j, m, l, X) => j) (4, _, _, _) rfl (Le.c rfl <| Le.c rfl <| Le.c (congrArg I hk3) <| Le.e) (HfP.init n) ?_
 rintro ⟨j, m, l, X⟩ hP
 refine CW.g XK 25 [.n 1,.e [0,5,6,12]] rfl rfl rfl ?_
 refine CW.cond rfl (fun h2 => ?_) (fun h2 => ?_)
 have hge := of_decide_eq_true h2
 refine CW.g XK 25 [.p,.e [0,5,6],.o 5] rfl rfl rfl ?_
 refine RW.v rfl (V.indexWZ (m := (j - 1)) rfl rfl rfl rfl rfl rfl rfl (by omega) (by rw [hP.len]; have h9 := hP.j4; omega)) ?_
 refine RW.storeS1 (v := (IntKind.u8.wrap (andI m 255))) (c := cU) (u := .v (.int .u8 (IntKind.u8.wrap (andI m 255)))) rfl rfl rfl rfl rfl rfl rfl (.inl rfl) rfl cU.len (by rw [hP.len]; have h9 := hP.j4; omega) rfl ?_
 refine RW.g XK 25 [.p,.e [0,5,6],.o 3,.p,.e [0,5,6],.o 3,.p] rfl rfl rfl ?_
 exact ⟨(j - 1, _, _, _), by simp only []; omega, (hP.step (by omega)), rfl, Le.c rfl <| Le.c rfl <| Le.c (congrArg I (by have h9 := hP.j4; rw [wrap_small (by omega) (by omega)]; omega)) <| Le.e⟩
 have hge := of_decide_eq_false h2
 refine CW.exit ?_
 refine CW.g XK 25 [.e [5],.o 1] rfl rfl rfl ?_
 refine RW.v rfl (V.bytesStr (l := l) rfl rfl rfl (by kernel_rfl) (by kernel_rfl) (.al (k := none) (i := 5) (sz := 1) (V := X) rfl rfl nofun)) ?_
 refine RW.g XK 25 [.o 1,.p,.e [4]] rfl rfl rfl ?_
 refine CW.ret ?_
 exact Post.one (RV.s rfl (by rw [hP.fin (by omega)])) (AOs.r (AOs.r AOs.e))
set_option maxHeartbeats 4000000 in
theorem impl_Sealed_fn (t : ByteArray) : Eng.Fn E.P 89 [.one (.r (.v (.string t)))] (.tup [.one (.w (.v (.string ((sealT t).1)))), .one (.w (.v (.bool ((sealT t).2))))]) [.one (.r (.v (.string t)))] := by
 refine Eng.Fn.intro (E := E) (rvs := [.tmp 2, .tmp 3]) Tryz.func89 rfl rfl rfl (by simp [outSlots, moved, rvSlot, sl]) ?_
 intro B g bo
 refine CW.g XK 13 [.e [0],.n 1,.e [0],.n 1,.e [0,6]] rfl rfl rfl ?_
 refine CW.cond rfl (fun h1 => ?_) (fun h1 => ?_)
 have hgt : (t.size : Int) > 20000 := of_decide_eq_true h1
 refine CW.g XK 13 [.n 1,.e [2,3]] rfl rfl rfl ?_
 refine CW.ret ?_
 exact Post.tup (by decide) (RVs.c (RV.s rfl (by rw [sealT, if_pos hgt])) (RVs.c (RV.b rfl (by rw [sealT, if_pos hgt])) RVs.e)) (AOs.r AOs.e)
 have hgt : ¬ (t.size : Int) > 20000 := of_decide_eq_false h1
 refine CW.g XK 13 [.p,.e [0],.o 2] rfl rfl rfl ?_
 refine RW.call rfl (impl_SumOf_fn t (by simp only [maxLen]; omega)) rfl (.cons (.one (.r .r)) (.nil)) fun g2 => ?_
 refine RW.v rfl (V.convInt (k := .i64) (k' := .u32) rfl (by kernel_rfl) (by kernel_rfl) rfl) ?_
 refine RW.call rfl (impl_highFirst_fn (IntKind.i64.wrap (sumN 4294967295 t t.size)) 4 rfl) rfl (.cons (.one (.r .r)) (.cons (.one (.r .r)) (.nil))) fun g3 => ?_
 refine RW.v rfl (V.cat rfl rfl rfl (by rw [sum_hf]; have h9 := sumT_size t; simp only [maxLen]; omega)) ?_
 refine RW.g XK 13 [.o 2,.p,.e [2,3]] rfl rfl rfl ?_
 refine CW.ret ?_
 exact Post.tup (by decide) (RVs.c (RV.s rfl (by rw [sealT, if_neg hgt]; exact congrArg (t ++ ·) (sum_hf t))) (RVs.c (RV.b rfl (by rw [sealT, if_neg hgt])) RVs.e)) (AOs.r AOs.e)
set_option maxHeartbeats 4000000 in
theorem impl_SnapText_fn (s : Snap) (h0 : s.index = 0) (ht : s.term_ = 0) (hb : s.body = kT) (hm : s.conf.length ≤ 1048576) : Eng.Fn E.P 26 [.agg ((Snap.c s).map .r)] (.tup [.one (.w (.v (.string ((snT s.conf).1)))), .one (.w (.v (.bool ((snT s.conf).2))))]) [.agg ((Snap.c s).map .r)] := by
 refine Eng.Fn.intro (E := E) (rvs := [.tmp 2, .tmp 3]) Tryz.func26 rfl rfl rfl (by simp [outSlots, moved, rvSlot, sl]) ?_
 intro B g bo
 refine CW.g XK 63 [.e [0]] rfl rfl rfl ?_
 have e1 : s.index = 0 := h0
 have e2 : s.term_ = 0 := ht
 have e3 : s.body = kT := hb
 have hk1 := kT_size
 have hk2 := (confText_size (l := s.conf))
 refine CW.h XK 63 [.o 1] rfl ?_;(conv=>whnf);intro b1;(conv=>whnf);refine ⟨rfl,?_⟩
 refine RW.freezeB (ts := (Snap.c s)) 1 rfl (DRd.r (DRd.r (DRd.r (DRd.r DRd.e)))) ?_
 refine RW.g XK 63 [.o 2,.p,.e [1],.o 2] rfl rfl rfl ?_
 refine RW.call rfl (impl_ConfText_fn s.conf hm) rfl (.cons (.one (.r .r)) (.nil)) fun g2 => ?_
 refine RW.g XK 63 [.o 5,.p,.e [1,4,5],.o 2] rfl rfl rfl ?_
 refine RW.call rfl (impl_ShortText_fn s.body) rfl (.cons (.one (.r .r)) (.nil)) fun g3 => ?_
 refine RW.g XK 63 [.o 5,.p,.e [1,4,5,6,7],.p] rfl rfl rfl ?_
 refine CW.seqJ 63 (fun (v4 : Bool) => [(1, .rp (Snap.c s)), (4, S ((confText s.conf).1)), (6, S (shT s.body)), (38, Bo v4)]) (fun v4 => v4 = ((((!((confText s.conf).2)) || (!(decide ((s.body.size : Int) ≤ 20000)))) || (!(inR s.index 0 1000000))) || (!(inR s.term_ 0 100000)))) ?_ ?_
 refine CW.g XK 63 [.o 3] rfl rfl rfl ?_
 refine RW.gv rfl rfl rfl rfl (fun h5 => V.mv (d := Bo (decide ((s.body.size : Int) ≤ 20000))) rfl rfl) (fun h5 => ?_) (fun h5 => ?_)
 refine RW.g XK 63 [.o 3] rfl rfl rfl ?_
 refine RW.gv rfl rfl rfl rfl (fun h6 => V.fieldR rfl rfl rfl rfl (by decide) rfl (Nat.le_of_ble_eq_true rfl)) (fun h6 => ?_) (fun h6 => ?_)
 refine RW.g XK 63 [.o 1] rfl rfl rfl ?_
 refine RW.gcall rfl rfl rfl rfl (impl_isIndex_fn s.index) rfl (.cons (.one (.r .r)) (.nil)) fun g7 => ?_
 refine RW.g XK 63 [.o 3] rfl rfl rfl ?_
 refine RW.gv rfl rfl rfl rfl (fun h8 => V.fieldR rfl rfl rfl rfl (by decide) rfl (Nat.le_of_ble_eq_true rfl)) (fun h8 => ?_) (fun h8 => ?_)
 refine RW.g XK 63 [.o 1] rfl rfl rfl ?_
 refine RW.gcall rfl rfl rfl rfl (impl_isTerm_fn s.term_) rfl (.cons (.one (.r .r)) (.nil)) fun g9 => ?_
 refine RW.g XK 63 [.o 2,.p] rfl rfl rfl ?_
 exact ⟨_, by first | rfl | (simp_all; done) | (simp_all; omega) | grind, rfl, Le.of rfl⟩
 refine RW.g XK 63 [.o 4,.p] rfl rfl rfl ?_
 exact ⟨_, by first | rfl | (simp_all; done) | (simp_all; omega) | grind, rfl, Le.of rfl⟩
 refine RW.g XK 63 [.o 10,.p] rfl rfl rfl ?_
 exact ⟨_, by first | rfl | (simp_all; done) | (simp_all; omega) | grind, rfl, Le.of rfl⟩
 refine RW.g XK 63 [.o 14,.p] rfl rfl rfl ?_
 exact ⟨_, by first | rfl | (simp_all; done) | (simp_all; omega) | grind, rfl, Le.of rfl⟩
 intro v4 hv10
 refine CW.cond rfl (fun h11 => ?_) (fun h11 => ?_)
 have hvv := hv10.symm.trans h11
 refine CW.g XK 63 [.n 1,.e [2,3]] rfl rfl rfl ?_
 refine CW.ret ?_
 exact Post.tup (by decide) (RVs.c (RV.s rfl (by rw [snT_no (nT ((sn_gdI e1 e2 e3).symm.trans hvv))])) (RVs.c (RV.b rfl (by rw [snT_no (nT ((sn_gdI e1 e2 e3).symm.trans hvv))])) RVs.e)) (AOs.a rfl AOs.e)
 have hvv := hv10.symm.trans h11
 refine CW.g XK 63 [.p,.e [1,4,6],.o 4] rfl rfl rfl ?_
 refine RW.build2c (c := cI) (v1 := s.index) (v2 := s.term_) (u1 := .v (.int .i64 s.index)) (u2 := .v (.int .i64 s.term_)) rfl rfl rfl rfl rfl rfl (.inl rfl) rfl rfl (.inl rfl) rfl rfl fun X12 => ?_
 refine RW.callOwn rfl (impl_varTexts_fn ([s.index, s.term_]) (Nat.le_of_ble_eq_true rfl)) rfl (.cons (.one (.r (.al (k := none) (i := 44) (sz := 1) (V := X12) rfl rfl nofun))) (.nil)) rfl fun g13 => ?_
 refine RW.g XK 63 [.o 1] rfl rfl rfl ?_
 refine RW.build1c (c := cS) (v := ((confText s.conf).1)) (u := .v (.string ((confText s.conf).1))) rfl rfl rfl rfl rfl rfl (.inl rfl) rfl rfl fun X14 => ?_
 refine RW.callOwn rfl (impl_shortTexts_fn ([((confText s.conf).1)]) (Nat.le_of_ble_eq_true rfl)) rfl (.cons (.one (.r (.al (k := none) (i := 47) (sz := 1) (V := X14) rfl rfl nofun))) (.nil)) rfl fun g15 => ?_
 refine RW.v rfl (V.cat rfl rfl rfl (by have h7 := varTs_size [s.index, s.term_]; have h6 := shTs_size [(confText s.conf).1]; have h5 := shT_size s.body; simp only [List.length_cons, List.length_nil] at h7 h6; simp only [ByteArray.size_append, maxLen]; omega)) ?_
 refine RW.g XK 63 [.o 1] rfl rfl rfl ?_
 refine RW.v rfl (V.cat rfl rfl rfl (by have h7 := varTs_size [s.index, s.term_]; have h6 := shTs_size [(confText s.conf).1]; have h5 := shT_size s.body; simp only [List.length_cons, List.length_nil] at h7 h6; simp only [ByteArray.size_append, maxLen]; omega)) ?_
 refine RW.call rfl (impl_Sealed_fn (((varTs ([s.index, s.term_])) ++ (shTs ([((confText s.conf).1)]))) ++ (shT s.body))) rfl (.cons (.one (.r .r)) (.nil)) fun g16 => ?_
 refine RW.g XK 63 [.o 5,.p,.e [5,8],.p] rfl rfl rfl ?_
 refine CW.seqJ 63 (fun (v17 : Bool) => [(8, S ((sealT (((varTs ([s.index, s.term_])) ++ (shTs ([((confText s.conf).1)]))) ++ (shT s.body))).1)), (61, Bo v17)]) (fun v17 => v17 = ((!((sealT (((varTs ([s.index, s.term_])) ++ (shTs ([((confText s.conf).1)]))) ++ (shT s.body))).2)) || decide ((((sealT (((varTs ([s.index, s.term_])) ++ (shTs ([((confText s.conf).1)]))) ++ (shT s.body))).1).size : Int) > 20000))) ?_ ?_
 refine CW.g XK 63 [.o 3] rfl rfl rfl ?_
 refine RW.gv rfl rfl rfl rfl (fun h18 => V.mv (d := S ((sealT (((varTs ([s.index, s.term_])) ++ (shTs ([((confText s.conf).1)]))) ++ (shT s.body))).1)) rfl rfl) (fun h18 => ?_) (fun h18 => ?_)
 refine RW.g XK 63 [.o 3,.p] rfl rfl rfl ?_
 exact ⟨_, by first | rfl | (simp_all; done) | (simp_all; omega) | grind, rfl, Le.of rfl⟩
 refine RW.g XK 63 [.o 3,.p] rfl rfl rfl ?_
 exact ⟨_, by first | rfl | (simp_all; done) | (simp_all; omega) | grind, rfl, Le.of rfl⟩
 intro v17 hv19
 refine CW.cond rfl (fun h20 => ?_) (fun h20 => ?_)
 have hvv := hv19.symm.trans h20
 refine CW.g XK 63 [.n 1,.e [2,3]] rfl rfl rfl ?_
 refine CW.ret ?_
 exact Post.tup (by decide) (RVs.c (RV.s rfl (by exact absurd ((sn_gd2 e1 e2 e3).symm.trans hvv) (by simp))) (RVs.c (RV.b rfl (by exact absurd ((sn_gd2 e1 e2 e3).symm.trans hvv) (by simp))) RVs.e)) (AOs.a rfl AOs.e)
 have hvv := hv19.symm.trans h20
 refine CW.g XK 63 [.p,.e [8],.n 1,.e [2,3]] rfl rfl rfl ?_
 refine CW.ret ?_
 exact Post.tup (by decide) (RVs.c (RV.s rfl (by rw [snT_yes (nF ((sn_gdI e1 e2 e3).symm.trans (by assumption))), ← snBI_eq e1 e2 e3])) (RVs.c (RV.b rfl (by rw [snT_yes (nF ((sn_gdI e1 e2 e3).symm.trans (by assumption))), seal_go (by have h9 := snB_size s.conf; omega)])) RVs.e)) (AOs.a rfl AOs.e)
set_option maxHeartbeats 4000000 in
theorem impl_Decimal_fn (n : Int) (hn : okI n) : Eng.Fn E.P 90 [.one (.r (.v (.int .i64 n)))] (.one (.one (.w (.v (.string (itoaB n)))))) [.one (.r (.v (.int .i64 n)))] := by
 refine Eng.Fn.intro (E := E) (rvs := [.tmp 2]) Tryz.func90 rfl rfl rfl (by simp [outSlots, moved, rvSlot, sl]) ?_
 intro B g bo
 refine CW.g XK 5 [.e [0],.n 1,.e [0],.o 1] rfl rfl rfl ?_
 refine RW.call rfl (strconv_Itoa_fn n hn) rfl (.cons (.one (.r .r)) (.nil)) fun g1 => ?_
 refine RW.g XK 5 [.o 1,.p,.e [2]] rfl rfl rfl ?_
 refine CW.ret ?_
 exact Post.one (RV.s rfl (by rfl)) (AOs.r AOs.e)
set_option maxHeartbeats 4000000 in
theorem impl_JournalName_fn (n : Int) (hn : n = 0) : Eng.Fn E.P 27 [.one (.r (.v (.int .i64 n)))] (.one (.one (.w (.v (.string jN))))) [.one (.r (.v (.int .i64 n)))] := by
 refine Eng.Fn.intro (E := E) (rvs := [.tmp 2]) Tryz.func27 rfl rfl rfl (by simp [outSlots, moved, rvSlot, sl]) ?_
 intro B g bo
 refine CW.g XK 9 [.e [0],.n 1,.e [0],.o 1] rfl rfl rfl ?_
 refine RW.call rfl (impl_within_fn n 0 999) rfl (.cons (.one (.r .r)) (.cons (.one (.r .r)) (.cons (.one (.r .r)) (.nil)))) fun g1 => ?_
 refine RW.g XK 9 [.o 1,.p,.e [0,5]] rfl rfl rfl ?_
 refine CW.cond rfl (fun h2 => ?_) (fun h2 => ?_)
 exact absurd h2 (by rw [hn]; decide)
 refine CW.g XK 9 [.p,.e [0],.o 1] rfl rfl rfl ?_
 refine RW.call rfl (impl_Decimal_fn n (by rw [hn]; exact (rfl : (Lit.int .i64 0).wf = true))) rfl (.cons (.one (.r .r)) (.nil)) fun g3 => ?_
 refine RW.v rfl (V.cat rfl rfl rfl (by rw [hn]; have h9 : (itoaB 0).size = 1 := itoa0_size; simp only [maxLen, h9]; decide)) ?_
 refine RW.g XK 9 [.o 1,.p,.e [2]] rfl rfl rfl ?_
 refine CW.ret ?_
 exact Post.one (RV.s rfl (by rw [hn]; rfl)) (AOs.r AOs.e)
set_option maxHeartbeats 4000000 in
theorem impl_SnapName_fn (n : Int) (hn : n = 0) : Eng.Fn E.P 28 [.one (.r (.v (.int .i64 n)))] (.one (.one (.w (.v (.string sN))))) [.one (.r (.v (.int .i64 n)))] := by
 refine Eng.Fn.intro (E := E) (rvs := [.tmp 2]) Tryz.func28 rfl rfl rfl (by simp [outSlots, moved, rvSlot, sl]) ?_
 intro B g bo
 refine CW.g XK 9 [.e [0],.n 1,.e [0],.o 1] rfl rfl rfl ?_
 refine RW.call rfl (impl_isIndex_fn n) rfl (.cons (.one (.r .r)) (.nil)) fun g1 => ?_
 refine RW.g XK 9 [.o 1,.p,.e [0,5]] rfl rfl rfl ?_
 refine CW.cond rfl (fun h2 => ?_) (fun h2 => ?_)
 exact absurd h2 (by rw [hn]; decide)
 refine CW.g XK 9 [.p,.e [0],.o 1] rfl rfl rfl ?_
 refine RW.call rfl (impl_Decimal_fn n (by rw [hn]; exact (rfl : (Lit.int .i64 0).wf = true))) rfl (.cons (.one (.r .r)) (.nil)) fun g3 => ?_
 refine RW.v rfl (V.cat rfl rfl rfl (by rw [hn]; have h9 : (itoaB 0).size = 1 := itoa0_size; simp only [maxLen, h9]; decide)) ?_
 refine RW.g XK 9 [.o 1,.p,.e [2]] rfl rfl rfl ?_
 refine CW.ret ?_
 exact Post.one (RV.s rfl (by rw [hn]; rfl)) (AOs.r AOs.e)
set_option maxHeartbeats 4000000 in
theorem impl_FormatDisk_fn (a : List Int) (hm : a.length ≤ 1048576) : Eng.Fn E.P 7 [.one (.r (sl 1 cI a))] (.tup [.agg ((Disk.c (fdD a)).map .w), .one (.w (.v (.bool (confOk a))))]) [.one (.r (sl 1 cI a))] := by
 refine Eng.Fn.intro (E := E) (rvs := [.cell 2 28, .tmp 3]) Tryz.func7 rfl rfl rfl (by simp [outSlots, moved, rvSlot, sl]) ?_
 intro B g bo
 refine CW.bound (x := .tmp 0) (n := a.length) (AsT.r) (fun hl0 => ?_)
 refine CW.h XK 44 [.e [0],.n 1,.e [0,2],.o 1] rfl ?_;(conv=>whnf);intro b1;(conv=>whnf);refine ⟨rfl,?_⟩
 refine RW.call rfl (impl_JournalText_fn (⟨0, 0, 0, (⟨0, 0, []⟩ : Log)⟩ : Journal) rfl) rfl (.cons (.agg (.cons (.r .r) (.cons (.r .r) (.cons (.r .r) (.cons (.r .r) (.cons (.r .r) (.cons (.r .nil) (.nil)))))))) (.nil)) fun g2 => ?_
 refine RW.g XK 44 [.o 5,.p,.e [0,2,4],.p,.p] rfl rfl rfl ?_
 refine RW.call rfl (impl_KeepNew_fn ) rfl (.nil) fun g3 => ?_
 refine RW.callOwn rfl (impl_KeepText_fn keepNew rfl) rfl (.cons (.agg (.cons (.r (.ala (k := none) (i := 17) (j := 0) (sz := 3) (V := (g3 0 0)) rfl rfl rfl nofun)) (.cons (.r (.ala (k := none) (i := 17) (j := 1) (sz := 3) (V := (g3 0 1)) rfl rfl rfl nofun)) (.nil)))) (.nil)) rfl fun g4 => ?_
 refine RW.g XK 44 [.o 5,.p,.e [0,2,4,6],.o 3] rfl rfl rfl ?_
 refine RW.call rfl (impl_SnapText_fn (⟨0, 0, a, kT⟩ : Snap) rfl rfl rfl hm) rfl (.cons (.agg (.cons (.r .r) (.cons (.r .r) (.cons (.r .r) (.cons (.r .r) (.nil)))))) (.nil)) fun g5 => ?_
 refine RW.g XK 44 [.o 5,.p,.e [2,4,8,9],.n 1,.e [2,4,8,29]] rfl rfl rfl ?_
 refine CW.cond rfl (fun h6 => ?_) (fun h6 => ?_)
 have hno : confOk a = false := (snT_ok a).symm.trans (nT h6)
 refine CW.g XK 44 [.n 1,.e [2,3]] rfl rfl rfl ?_
 refine CW.ret ?_
 exact Post.tup (by decide) (RVs.c (RV.c (f := fun e => (Disk.c e).map .w) (e' := (⟨[]⟩ : Disk)) rfl rfl rfl rfl (DT.n DT.e) (by rw [fd_no hno])) (RVs.c (RV.b rfl (by rw [hno])) RVs.e)) (AOs.r AOs.e)
 have hyes : confOk a = true := (snT_ok a).symm.trans (nF h6)
 refine CW.g XK 44 [.p,.e [2,4,8],.p,.p] rfl rfl rfl ?_
 refine RW.call rfl (impl_JournalName_fn 0 rfl) rfl (.cons (.one (.r .r)) (.nil)) fun g7 => ?_
 refine RW.g XK 44 [.o 4] rfl rfl rfl ?_
 refine RW.call rfl (impl_SnapName_fn 0 rfl) rfl (.cons (.one (.r .r)) (.nil)) fun g8 => ?_
 refine RW.g XK 44 [.o 4] rfl rfl rfl ?_
 refine RW.buildG (c := File.c) (L := [(⟨jN, jT, (jT.size : Int)⟩ : File), (⟨sN, ((snT a).1), (((snT a).1).size : Int)⟩ : File)]) [.tmp 35, .tmp 40] [[S jN, S jT, I (jT.size : Int)], [S sN, S ((snT a).1), I (((snT a).1).size : Int)]] rfl rfl rfl rfl rfl rfl rfl ⟨(DW.v (DW.v (DW.v DW.e))), ⟨(DW.v (DW.v (DW.v DW.e))), trivial⟩⟩ rfl rfl File.len (by decide) (by decide) (by decide) fun X9 => ?_
 refine RW.assignMove rfl rfl rfl (by decide) (Nat.le_of_ble_eq_true rfl) (Nat.le_of_ble_eq_true rfl) ?_
 refine RW.g XK 44 [.p,.e [2,10],.o 3,.e [2,10]] rfl rfl rfl ?_
 refine RW.pullT (k := 2) (l := 10) (j := 0) 2 10 0 rfl rfl rfl (by decide) rfl rfl rfl ?_
 refine RW.g XK 44 [.e [2],.o 1,.p,.e [2,3]] rfl rfl rfl ?_
 refine CW.ret ?_
 exact Post.tup (by decide) (RVs.c (RV.c (f := fun e => (Disk.c e).map .w) (e' := (⟨([(⟨jN, jT, (jT.size : Int)⟩ : File), (⟨sN, ((snT a).1), (((snT a).1).size : Int)⟩ : File)] : List File)⟩ : Disk)) rfl rfl rfl rfl (DT.w DT.e) (by rw [fd_yes hyes])) (RVs.c (RV.b rfl (by rw [hyes])) RVs.e)) (AOs.r AOs.e)
set_option maxHeartbeats 4000000 in
theorem spec_l01In_fn (n : Int) (x : Int) (y : Int) : Eng.Fn E.P 29 [.one (.r (.v (.int .i64 n))), .one (.r (.v (.int .i64 x))), .one (.r (.v (.int .i64 y)))] (.one (.one (.w (.v (.bool (inR n x y)))))) [.one (.r (.v (.int .i64 n))), .one (.r (.v (.int .i64 x))), .one (.r (.v (.int .i64 y)))] := by
 refine Eng.Fn.intro (E := E) (rvs := [.tmp 6]) Tryz.func29 rfl rfl rfl (by simp [outSlots, moved, rvSlot, sl]) ?_
 intro B g bo
 refine CW.g XK 15 [.e [0,1,2],.n 1,.e [0,1,2]] rfl rfl rfl ?_
 refine CW.seqJ 15 (fun (v1 : Bool) => [(6, Bo v1)]) (fun v1 => v1 = (decide (n ≥ x) && decide (n ≤ y))) ?_ ?_
 refine CW.g XK 15 [.o 4] rfl rfl rfl ?_
 refine RW.gv rfl rfl rfl rfl (fun h2 => V.mv (d := I n) rfl rfl) (fun h2 => ?_) (fun h2 => ?_)
 refine RW.g XK 15 [.o 4,.p] rfl rfl rfl ?_
 exact ⟨_, by first | rfl | (simp_all; done) | (simp_all; omega) | grind, rfl, Le.of rfl⟩
 refine RW.g XK 15 [.o 4,.p] rfl rfl rfl ?_
 exact ⟨_, by first | rfl | (simp_all; done) | (simp_all; omega) | grind, rfl, Le.of rfl⟩
 intro v1 hv3
 refine CW.ret ?_
 exact Post.one (RV.b rfl (by simp_all [inR])) (AOs.r (AOs.r (AOs.r AOs.e)))
set_option maxHeartbeats 4000000 in
theorem spec_l05Rise_fn (a : List Int) (lo : Int) (hi : Int) : Eng.Fn E.P 30 [.one (.r (sl 1 cI a)), .one (.r (.v (.int .i64 lo))), .one (.r (.v (.int .i64 hi)))] (.one (.one (.w (.v (.bool (riseOk lo hi none a)))))) [.one (.r (sl 1 cI a)), .one (.r (.v (.int .i64 lo))), .one (.r (.v (.int .i64 hi)))] := by
 refine Eng.Fn.intro (E := E) (rvs := [.tmp 6]) Tryz.func30 rfl rfl rfl (by simp [outSlots, moved, rvSlot, sl]) ?_
 intro B g bo
 refine CW.bound (x := .tmp 0) (n := a.length) (AsT.r) (fun hl0 => ?_)
 refine CW.g XK 38 [.e [0,1,2],.n 1,.e [0,1,2],.n 1,.e [0,1,2,7],.p] rfl rfl rfl ?_
 refine CW.loopI 38 (fun (i : Nat) => [(0, .r (sl 1 cI a)), (1, I lo), (2, I hi), (7, I (i : Int))]) (fun (i : Nat) => i ≤ a.length ∧ riseOk lo hi (prevI a i) (a.drop i) = riseOk lo hi none a) (fun (i : Nat) => a.length - i) 0 rfl (Le.c rfl <| Le.c rfl <| Le.c rfl <| Le.c rfl <| Le.e) ⟨by omega, by simp [prevI]⟩ ?_
 rintro i ⟨hb, hr⟩
 refine CW.g XK 38 [.n 1,.e [0,1,2,7,11]] rfl rfl rfl ?_
 refine CW.cond rfl (fun h1 => ?_) (fun h1 => ?_)
 have hii : i < a.length := by have := h1; simp at this; first | exact this | omega | (simp; done) | (simp; omega)
 obtain ⟨ei, hei⟩ : ∃ e, a[i]? = some e := ⟨_, List.getElem?_eq_getElem hii⟩
 have hdi := drop_get hei
 refine CW.g XK 38 [.p,.e [0,1,2,7],.p,.p] rfl rfl rfl ?_
 refine CW.seqJ 38 (fun (v2 : Bool) => [(0, .r (sl 1 cI a)), (1, I lo), (2, I hi), (7, I (i : Int)), (37, Bo v2)]) (fun v2 => v2 = ((!(inR ei lo hi)) || (decide ((i : Int) > 0) && decide ((a.getD (i - 1) 0) ≥ ei)))) ?_ ?_
 refine CW.drawn (by kernel_rfl) ?_
 refine RQ.k XK 38 2 rfl ?_
 (conv=>whnf);refine ⟨rfl,?_⟩
 refine RQ.v rfl (V.indexS rfl rfl rfl rfl rfl rfl cI.len hei) ?_
 refine RQ.k XK 38 3 rfl ?_
 (conv=>whnf);refine ⟨rfl,?_⟩
 refine RQ.cons rfl (QOK.call (spec_l01In_fn ei lo hi) rfl (.cons (.one (.r .r)) (.cons (.one (.r .r)) (.cons (.one (.r .r)) (.nil)))) ?_)
 refine RQ.k XK 38 2 rfl ?_
 (conv=>whnf);refine ⟨rfl,?_⟩
 refine RQ.gv rfl rfl rfl rfl (fun h3 => V.mv (d := I (i : Int)) rfl rfl) (fun h3 => ?_) (fun h3 => ?_)
 refine RQ.k XK 38 2 rfl ?_
 (conv=>whnf);refine ⟨rfl,?_⟩
 refine RQ.gv rfl rfl rfl rfl (fun h4 => V.mv (d := .r (sl 1 cI a)) rfl rfl) (fun h4 => ?_) (fun h4 => ?_)
 refine RQ.k XK 38 1 rfl ?_
 (conv=>whnf);refine ⟨rfl,?_⟩
 refine RQ.gt rfl rfl rfl rfl (V.dec (m := i) rfl rfl rfl (by have := h4; simp at this; omega) (by omega)) ?_
 refine RQ.gt rfl rfl rfl rfl (V.indexS rfl rfl rfl rfl rfl rfl cI.len (getD_some (l := a) (j := i - 1) (z := 0) (by omega))) ?_
 refine RQ.k XK 38 3 rfl ?_
 (conv=>whnf);refine ⟨rfl,?_⟩
 refine RQ.gt rfl rfl rfl rfl (V.indexS rfl rfl rfl rfl rfl rfl cI.len hei) ?_
 refine RQ.k XK 38 4 rfl ?_
 (conv=>whnf);refine ⟨rfl,?_⟩
 refine RQ.nil ?_
 exact ⟨_, by first | rfl | (simp_all; done) | (simp_all; omega) | grind, rfl, Le.of rfl⟩
 refine RQ.k XK 38 11 rfl ?_
 (conv=>whnf);refine ⟨rfl,?_⟩
 refine RQ.nil ?_
 exact ⟨_, by first | rfl | (simp_all; done) | (simp_all; omega) | grind, rfl, Le.of rfl⟩
 refine RQ.k XK 38 14 rfl ?_
 (conv=>whnf);refine ⟨rfl,?_⟩
 refine RQ.nil ?_
 exact ⟨_, by first | rfl | (simp_all; done) | (simp_all; omega) | grind, rfl, Le.of rfl⟩
 intro v2 hv5
 refine CW.cond rfl (fun h6 => ?_) (fun h6 => ?_)
 refine CW.g XK 38 [.n 1,.e [6]] rfl rfl rfl ?_
 refine CW.ret ?_
 exact Post.one (RV.b rfl (by rw [← hr, hdi, riseOk_cons]; grind [prevI])) (AOs.r (AOs.r (AOs.r AOs.e)))
 refine CW.g XK 38 [.p,.e [0,1,2,7],.o 1] rfl rfl rfl ?_
 refine RW.v rfl (V.inc rfl rfl rfl hii hl0) ?_
 refine RW.g XK 38 [.o 1,.p] rfl rfl rfl ?_
 exact ⟨i + 1, by omega, ⟨by omega, by rw [← hr, hdi, riseOk_cons, prevI_succ hei]; grind [prevI]⟩, rfl, Le.c rfl <| Le.c rfl <| Le.c rfl <| Le.c rfl <| Le.e⟩
 have hii : a.length ≤ i := by have := h1; simp at this; first | exact this | omega | (simp; done) | (simp; omega)
 have hdi : a.drop i = [] := List.drop_eq_nil_of_le hii
 refine CW.exit ?_
 refine CW.g XK 38 [.e [],.n 1,.e [6]] rfl rfl rfl ?_
 refine CW.ret ?_
 exact Post.one (RV.b rfl (by rw [← hr, hdi, riseOk_nil])) (AOs.r (AOs.r (AOs.r AOs.e)))
set_option maxHeartbeats 4000000 in
theorem spec_ConfOk_fn (a : List Int) : Eng.Fn E.P 8 [.one (.r (sl 1 cI a))] (.one (.one (.w (.v (.bool (confOk a)))))) [.one (.r (sl 1 cI a))] := by
 refine Eng.Fn.intro (E := E) (rvs := [.tmp 2]) Tryz.func8 rfl rfl rfl (by simp [outSlots, moved, rvSlot, sl]) ?_
 intro B g bo
 refine CW.bound (x := .tmp 0) (n := a.length) (AsT.r) (fun hl0 => ?_)
 refine CW.g XK 10 [.e [0],.n 1,.e [0]] rfl rfl rfl ?_
 refine CW.seqJ 10 (fun (v1 : Bool) => [(2, Bo v1)]) (fun v1 => v1 = ((inR (a.length : Int) 1 4) && (riseOk 1 4 none a))) ?_ ?_
 refine CW.g XK 10 [.o 2] rfl rfl rfl ?_
 refine RW.call rfl (spec_l01In_fn (a.length : Int) 1 4) rfl (.cons (.one (.r .r)) (.cons (.one (.r .r)) (.cons (.one (.r .r)) (.nil)))) fun g2 => ?_
 refine RW.g XK 10 [.o 1] rfl rfl rfl ?_
 refine RW.gv rfl rfl rfl rfl (fun h3 => V.mv (d := .r (sl 1 cI a)) rfl rfl) (fun h3 => ?_) (fun h3 => ?_)
 refine RW.gcall rfl rfl rfl rfl (spec_l05Rise_fn a 1 4) rfl (.cons (.one (.r .r)) (.cons (.one (.r .r)) (.cons (.one (.r .r)) (.nil)))) fun g4 => ?_
 refine RW.g XK 10 [.o 2,.p] rfl rfl rfl ?_
 exact ⟨_, by first | rfl | (simp_all; done) | (simp_all; omega) | grind, rfl, Le.of rfl⟩
 refine RW.g XK 10 [.o 3,.p] rfl rfl rfl ?_
 exact ⟨_, by first | rfl | (simp_all; done) | (simp_all; omega) | grind, rfl, Le.of rfl⟩
 intro v1 hv5
 refine CW.ret ?_
 exact Post.one (RV.b rfl (by simp_all [confOk])) (AOs.r AOs.e)
set_option maxHeartbeats 4000000 in
theorem impl_DiskOk_fn (d : Disk) (hok : okToDisk d) : Eng.Fn E.P 91 [.agg ((Disk.c d).map .r)] (.one (.one (.w (.v (.bool (diskOk d)))))) [.agg ((Disk.c d).map .r)] := by
 refine Eng.Fn.intro (E := E) (rvs := [.tmp 2]) Tryz.func91 rfl rfl rfl (by simp [outSlots, moved, rvSlot, sl]) ?_
 intro B g bo
 refine CW.g XK 54 [.e [0]] rfl rfl rfl ?_
 have hl1 : d.files.length ≤ maxLen := by have := hok.1; simp only [maxLen]; omega
 refine CW.h XK 54 [.o 1] rfl ?_;(conv=>whnf);intro b1;(conv=>whnf);refine ⟨rfl,?_⟩
 refine RW.freezeB (ts := (Disk.c d)) 1 rfl (DRd.r DRd.e) ?_
 refine RW.g XK 54 [.o 1,.p,.e [1],.n 1,.e [1,6,7,8],.p] rfl rfl rfl ?_
 refine CW.loopI 54 (fun (i : Nat) => [(1, .rp (Disk.c d)), (6, .r (sl 3 File.c d.files)), (7, I (d.files.length : Int)), (8, I (i : Int))]) (fun (i : Nat) => i ≤ d.files.length ∧ fileF (prevO File.name File.z d.files i) (d.files.drop i) = fileF none d.files) (fun (i : Nat) => d.files.length - i) 0 rfl (Le.c rfl <| Le.c rfl <| Le.c rfl <| Le.c rfl <| Le.e) ⟨by omega, rfl⟩ ?_
 rintro i ⟨hb, hr⟩
 refine CW.g XK 54 [.n 1,.e [1,6,7,8,9],.p] rfl rfl rfl ?_
 refine CW.cond rfl (fun h2 => ?_) (fun h2 => ?_)
 have hii : i < d.files.length := by have := h2; simp at this; first | exact this | omega | (simp; done) | (simp; omega)
 obtain ⟨ei, hei⟩ : ∃ e, d.files[i]? = some e := ⟨_, List.getElem?_eq_getElem hii⟩
 have hdi := drop_get hei
 refine CW.g XK 54 [.p,.e [1,6,7,8],.o 1] rfl rfl rfl ?_
 refine RW.v rfl (V.indexS rfl rfl rfl rfl rfl rfl File.len hei) ?_
 refine RW.h XK 54 [.o 4] rfl ?_;(conv=>whnf);intro b3;(conv=>whnf);refine ⟨rfl,?_⟩
 refine RW.freezeB (ts := (File.c ei)) 4 rfl (DRd.r (DRd.r (DRd.r DRd.e))) ?_
 refine RW.g XK 54 [.p,.e [1,3,4,6,7,8]] rfl rfl rfl ?_
 refine CW.seqJ 54 (fun (v4 : Bool) => [(1, .rp (Disk.c d)), (6, .r (sl 3 File.c d.files)), (7, I (d.files.length : Int)), (8, I (i : Int)), (48, Bo v4)]) (fun v4 => v4 = ((((!(inR (ei.name.size : Int) 1 8)) || decide ((ei.text.size : Int) > 20000)) || (!(inR ei.kept 0 (ei.text.size : Int)))) || (decide ((i : Int) > 0) && (!(Op.bytesLess ((d.files.getD (i - 1) File.z).name).toList ei.name.toList))))) ?_ ?_
 refine CW.drawn (by kernel_rfl) ?_
 refine RQ.k XK 54 3 rfl ?_
 (conv=>whnf);refine ⟨rfl,?_⟩
 refine RQ.cons rfl (QOK.call (impl_within_fn (ei.name.size : Int) 1 8) rfl (.cons (.one (.r .r)) (.cons (.one (.r .r)) (.cons (.one (.r .r)) (.nil)))) ?_)
 refine RQ.k XK 54 2 rfl ?_
 (conv=>whnf);refine ⟨rfl,?_⟩
 refine RQ.gv rfl rfl rfl rfl (fun h5 => V.fieldR rfl rfl rfl rfl (by decide) rfl (Nat.le_of_ble_eq_true rfl)) (fun h5 => ?_) (fun h5 => ?_)
 refine RQ.k XK 54 5 rfl ?_
 (conv=>whnf);refine ⟨rfl,?_⟩
 refine RQ.gv rfl rfl rfl rfl (fun h6 => V.fieldR rfl rfl rfl rfl (by decide) rfl (Nat.le_of_ble_eq_true rfl)) (fun h6 => ?_) (fun h6 => ?_)
 refine RQ.k XK 54 4 rfl ?_
 (conv=>whnf);refine ⟨rfl,?_⟩
 refine RQ.guardT rfl rfl rfl rfl (QOK.call (impl_within_fn ei.kept 0 (ei.text.size : Int)) rfl (.cons (.one (.r .r)) (.cons (.one (.r .r)) (.cons (.one (.r .r)) (.nil)))) ?_)
 refine RQ.k XK 54 3 rfl ?_
 (conv=>whnf);refine ⟨rfl,?_⟩
 refine RQ.gv rfl rfl rfl rfl (fun h7 => V.mv (d := I (i : Int)) rfl rfl) (fun h7 => ?_) (fun h7 => ?_)
 refine RQ.k XK 54 2 rfl ?_
 (conv=>whnf);refine ⟨rfl,?_⟩
 refine RQ.gv rfl rfl rfl rfl (fun h8 => V.fieldR rfl rfl rfl rfl (by decide) rfl (Nat.le_of_ble_eq_true rfl)) (fun h8 => ?_) (fun h8 => ?_)
 refine RQ.k XK 54 2 rfl ?_
 (conv=>whnf);refine ⟨rfl,?_⟩
 refine RQ.gt rfl rfl rfl rfl (V.dec (m := i) rfl rfl rfl (by have := h8; simp at this; omega) (by omega)) ?_
 refine RQ.gt rfl rfl rfl rfl (V.indexS rfl rfl rfl rfl rfl rfl File.len (getD_some (l := d.files) (j := i - 1) (z := File.z) (by omega))) ?_
 refine RQ.k XK 54 7 rfl ?_
 (conv=>whnf);refine ⟨rfl,?_⟩
 refine RQ.nil ?_
 exact ⟨_, by (try clear hr hdi); first | rfl | (simp_all; done) | (simp_all; omega) | grind, rfl, Le.of rfl⟩
 refine RQ.k XK 54 11 rfl ?_
 (conv=>whnf);refine ⟨rfl,?_⟩
 refine RQ.nil ?_
 exact ⟨_, by (try clear hr hdi); first | rfl | (simp_all; done) | (simp_all; omega) | grind, rfl, Le.of rfl⟩
 refine RQ.k XK 54 14 rfl ?_
 (conv=>whnf);refine ⟨rfl,?_⟩
 refine RQ.nil ?_
 exact ⟨_, by (try clear hr hdi); first | rfl | (simp_all; done) | (simp_all; omega) | grind, rfl, Le.of rfl⟩
 refine RQ.k XK 54 23 rfl ?_
 (conv=>whnf);refine ⟨rfl,?_⟩
 refine RQ.nil ?_
 exact ⟨_, by (try clear hr hdi); first | rfl | (simp_all; done) | (simp_all; omega) | grind, rfl, Le.of rfl⟩
 refine RQ.k XK 54 29 rfl ?_
 (conv=>whnf);refine ⟨rfl,?_⟩
 refine RQ.nil ?_
 exact ⟨_, by (try clear hr hdi); first | rfl | (simp_all; done) | (simp_all; omega) | grind, rfl, Le.of rfl⟩
 intro v4 hv9
 refine CW.cond rfl (fun h10 => ?_) (fun h10 => ?_)
 refine CW.g XK 54 [.n 1,.e [2]] rfl rfl rfl ?_
 refine CW.ret ?_
 exact Post.one (RV.b rfl (by (have ht9 : fileF none d.files = false := (by rw [← hr, hdi, fileF]; first | (simp_all [fileOk, prevO, prevS]; done) | grind [fileOk, prevO, prevS])); simp [diskOk, ht9])) (AOs.a rfl AOs.e)
 refine CW.g XK 54 [.p,.e [1,6,7,8],.p] rfl rfl rfl ?_
 refine RW.v rfl (V.inc rfl rfl rfl hii hl1) ?_
 refine RW.g XK 54 [.o 1,.p] rfl rfl rfl ?_
 exact ⟨i + 1, by omega, ⟨by omega, by rw [← hr, hdi, fileF, prevO_succ hei]; first | (simp_all [fileOk, prevO, prevS]; done) | grind [fileOk, prevO, prevS]⟩, rfl, Le.c rfl <| Le.c rfl <| Le.c rfl <| Le.c rfl <| Le.e⟩
 have hii : d.files.length ≤ i := by have := h2; simp at this; first | exact this | omega | (simp; done) | (simp; omega)
 have hdi : d.files.drop i = [] := List.drop_eq_nil_of_le hii
 refine CW.exit ?_
 refine CW.g XK 54 [.e [1],.n 1,.e [2]] rfl rfl rfl ?_
 refine CW.ret ?_
 exact Post.one (RV.b rfl (by have hu : fileF none d.files = true := (by rw [← hr, hdi]; rfl); clear hr hdi; first | (simp_all [diskOk]; done) | (simp_all [diskOk]; omega) | grind [diskOk])) (AOs.a rfl AOs.e)
set_option maxHeartbeats 4000000 in
theorem impl_ReadDecimal_fn (t : ByteArray) (ht : t.size ≤ 1048576) : Eng.Fn E.P 164 [.one (.r (.v (.string t)))] (.tup [.one (.w (.v (.int .i64 ((rdDec t).1)))), .one (.w (.v (.bool ((rdDec t).2))))]) [.one (.r (.v (.string t)))] := by
 refine Eng.Fn.intro (E := E) (rvs := [.tmp 2, .tmp 3]) Tryz.func164 rfl rfl rfl (by simp [outSlots, moved, rvSlot, sl]) ?_
 intro B g bo
 refine CW.g XK 25 [.e [0],.n 1,.e [0],.o 1] rfl rfl rfl ?_
 refine RW.callX rfl (strconv_Atoi_fn t ht) rfl (.cons (.one (.r .r)) (.nil)) fun y1 g2 => ?_
 refine RW.g XK 25 [.o 5,.p,.e [0,4,5],.p] rfl rfl rfl ?_
 refine CW.seqJ 25 (fun (v3 : Bool) => [(4, I y1.v), (23, Bo v3)]) (fun v3 => v3 = (((!isNil y1.e) || (!(inR y1.v 0 1000000000))) || (!((itoaB y1.v).toList == t.toList)))) ?_ ?_
 refine CW.g XK 25 [.o 1] rfl rfl rfl ?_
 refine RW.v rfl (V.neNil rfl rfl (y1.in_) (by kernel_rfl)) ?_
 refine RW.g XK 25 [.o 1] rfl rfl rfl ?_
 refine RW.gv rfl rfl rfl rfl (fun h4 => V.mv (d := I y1.v) rfl rfl) (fun h4 => ?_) (fun h4 => ?_)
 refine RW.gcall rfl rfl rfl rfl (impl_within_fn y1.v 0 1000000000) rfl (.cons (.one (.r .r)) (.cons (.one (.r .r)) (.cons (.one (.r .r)) (.nil)))) fun g5 => ?_
 refine RW.g XK 25 [.o 3] rfl rfl rfl ?_
 refine RW.gv rfl rfl rfl rfl (fun h6 => V.mv (d := I y1.v) rfl rfl) (fun h6 => ?_) (fun h6 => ?_)
 refine RW.gcall rfl rfl rfl rfl (impl_Decimal_fn y1.v (by have h9 := inR_of (nF (b := inR _ 0 1000000000) (by assumption)); exact okI_of (by omega) (by omega))) rfl (.cons (.one (.r .r)) (.nil)) fun g7 => ?_
 refine RW.g XK 25 [.o 3,.p] rfl rfl rfl ?_
 exact ⟨_, by first | rfl | (simp_all; done) | (simp_all; omega) | grind, rfl, Le.of rfl⟩
 refine RW.g XK 25 [.o 4,.p] rfl rfl rfl ?_
 exact ⟨_, by first | rfl | (simp_all; done) | (simp_all; omega) | grind, rfl, Le.of rfl⟩
 refine RW.g XK 25 [.o 9,.p] rfl rfl rfl ?_
 exact ⟨_, by first | rfl | (simp_all; done) | (simp_all; omega) | grind, rfl, Le.of rfl⟩
 intro v3 hv8
 refine CW.cond rfl (fun h9 => ?_) (fun h9 => ?_)
 have hvv := hv8.symm.trans h9
 refine CW.g XK 25 [.n 1,.e [2,3]] rfl rfl rfl ?_
 refine CW.ret ?_
 exact Post.tup (by decide) (RVs.c (RV.i rfl (by rw [rda_no _ hvv])) (RVs.c (RV.b rfl (by rw [rda_no _ hvv])) RVs.e)) (AOs.r AOs.e)
 have hvv := hv8.symm.trans h9
 refine CW.g XK 25 [.p,.e [4],.n 1,.e [2,3]] rfl rfl rfl ?_
 refine CW.ret ?_
 exact Post.tup (by decide) (RVs.c (RV.i rfl (by rw [rda_yes _ hvv])) (RVs.c (RV.b rfl (by rw [rda_yes _ hvv])) RVs.e)) (AOs.r AOs.e)
set_option maxHeartbeats 4000000 in
theorem impl_numberOf_fn (t : ByteArray) (l : ByteArray) (m : Int) (ht : t.size ≤ 1048576) : Eng.Fn E.P 92 [.one (.r (.v (.string t))), .one (.r (.v (.string l))), .one (.r (.v (.int .i64 m)))] (.one (.one (.w (.v (.int .i64 (numOf t l m)))))) [.one (.r (.v (.string t))), .one (.r (.v (.string l))), .one (.r (.v (.int .i64 m)))] := by
 refine Eng.Fn.intro (E := E) (rvs := [.tmp 6]) Tryz.func92 rfl rfl rfl (by simp [outSlots, moved, rvSlot, sl]) ?_
 intro B g bo
 refine CW.g XK 32 [.e [0,1,2],.n 1,.e [0,1,2],.p] rfl rfl rfl ?_
 refine CW.seqJ 32 (fun (v1 : Bool) => [(0, S t), (2, I m), (17, Bo v1)]) (fun v1 => v1 = (decide ((t.size : Int) < 2) || (!((t.extract (0 : Int).toNat (1 : Int).toNat).toList == l.toList)))) ?_ ?_
 refine CW.g XK 32 [.o 4] rfl rfl rfl ?_
 refine RW.gv rfl rfl rfl rfl (fun h2 => V.mv (d := S t) rfl rfl) (fun h2 => ?_) (fun h2 => ?_)
 refine RW.gt rfl rfl rfl rfl (V.strSlice (l := 0) (h := 1) rfl (by kernel_rfl) rfl (.inl ⟨rfl, rfl⟩) (.inr ⟨_, _, rfl, rfl⟩) (by first | (have h9 := of_decide_eq_false h2; omega) | (have h9 := numOf_2 hv1; omega))) ?_
 refine RW.g XK 32 [.o 3,.p] rfl rfl rfl ?_
 exact ⟨_, by first | rfl | (simp_all; done) | (simp_all; omega) | grind, rfl, Le.of rfl⟩
 refine RW.g XK 32 [.o 4,.p] rfl rfl rfl ?_
 exact ⟨_, by first | rfl | (simp_all; done) | (simp_all; omega) | grind, rfl, Le.of rfl⟩
 intro v1 hv3
 refine CW.cond rfl (fun h4 => ?_) (fun h4 => ?_)
 have hv1 : (decide ((t.size : Int) < 2) || !((t.extract 0 1).toList == l.toList)) = true := hv3.symm.trans h4
 refine CW.g XK 32 [.n 1,.e [6]] rfl rfl rfl ?_
 refine CW.ret ?_
 exact Post.one (RV.i rfl (by rw [numOf, if_pos hv1])) (AOs.r (AOs.r (AOs.r AOs.e)))
 have hv1 : (decide ((t.size : Int) < 2) || !((t.extract 0 1).toList == l.toList)) = false := hv3.symm.trans h4
 refine CW.g XK 32 [.p,.e [0,2],.o 1] rfl rfl rfl ?_
 refine RW.v rfl (V.strSlice (l := 1) (h := (t.size : Int)) rfl (by kernel_rfl) rfl (.inr ⟨_, _, rfl, rfl⟩) (.inl ⟨rfl, rfl⟩) (by first | (have h9 := of_decide_eq_false h; omega) | (have h9 := numOf_2 hv1; omega))) ?_
 refine RW.call rfl (impl_ReadDecimal_fn (t.extract (1 : Int).toNat (t.size : Int).toNat) (by rw [ByteArray.size_extract]; omega)) rfl (.cons (.one (.r .r)) (.nil)) fun g5 => ?_
 refine RW.g XK 32 [.o 5,.p,.e [2,7,8],.p] rfl rfl rfl ?_
 refine CW.seqJ 32 (fun (v6 : Bool) => [(7, I ((rdDec (t.extract (1 : Int).toNat (t.size : Int).toNat)).1)), (30, Bo v6)]) (fun v6 => v6 = ((!((rdDec (t.extract (1 : Int).toNat (t.size : Int).toNat)).2)) || decide (((rdDec (t.extract (1 : Int).toNat (t.size : Int).toNat)).1) > m))) ?_ ?_
 refine CW.g XK 32 [.o 3] rfl rfl rfl ?_
 refine RW.gv rfl rfl rfl rfl (fun h7 => V.mv (d := I ((rdDec (t.extract (1 : Int).toNat (t.size : Int).toNat)).1)) rfl rfl) (fun h7 => ?_) (fun h7 => ?_)
 refine RW.g XK 32 [.o 3,.p] rfl rfl rfl ?_
 exact ⟨_, by first | rfl | (simp_all; done) | (simp_all; omega) | grind, rfl, Le.of rfl⟩
 refine RW.g XK 32 [.o 3,.p] rfl rfl rfl ?_
 exact ⟨_, by first | rfl | (simp_all; done) | (simp_all; omega) | grind, rfl, Le.of rfl⟩
 intro v6 hv8
 refine CW.cond rfl (fun h9 => ?_) (fun h9 => ?_)
 have hv2 : (!(rdDec (nmT t)).2 || decide ((rdDec (nmT t)).1 > m)) = true := hv8.symm.trans h9
 refine CW.g XK 32 [.n 1,.e [6]] rfl rfl rfl ?_
 refine CW.ret ?_
 exact Post.one (RV.i rfl (by rw [numOf, if_neg (by rw [hv1]; simp)]; exact (if_pos hv2).symm)) (AOs.r (AOs.r (AOs.r AOs.e)))
 have hv2 : (!(rdDec (nmT t)).2 || decide ((rdDec (nmT t)).1 > m)) = false := hv8.symm.trans h9
 refine CW.g XK 32 [.p,.e [7],.n 1,.e [6]] rfl rfl rfl ?_
 refine CW.ret ?_
 exact Post.one (RV.i rfl (by rw [numOf, if_neg (by rw [hv1]; simp)]; exact (if_neg (by rw [hv2]; simp)).symm)) (AOs.r (AOs.r (AOs.r AOs.e)))
set_option maxHeartbeats 4000000 in
theorem impl_Unsealed_fn (t : ByteArray) (ht : t.size ≤ 1048576) : Eng.Fn E.P 165 [.one (.r (.v (.string t)))] (.tup [.one (.w (.v (.string ((unsT t).1)))), .one (.w (.v (.bool ((unsT t).2))))]) [.one (.r (.v (.string t)))] := by
 refine Eng.Fn.intro (E := E) (rvs := [.tmp 2, .tmp 3]) Tryz.func165 rfl rfl rfl (by simp [outSlots, moved, rvSlot, sl]) ?_
 intro B g bo
 refine CW.g XK 29 [.e [0]] rfl rfl rfl ?_
 have hsz : IntKind.i64.wrap ((t.size : Int) - 4) = (t.size : Int) - 4 := by rw [IntKind.wrap_i64]; omega
 refine CW.g XK 29 [.n 2,.e [0,4],.n 1,.e [0,4,11]] rfl rfl rfl ?_
 refine CW.cond rfl (fun h1 => ?_) (fun h1 => ?_)
 have hlo := of_decide_eq_true h1
 refine CW.g XK 29 [.n 1,.e [2,3]] rfl rfl rfl ?_
 refine CW.ret ?_
 exact Post.tup (by decide) (RVs.c (RV.s rfl (by rw [uns_lo (by rw [hsz] at hlo; omega)])) (RVs.c (RV.b rfl (by rw [uns_lo (by rw [hsz] at hlo; omega)])) RVs.e)) (AOs.r AOs.e)
 have hlo := of_decide_eq_false h1
 have hg4 : 4 ≤ t.size := by rw [hsz] at hlo; omega
 refine CW.g XK 29 [.p,.e [0,4],.o 2] rfl rfl rfl ?_
 refine RW.v rfl (V.strSlice (l := 0) (h := (IntKind.i64.wrap ((t.size : Int) - 4))) rfl (by kernel_rfl) rfl (.inl ⟨rfl, rfl⟩) (.inr ⟨_, _, rfl, rfl⟩) (by rw [hsz]; omega)) ?_
 refine RW.call rfl (impl_Sealed_fn (t.extract (0 : Int).toNat (IntKind.i64.wrap ((t.size : Int) - 4)).toNat)) rfl (.cons (.one (.r .r)) (.nil)) fun g2 => ?_
 refine RW.g XK 29 [.o 5,.p,.e [0,4,5,6],.p] rfl rfl rfl ?_
 refine CW.seqJ 29 (fun (v3 : Bool) => [(0, S t), (4, I (IntKind.i64.wrap ((t.size : Int) - 4))), (25, Bo v3)]) (fun v3 => v3 = ((!((sealT (t.extract (0 : Int).toNat (IntKind.i64.wrap ((t.size : Int) - 4)).toNat)).2)) || (!(((sealT (t.extract (0 : Int).toNat (IntKind.i64.wrap ((t.size : Int) - 4)).toNat)).1).toList == t.toList)))) ?_ ?_
 refine CW.g XK 29 [.o 3] rfl rfl rfl ?_
 refine RW.gv rfl rfl rfl rfl (fun h4 => V.mv (d := S ((sealT (t.extract (0 : Int).toNat (IntKind.i64.wrap ((t.size : Int) - 4)).toNat)).1)) rfl rfl) (fun h4 => ?_) (fun h4 => ?_)
 refine RW.g XK 29 [.o 3,.p] rfl rfl rfl ?_
 exact ⟨_, by first | rfl | (simp_all; done) | (simp_all; omega) | grind, rfl, Le.of rfl⟩
 refine RW.g XK 29 [.o 3,.p] rfl rfl rfl ?_
 exact ⟨_, by first | rfl | (simp_all; done) | (simp_all; omega) | grind, rfl, Le.of rfl⟩
 intro v3 hv5
 refine CW.cond rfl (fun h6 => ?_) (fun h6 => ?_)
 have hvv := hv5.symm.trans h6
 refine CW.g XK 29 [.n 1,.e [2,3]] rfl rfl rfl ?_
 refine CW.ret ?_
 exact Post.tup (by decide) (RVs.c (RV.s rfl (by rw [uns_i hg4 hsz, if_pos hvv])) (RVs.c (RV.b rfl (by rw [uns_i hg4 hsz, if_pos hvv])) RVs.e)) (AOs.r AOs.e)
 have hvv := hv5.symm.trans h6
 refine CW.g XK 29 [.p,.e [0,4],.o 2] rfl rfl rfl ?_
 refine RW.v rfl (V.strSlice (l := 0) (h := (IntKind.i64.wrap ((t.size : Int) - 4))) rfl (by kernel_rfl) rfl (.inl ⟨rfl, rfl⟩) (.inr ⟨_, _, rfl, rfl⟩) (by rw [hsz]; omega)) ?_
 refine RW.g XK 29 [.o 2,.p,.e [2,3]] rfl rfl rfl ?_
 refine CW.ret ?_
 exact Post.tup (by decide) (RVs.c (RV.s rfl (by rw [uns_i hg4 hsz, if_neg (by rw [hvv]; simp)])) (RVs.c (RV.b rfl (by rw [uns_i hg4 hsz, if_neg (by rw [hvv]; simp)])) RVs.e)) (AOs.r AOs.e)
set_option maxHeartbeats 4000000 in
theorem impl_ReadVar_fn (t : ByteArray) (a : Int) (ht : t.size ≤ 1048576) : Eng.Fn E.P 167 [.one (.r (.v (.string t))), .one (.r (.v (.int .i64 a)))] (.tup [.one (.w (.v (.int .i64 ((rdVar t a).1)))), .one (.w (.v (.int .i64 ((rdVar t a).2.1)))), .one (.w (.v (.bool ((rdVar t a).2.2))))]) [.one (.r (.v (.string t))), .one (.r (.v (.int .i64 a)))] := by
 refine Eng.Fn.intro (E := E) (rvs := [.tmp 4, .tmp 5, .tmp 6]) Tryz.func167 rfl rfl rfl (by simp [outSlots, moved, rvSlot, sl]) ?_
 intro B g bo
 refine CW.g XK 57 [.e [0,1]] rfl rfl rfl ?_
 have hsz : t.size ≤ 4611686018427387904 := by omega
 refine CW.g XK 57 [.n 1,.e [0,1],.o 3] rfl rfl rfl ?_
 refine RW.call rfl (impl_within_fn a 0 (t.size : Int)) rfl (.cons (.one (.r .r)) (.cons (.one (.r .r)) (.cons (.one (.r .r)) (.nil)))) fun g1 => ?_
 refine RW.g XK 57 [.o 1,.p,.e [0,1,14]] rfl rfl rfl ?_
 refine CW.cond rfl (fun h2 => ?_) (fun h2 => ?_)
 refine CW.g XK 57 [.n 1,.e [4,5,6]] rfl rfl rfl ?_
 refine CW.ret ?_
 exact Post.tup (by decide) (RVs.c (RV.i rfl (by rw [rdVar_out (nT (by assumption))])) (RVs.c (RV.i rfl (by rw [rdVar_out (nT (by assumption))])) (RVs.c (RV.b rfl (by rw [rdVar_out (nT (by assumption))])) RVs.e))) (AOs.r (AOs.r AOs.e))
 have hin := nF h2
 refine CW.g XK 57 [.p,.e [0,1],.n 1,.e [0,1,7],.n 1,.e [0,1,7,8],.p] rfl rfl rfl ?_
 refine CW.loopI 57 (fun (zz : Nat × Int) => match zz with | (i, n) => [(0, S t), (1, I a), (7, I n), (8, I (i : Int))]) (fun (zz : Nat × Int) => match zz with | (i, n) => RvP t a i n) (fun (zz : Nat × Int) => match zz with | (i, n) => 5 - i) (0, 0) rfl (Le.c rfl <| Le.c rfl <| Le.c rfl <| Le.c rfl <| Le.e) (RvP.init hin hsz) ?_
 rintro ⟨i, n⟩ hP
 refine CW.g XK 57 [.p] rfl rfl rfl ?_
 refine CW.seqJ 57 (fun (v3 : Bool) => [(0, S t), (1, I a), (7, I n), (8, I (i : Int)), (24, Bo v3)]) (fun v3 => v3 = (decide ((i : Int) < 5) && decide ((IntKind.i64.wrap (a + (i : Int))) < (t.size : Int)))) ?_ ?_
 refine CW.g XK 57 [.o 3] rfl rfl rfl ?_
 refine RW.gv rfl rfl rfl rfl (fun h4 => V.mv (d := I a) rfl rfl) (fun h4 => ?_) (fun h4 => ?_)
 refine RW.g XK 57 [.o 6,.p] rfl rfl rfl ?_
 exact ⟨_, by first | rfl | (simp_all; done) | (simp_all; omega) | grind, rfl, Le.of rfl⟩
 refine RW.g XK 57 [.o 6,.p] rfl rfl rfl ?_
 exact ⟨_, by first | rfl | (simp_all; done) | (simp_all; omega) | grind, rfl, Le.of rfl⟩
 intro v3 hv5
 refine CW.cond rfl (fun h6 => ?_) (fun h6 => ?_)
 have hvv := hv5.symm.trans h6
 simp only [Bool.and_eq_true, decide_eq_true_eq] at hvv
 have h5 : i < 5 := by omega
 have hlt : a.toNat + i < t.size := hP.lt hvv.2
 obtain ⟨c, hb⟩ := hP.byte hlt
 refine CW.g XK 57 [.p,.e [0,1,7,8],.o 4] rfl rfl rfl ?_
 refine RW.v rfl (V.idxStrZ (m := (a.toNat + i)) rfl (by kernel_rfl) rfl rfl hP.ix hlt) ?_
 refine RW.g XK 57 [.o 2,.p,.e [0,1,7,8,9],.o 5] rfl rfl rfl ?_
 refine RW.v rfl (V.shl rfl rfl rfl (by rw [wrap_small (by omega) (by omega)]; omega)) ?_
 refine RW.g XK 57 [.o 2,.p,.e [0,1,7,8,9],.n 1,.e [0,1,7,8,9,41]] rfl rfl rfl ?_
 refine CW.cond rfl (fun h7 => ?_) (fun h7 => ?_)
 have hc : (c.toNat : Int) > 127 := by have h9 := of_decide_eq_true h7; rw [hb.wb] at h9; exact h9
 refine CW.exit ?_
 refine CW.g XK 57 [.e [0,1,7,8],.o 1] rfl rfl rfl ?_
 refine RW.v rfl (V.inc rfl rfl rfl h5 (by simp only [maxLen]; omega)) ?_
 refine RW.g XK 57 [.o 1,.p] rfl rfl rfl ?_
 exact ⟨(i + 1, (IntKind.i64.wrap (n + (shlI (Int.tmod (IntKind.i64.wrap (bat t (a.toNat + i))) 128) (IntKind.i64.wrap (7 * (i : Int))))))), by simp only []; omega, (hP.next hb h5 hlt hc (hP.nI hb h5)), rfl, Le.c rfl <| Le.c rfl <| Le.c rfl <| Le.c rfl <| Le.e⟩
 have hc : (c.toNat : Int) ≤ 127 := by have h9 := of_decide_eq_false h7; rw [hb.wb] at h9; omega
 refine CW.g XK 57 [.p,.e [1,7,8,9],.p] rfl rfl rfl ?_
 refine CW.seqJ 57 (fun (v8 : Bool) => [(1, I a), (7, I (IntKind.i64.wrap (n + (shlI (Int.tmod (IntKind.i64.wrap (bat t (a.toNat + i))) 128) (IntKind.i64.wrap (7 * (i : Int))))))), (8, I (i : Int)), (51, Bo v8)]) (fun v8 => v8 = ((decide ((i : Int) > 0) && ((IntKind.i64.wrap (bat t (a.toNat + i))) == 0)) || decide ((IntKind.i64.wrap (n + (shlI (Int.tmod (IntKind.i64.wrap (bat t (a.toNat + i))) 128) (IntKind.i64.wrap (7 * (i : Int)))))) > 1000000000))) ?_ ?_
 refine CW.g XK 57 [.o 3] rfl rfl rfl ?_
 refine RW.gv rfl rfl rfl rfl (fun h9 => V.mv (d := I (IntKind.i64.wrap (bat t (a.toNat + i)))) rfl rfl) (fun h9 => ?_) (fun h9 => ?_)
 refine RW.g XK 57 [.o 3] rfl rfl rfl ?_
 refine RW.gv rfl rfl rfl rfl (fun h10 => V.mv (d := I (IntKind.i64.wrap (n + (shlI (Int.tmod (IntKind.i64.wrap (bat t (a.toNat + i))) 128) (IntKind.i64.wrap (7 * (i : Int))))))) rfl rfl) (fun h10 => ?_) (fun h10 => ?_)
 refine RW.g XK 57 [.o 2,.p] rfl rfl rfl ?_
 exact ⟨_, by first | rfl | (simp_all; done) | (simp_all; omega) | grind, rfl, Le.of rfl⟩
 refine RW.g XK 57 [.o 2,.p] rfl rfl rfl ?_
 exact ⟨_, by first | rfl | (simp_all; done) | (simp_all; omega) | grind, rfl, Le.of rfl⟩
 refine RW.g XK 57 [.o 6,.p] rfl rfl rfl ?_
 exact ⟨_, by first | rfl | (simp_all; done) | (simp_all; omega) | grind, rfl, Le.of rfl⟩
 intro v8 hv11
 refine CW.cond rfl (fun h12 => ?_) (fun h12 => ?_)
 have hz := (hP.implT hb h5 hv11).1 h12
 refine CW.g XK 57 [.n 1,.e [4,5,6]] rfl rfl rfl ?_
 refine CW.ret ?_
 exact Post.tup (by decide) (RVs.c (RV.i rfl (by rw [hP.badZ hb h5 hc hz])) (RVs.c (RV.i rfl (by rw [hP.badZ hb h5 hc hz])) (RVs.c (RV.b rfl (by rw [hP.badZ hb h5 hc hz])) RVs.e))) (AOs.r (AOs.r AOs.e))
 have hz := (hP.implT hb h5 hv11).2 h12
 refine CW.g XK 57 [.p,.e [1,7,8],.n 1,.e [4,5,6]] rfl rfl rfl ?_
 refine CW.ret ?_
 exact Post.tup (by decide) (RVs.c (RV.i rfl (by rw [hP.goodZ hb h5 hc hz]; exact hP.nI hb h5)) (RVs.c (RV.i rfl (by rw [hP.goodZ hb h5 hc hz]; exact hP.nx)) (RVs.c (RV.b rfl (by rw [hP.goodZ hb h5 hc hz])) RVs.e))) (AOs.r (AOs.r AOs.e))
 have hen := hP.end_ (by have hvv := hv5.symm.trans h6; simp only [Bool.and_eq_false_iff, decide_eq_false_iff_not] at hvv; have h9 := hP.a0; have h8 := hP.sz; have h7 := hP.j5; rw [hP.ix] at hvv; omega)
 refine CW.exit ?_
 refine CW.g XK 57 [.e [],.n 1,.e [4,5,6]] rfl rfl rfl ?_
 refine CW.ret ?_
 exact Post.tup (by decide) (RVs.c (RV.i rfl (by rw [hen])) (RVs.c (RV.i rfl (by rw [hen])) (RVs.c (RV.b rfl (by rw [hen])) RVs.e))) (AOs.r (AOs.r AOs.e))
set_option maxHeartbeats 4000000 in
theorem __impl_scan__number_fn (s : scan) (hs : s.ok) : Eng.Fn E.P 95 [.ob ((scan.c s).map .r)] (.one (.one (.w (.v (.int .i64 (numV s)))))) [.ob ((scan.c (numS s)).map .r)] := by
 refine Eng.Fn.intro (E := E) (rvs := [.tmp 2]) Tryz.func95 rfl rfl rfl (by simp [outSlots, moved, rvSlot, sl]) ?_
 intro B g bo
 refine CW.g XK 35 [.e [0],.n 1,.e [0]] rfl rfl rfl ?_
 refine CW.anyJ2 (fc := [(0, (bo 0), [.string s.text, .int .i64 s.at_, .bool s.bad])]) (L0 := [(0, .obj (bo 0) ((scan.c s).map .r))]) 35 (fun (go1_8_1 : (Nat → Nat → Value)) => [(3, I ((rdVar s.text s.at_).1)), (4, I ((rdVar s.text s.at_).2.1)), (5, Bo ((rdVar s.text s.at_).2.2))]) (fun all hall f hf b0 hb K hK => ?_) ?_
 have ro1_9 : ∀ B, ∀ (go1_8_1 : Nat → Nat → Value), RA f E B all 0 (bt 16 65535) ⟨35, [(3, I ((rdVar s.text s.at_).1)), (4, I ((rdVar s.text s.at_).2.1)), (5, Bo ((rdVar s.text s.at_).2.2))] ++ b0⟩ K := by
  intro B go1_8_1
  exact RA.of2 hall hf hb (RA.finH (Tell.of rfl) (by kernel_rfl) (hK go1_8_1 _ rfl (Le.of rfl)))
 have ro1_8 : ∀ B, ∀ (go1_8_1 : Nat → Nat → Value), RA f E B all 2 (bt 16 28671) ⟨35, [(3, I ((rdVar s.text s.at_).1)), (4, I ((rdVar s.text s.at_).2.1)), (6, .tup [.u, .u, Bo ((rdVar s.text s.at_).2.2)])] ++ b0⟩ K := by
  intro B go1_8_1
  refine RA.of2 hall hf hb (RA.stepH (L := [12]) (Tell.of rfl) (by kernel_rfl) (by simp) (RA.each ?_ (RA.each0)))
  refine RO.extract (d := Bo ((rdVar s.text s.at_).2.2)) rfl rfl rfl rfl rfl (by decide) (Nat.le_of_ble_eq_true rfl) rfl rfl ?_
  refine RA.fr XK 35 0 [15] (bt 16 65535) rfl rfl (by kernel_rfl) (Tell.of rfl) ?_
  (conv=>whnf);refine ⟨rfl,fun B=>?_⟩
  exact RA.to2 hall hf hb (ro1_9 B go1_8_1) rfl rfl (by kernel_rfl)
 have ro1_7 : ∀ B, ∀ (go1_8_1 : Nat → Nat → Value), RA f E B all 3 (bt 16 14335) ⟨35, [(3, I ((rdVar s.text s.at_).1)), (6, .tup [.u, I ((rdVar s.text s.at_).2.1), .u]), (18, Bo ((rdVar s.text s.at_).2.2))] ++ b0⟩ K := by
  intro B go1_8_1
  refine RA.of2 hall hf hb (RA.stepH (L := [11]) (Tell.of rfl) (by kernel_rfl) (by simp) (RA.each ?_ (RA.each0)))
  refine RO.extract (d := I ((rdVar s.text s.at_).2.1)) rfl rfl rfl rfl rfl (by decide) (Nat.le_of_ble_eq_true rfl) rfl rfl ?_
  refine RA.fr XK 35 0 [14,15] (bt 16 65535) rfl rfl (by kernel_rfl) (Tell.of rfl) ?_
  (conv=>whnf);refine ⟨rfl,fun B=>?_⟩
  exact RA.to2 hall hf hb (ro1_9 B go1_8_1) rfl rfl (by kernel_rfl)
 have ro1_6 : ∀ B, ∀ (go1_8_1 : Nat → Nat → Value), RA f E B all 4 (bt 16 7167) ⟨35, [(6, .tup [I ((rdVar s.text s.at_).1), .u, .u]), (17, I ((rdVar s.text s.at_).2.1)), (18, Bo ((rdVar s.text s.at_).2.2))] ++ b0⟩ K := by
  intro B go1_8_1
  refine RA.of2 hall hf hb (RA.stepH (L := [10]) (Tell.of rfl) (by kernel_rfl) (by simp) (RA.each ?_ (RA.each0)))
  refine RO.extract (d := I ((rdVar s.text s.at_).1)) rfl rfl rfl rfl rfl (by decide) (Nat.le_of_ble_eq_true rfl) rfl rfl ?_
  refine RA.fr XK 35 0 [13,14,15] (bt 16 65535) rfl rfl (by kernel_rfl) (Tell.of rfl) ?_
  (conv=>whnf);refine ⟨rfl,fun B=>?_⟩
  exact RA.to2 hall hf hb (ro1_9 B go1_8_1) rfl rfl (by kernel_rfl)
 have ro1_5 : ∀ B, ∀ (go1_8_1 : Nat → Nat → Value), RA f E B all 4 (bt 16 10239) ⟨35, [(3, I ((rdVar s.text s.at_).1)), (6, .tup [.u, I ((rdVar s.text s.at_).2.1), Bo ((rdVar s.text s.at_).2.2)])] ++ b0⟩ K := by
  intro B go1_8_1
  refine RA.of2 hall hf hb (RA.stepH (L := [11, 12]) (Tell.of rfl) (by kernel_rfl) (by simp) (RA.each ?_ (RA.each ?_ (RA.each0))))
  refine RO.extract (d := I ((rdVar s.text s.at_).2.1)) rfl rfl rfl rfl rfl (by decide) (Nat.le_of_ble_eq_true rfl) rfl rfl ?_
  refine RA.fr XK 35 2 [14] (bt 16 28671) rfl rfl (by kernel_rfl) (Tell.of rfl) ?_
  (conv=>whnf);refine ⟨rfl,fun B=>?_⟩
  exact RA.to2 hall hf hb (ro1_8 B go1_8_1) rfl rfl (by kernel_rfl)
  refine RO.extract (d := Bo ((rdVar s.text s.at_).2.2)) rfl rfl rfl rfl rfl (by decide) (Nat.le_of_ble_eq_true rfl) rfl rfl ?_
  exact RA.to2 hall hf hb (ro1_7 B go1_8_1) rfl rfl (by kernel_rfl)
 have ro1_4 : ∀ B, ∀ (go1_8_1 : Nat → Nat → Value), RA f E B all 5 (bt 16 5119) ⟨35, [(6, .tup [I ((rdVar s.text s.at_).1), I ((rdVar s.text s.at_).2.1), .u]), (18, Bo ((rdVar s.text s.at_).2.2))] ++ b0⟩ K := by
  intro B go1_8_1
  refine RA.of2 hall hf hb (RA.stepH (L := [10, 11]) (Tell.of rfl) (by kernel_rfl) (by simp) (RA.each ?_ (RA.each ?_ (RA.each0))))
  refine RO.extract (d := I ((rdVar s.text s.at_).1)) rfl rfl rfl rfl rfl (by decide) (Nat.le_of_ble_eq_true rfl) rfl rfl ?_
  refine RA.fr XK 35 3 [13] (bt 16 14335) rfl rfl (by kernel_rfl) (Tell.of rfl) ?_
  (conv=>whnf);refine ⟨rfl,fun B=>?_⟩
  exact RA.to2 hall hf hb (ro1_7 B go1_8_1) rfl rfl (by kernel_rfl)
  refine RO.extract (d := I ((rdVar s.text s.at_).2.1)) rfl rfl rfl rfl rfl (by decide) (Nat.le_of_ble_eq_true rfl) rfl rfl ?_
  exact RA.to2 hall hf hb (ro1_6 B go1_8_1) rfl rfl (by kernel_rfl)
 have ro1_3 : ∀ B, ∀ (go1_8_1 : Nat → Nat → Value), RA f E B all 5 (bt 16 3071) ⟨35, [(6, .tup [I ((rdVar s.text s.at_).1), .u, Bo ((rdVar s.text s.at_).2.2)]), (17, I ((rdVar s.text s.at_).2.1))] ++ b0⟩ K := by
  intro B go1_8_1
  refine RA.of2 hall hf hb (RA.stepH (L := [10, 12]) (Tell.of rfl) (by kernel_rfl) (by simp) (RA.each ?_ (RA.each ?_ (RA.each0))))
  refine RO.extract (d := I ((rdVar s.text s.at_).1)) rfl rfl rfl rfl rfl (by decide) (Nat.le_of_ble_eq_true rfl) rfl rfl ?_
  refine RA.fr XK 35 2 [13,14] (bt 16 28671) rfl rfl (by kernel_rfl) (Tell.of rfl) ?_
  (conv=>whnf);refine ⟨rfl,fun B=>?_⟩
  exact RA.to2 hall hf hb (ro1_8 B go1_8_1) rfl rfl (by kernel_rfl)
  refine RO.extract (d := Bo ((rdVar s.text s.at_).2.2)) rfl rfl rfl rfl rfl (by decide) (Nat.le_of_ble_eq_true rfl) rfl rfl ?_
  exact RA.to2 hall hf hb (ro1_6 B go1_8_1) rfl rfl (by kernel_rfl)
 have ro1_2 : ∀ B, ∀ (go1_8_1 : Nat → Nat → Value), RA f E B all 6 (bt 16 1023) ⟨35, [(6, .tup [I ((rdVar s.text s.at_).1), I ((rdVar s.text s.at_).2.1), Bo ((rdVar s.text s.at_).2.2)])] ++ b0⟩ K := by
  intro B go1_8_1
  refine RA.of2 hall hf hb (RA.stepH (L := [10, 11, 12]) (Tell.of rfl) (by kernel_rfl) (by simp) (RA.each ?_ (RA.each ?_ (RA.each ?_ (RA.each0)))))
  refine RO.extract (d := I ((rdVar s.text s.at_).1)) rfl rfl rfl rfl rfl (by decide) (Nat.le_of_ble_eq_true rfl) rfl rfl ?_
  refine RA.fr XK 35 4 [13] (bt 16 10239) rfl rfl (by kernel_rfl) (Tell.of rfl) ?_
  (conv=>whnf);refine ⟨rfl,fun B=>?_⟩
  exact RA.to2 hall hf hb (ro1_5 B go1_8_1) rfl rfl (by kernel_rfl)
  refine RO.extract (d := I ((rdVar s.text s.at_).2.1)) rfl rfl rfl rfl rfl (by decide) (Nat.le_of_ble_eq_true rfl) rfl rfl ?_
  exact RA.to2 hall hf hb (ro1_3 B go1_8_1) rfl rfl (by kernel_rfl)
  refine RO.extract (d := Bo ((rdVar s.text s.at_).2.2)) rfl rfl rfl rfl rfl (by decide) (Nat.le_of_ble_eq_true rfl) rfl rfl ?_
  exact RA.to2 hall hf hb (ro1_4 B go1_8_1) rfl rfl (by kernel_rfl)
 have ro1_1 : ∀ B, ∀ (go1_8_1 : Nat → Nat → Value), RA f E B all 7 (bt 16 511) ⟨35, [(15, .tup [I ((rdVar s.text s.at_).1), I ((rdVar s.text s.at_).2.1), Bo ((rdVar s.text s.at_).2.2)])] ++ b0⟩ K := by
  intro B go1_8_1
  refine RA.of2 hall hf hb (RA.stepH (L := [9]) (Tell.of rfl) (by kernel_rfl) (by simp) (RA.each ?_ (RA.each0)))
  refine RO.moveMove rfl rfl rfl rfl rfl (by decide) (Nat.le_of_ble_eq_true rfl) (Nat.le_of_ble_eq_true rfl) ?_
  exact RA.to2 hall hf hb (ro1_2 B go1_8_1) rfl rfl (by kernel_rfl)
 have ro1_0 : ∀ B, RA f E B all 8 (bt 16 255) ⟨35, [(10, S s.text), (14, I s.at_)] ++ b0⟩ K := by
  intro B
  refine RA.of2 hall hf hb (RA.stepH (L := [8]) (Tell.of rfl) (by kernel_rfl) (by simp) (RA.each ?_ (RA.each0)))
  refine RO.call rfl rfl (impl_ReadVar_fn s.text s.at_ hs.2.2) rfl (.cons (.one (.r .r)) (.cons (.one (.r .r)) (.nil))) rfl fun go1_8_1 => ?_
  exact RA.to2 hall hf hb (ro1_1 B go1_8_1) rfl rfl (by kernel_rfl)
 refine RA.start (by kernel_rfl) (by kernel_rfl) (m := 16) (ls' := (bt 16 0)) ?_
 refine RA.fr XK 35 8 [0,1,2,3,4,5,6,7] (bt 16 255) rfl rfl (by kernel_rfl) (Tell.of rfl) ?_
 (conv=>whnf);refine ⟨rfl,fun B=>?_⟩
 exact RA.to2 hall hf hb (ro1_0 B) rfl rfl (by kernel_rfl)
 rintro go1_8_1
 refine CW.g XK 35 [.p] rfl rfl rfl ?_
 refine CW.seqJ 35 (fun (v2 : Bool) => [(0, .obj (bo 0) ((scan.c s).map .r)), (3, I ((rdVar s.text s.at_).1)), (4, I ((rdVar s.text s.at_).2.1)), (26, Bo v2)]) (fun v2 => v2 = (s.bad || (!((rdVar s.text s.at_).2.2)))) ?_ ?_
 refine CW.g XK 35 [.o 5] rfl rfl rfl ?_
 refine RW.gv rfl rfl rfl rfl (fun h3 => V.mv (d := Bo ((rdVar s.text s.at_).2.2)) rfl rfl) (fun h3 => ?_) (fun h3 => ?_)
 refine RW.g XK 35 [.o 2,.p] rfl rfl rfl ?_
 exact ⟨_, by first | rfl | (simp_all; done) | (simp_all; omega) | grind, rfl, Le.of rfl⟩
 refine RW.g XK 35 [.o 2,.p] rfl rfl rfl ?_
 exact ⟨_, by first | rfl | (simp_all; done) | (simp_all; omega) | grind, rfl, Le.of rfl⟩
 intro v2 hv4
 refine CW.cond rfl (fun h5 => ?_) (fun h5 => ?_)
 have hvv := hv4.symm.trans h5
 refine CW.g XK 35 [.n 2,.e [0,2]] rfl rfl rfl ?_
 refine CW.ret ?_
 exact Post.one (RV.i rfl (by simp only [numV]; rw [scNum, if_pos hvv])) (AOs.obE (f := fun e => (scan.c e).map .r) (e' := (⟨s.text, s.at_, true⟩ : scan)) rfl (DT.r (DT.r (DT.r DT.e))) (by simp only [numS]; rw [scNum, if_pos hvv]) AOs.e)
 have hvv := hv4.symm.trans h5
 refine CW.g XK 35 [.p,.e [0,3,4],.n 2,.e [0,2]] rfl rfl rfl ?_
 refine CW.ret ?_
 exact Post.one (RV.i rfl (by simp only [numV]; rw [scNum, if_neg (by rw [hvv]; simp)])) (AOs.obE (f := fun e => (scan.c e).map .r) (e' := (⟨s.text, ((rdVar s.text s.at_).2.1), s.bad⟩ : scan)) rfl (DT.r (DT.r (DT.r DT.e))) (by simp only [numS]; rw [scNum, if_neg (by rw [hvv]; simp), (Bool.or_eq_false_iff.1 hvv).1]) AOs.e)
set_option maxHeartbeats 4000000 in
theorem impl_ReadShort_fn (t : ByteArray) (a : Int) (ht : t.size ≤ 1048576) : Eng.Fn E.P 168 [.one (.r (.v (.string t))), .one (.r (.v (.int .i64 a)))] (.tup [.one (.w (.v (.string ((rdShort t a).1)))), .one (.w (.v (.int .i64 ((rdShort t a).2.1)))), .one (.w (.v (.bool ((rdShort t a).2.2))))]) [.one (.r (.v (.string t))), .one (.r (.v (.int .i64 a)))] := by
 refine Eng.Fn.intro (E := E) (rvs := [.tmp 4, .tmp 5, .tmp 6]) Tryz.func168 rfl rfl rfl (by simp [outSlots, moved, rvSlot, sl]) ?_
 intro B g bo
 refine CW.g XK 40 [.e [0,1],.n 1,.e [0,1],.o 2] rfl rfl rfl ?_
 refine RW.call rfl (impl_ReadVar_fn t a ht) rfl (.cons (.one (.r .r)) (.cons (.one (.r .r)) (.nil))) fun g1 => ?_
 refine RW.g XK 40 [.o 7,.p,.e [0,7,8,9],.p] rfl rfl rfl ?_
 refine CW.seqJ 40 (fun (v2 : Bool) => [(0, S t), (7, I ((rdVar t a).1)), (8, I ((rdVar t a).2.1)), (30, Bo v2)]) (fun v2 => v2 = (((!((rdVar t a).2.2)) || decide (((rdVar t a).1) > 20000)) || decide (((rdVar t a).1) > (IntKind.i64.wrap ((t.size : Int) - ((rdVar t a).2.1)))))) ?_ ?_
 refine CW.g XK 40 [.o 3] rfl rfl rfl ?_
 refine RW.gv rfl rfl rfl rfl (fun h3 => V.mv (d := I ((rdVar t a).1)) rfl rfl) (fun h3 => ?_) (fun h3 => ?_)
 refine RW.g XK 40 [.o 3] rfl rfl rfl ?_
 refine RW.gv rfl rfl rfl rfl (fun h4 => V.mv (d := I ((rdVar t a).1)) rfl rfl) (fun h4 => ?_) (fun h4 => ?_)
 refine RW.g XK 40 [.o 6,.p] rfl rfl rfl ?_
 exact ⟨_, by first | rfl | (simp_all; done) | (simp_all; omega) | grind, rfl, Le.of rfl⟩
 refine RW.g XK 40 [.o 6,.p] rfl rfl rfl ?_
 exact ⟨_, by first | rfl | (simp_all; done) | (simp_all; omega) | grind, rfl, Le.of rfl⟩
 refine RW.g XK 40 [.o 10,.p] rfl rfl rfl ?_
 exact ⟨_, by first | rfl | (simp_all; done) | (simp_all; omega) | grind, rfl, Le.of rfl⟩
 intro v2 hv5
 refine CW.cond rfl (fun h6 => ?_) (fun h6 => ?_)
 have hvv := hv5.symm.trans h6
 refine CW.g XK 40 [.n 1,.e [4,5,6]] rfl rfl rfl ?_
 refine CW.ret ?_
 exact Post.tup (by decide) (RVs.c (RV.s rfl (by rw [rdS_no hvv ht])) (RVs.c (RV.i rfl (by rw [rdS_no hvv ht])) (RVs.c (RV.b rfl (by rw [rdS_no hvv ht])) RVs.e))) (AOs.r (AOs.r AOs.e))
 have hvv := hv5.symm.trans h6
 refine CW.g XK 40 [.p,.e [0,7,8],.o 5] rfl rfl rfl ?_
 refine RW.v rfl (V.strSlice (l := ((rdVar t a).2.1)) (h := (IntKind.i64.wrap (((rdVar t a).2.1) + ((rdVar t a).1)))) rfl (by kernel_rfl) rfl (.inr ⟨_, _, rfl, rfl⟩) (.inr ⟨_, _, rfl, rfl⟩) (rdS_yes hvv ht).2) ?_
 refine RW.g XK 40 [.o 6,.p,.e [4,5,6]] rfl rfl rfl ?_
 refine CW.ret ?_
 exact Post.tup (by decide) (RVs.c (RV.s rfl (by rw [(rdS_yes hvv ht).1])) (RVs.c (RV.i rfl (by rw [(rdS_yes hvv ht).1])) (RVs.c (RV.b rfl (by rw [(rdS_yes hvv ht).1])) RVs.e))) (AOs.r (AOs.r AOs.e))
end Go.Proofs.YtaneihnomaagoaaGreatDoor.Y
