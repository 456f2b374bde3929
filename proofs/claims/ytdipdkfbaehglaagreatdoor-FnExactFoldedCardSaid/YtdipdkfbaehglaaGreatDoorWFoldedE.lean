import Derived.Test.YtdipdkfbaehglaaGreatDoorWFoldedD
namespace Go.Proofs.YtdipdkfbaehglaaGreatDoor.Y
open Go Go.RowKit Go.Eng Go.Proofs
set_option maxRecDepth 10000
set_option maxHeartbeats 4000000 in
theorem spec_l15Sessions_fn (a : List Session) : Eng.Fn E.P 105 [.one (.r (sl 3 Session.c a))] (.one (.one (.w (.v (.bool (sessF none a && decide ((a.length : Int) ≤ 3))))))) [.one (.r (sl 3 Session.c a))] := by
 refine Eng.Fn.intro (E := E) (rvs := [.tmp 2]) Tryz.func105 rfl rfl rfl (by simp [outSlots, moved, rvSlot, sl]) ?_
 intro B g bo
 refine CW.bound (x := .tmp 0) (n := a.length) (AsT.r) (fun hl0 => ?_)
 refine CW.g XK 59 [.e [0],.n 1,.e [0],.n 1,.e [0,3],.p] rfl rfl rfl ?_
 refine CW.loopI 59 (fun (i : Nat) => [(0, .r (sl 3 Session.c a)), (3, I (i : Int))]) (fun (i : Nat) => i ≤ a.length ∧ sessF (prevO Session.token Session.z a i) (a.drop i) = sessF none a) (fun (i : Nat) => a.length - i) 0 rfl (Le.c rfl <| Le.c rfl <| Le.e) ⟨by omega, rfl⟩ ?_
 rintro i ⟨hb, hr⟩
 refine CW.g XK 59 [.n 1,.e [0,3,8]] rfl rfl rfl ?_
 refine CW.cond rfl (fun h1 => ?_) (fun h1 => ?_)
 have hii : i < a.length := by have := h1; simp at this; first | exact this | omega | (simp; done) | (simp; omega)
 obtain ⟨ei, hei⟩ : ∃ e, a[i]? = some e := ⟨_, List.getElem?_eq_getElem hii⟩
 have hdi := drop_get hei
 refine CW.g XK 59 [.p,.e [0,3],.o 2] rfl rfl rfl ?_
 refine RW.v rfl (V.indexS rfl rfl rfl rfl rfl rfl Session.len hei) ?_
 refine RW.h XK 59 [.o 3] rfl ?_;(conv=>whnf);intro b2;(conv=>whnf);refine ⟨rfl,?_⟩
 refine RW.freezeB (ts := (Session.c ei)) 4 rfl (DRd.r (DRd.r (DRd.r DRd.e))) ?_
 refine RW.g XK 59 [.p,.e [0,3,4]] rfl rfl rfl ?_
 refine CW.seqJ 59 (fun (v3 : Bool) => [(0, .r (sl 3 Session.c a)), (3, I (i : Int)), (55, Bo v3)]) (fun v3 => v3 = (((((!(inR ei.token 1 1000000)) || (decide ((i : Int) > 0) && decide ((a.getD (i - 1) Session.z).token ≥ ei.token))) || (!(inR ei.last 0 1000000))) || decide ((ei.reply.size : Int) > 40)) || ((ei.last == 0) && (!(ei.reply.toList == (⟨#[]⟩ : ByteArray).toList))))) ?_ ?_
 refine CW.drawn (by kernel_rfl) ?_
 refine RQ.k XK 59 2 rfl ?_
 (conv=>whnf);refine ⟨rfl,?_⟩
 refine RQ.cons rfl (QOK.call (spec_l01In_fn ei.token 1 1000000) rfl (.cons (.one (.r .r)) (.cons (.one (.r .r)) (.cons (.one (.r .r)) (.nil)))) ?_)
 refine RQ.k XK 59 2 rfl ?_
 (conv=>whnf);refine ⟨rfl,?_⟩
 refine RQ.gv rfl rfl rfl rfl (fun h4 => V.mv (d := I (i : Int)) rfl rfl) (fun h4 => ?_) (fun h4 => ?_)
 refine RQ.k XK 59 2 rfl ?_
 (conv=>whnf);refine ⟨rfl,?_⟩
 refine RQ.gv rfl rfl rfl rfl (fun h5 => V.mv (d := .r (sl 3 Session.c a)) rfl rfl) (fun h5 => ?_) (fun h5 => ?_)
 refine RQ.k XK 59 1 rfl ?_
 (conv=>whnf);refine ⟨rfl,?_⟩
 refine RQ.gt rfl rfl rfl rfl (V.dec (m := i) rfl rfl rfl (by have := h5; simp at this; omega) (by omega)) ?_
 refine RQ.gt rfl rfl rfl rfl (V.indexS rfl rfl rfl rfl rfl rfl Session.len (getD_some (l := a) (j := i - 1) (z := Session.z) (by omega))) ?_
 refine RQ.k XK 59 8 rfl ?_
 (conv=>whnf);refine ⟨rfl,?_⟩
 refine RQ.gv rfl rfl rfl rfl (fun h6 => V.fieldR rfl rfl rfl rfl (by decide) rfl (Nat.le_of_ble_eq_true rfl)) (fun h6 => ?_) (fun h6 => ?_)
 refine RQ.k XK 59 1 rfl ?_
 (conv=>whnf);refine ⟨rfl,?_⟩
 refine RQ.guardT rfl rfl rfl rfl (QOK.call (spec_l01In_fn ei.last 0 1000000) rfl (.cons (.one (.r .r)) (.cons (.one (.r .r)) (.cons (.one (.r .r)) (.nil)))) ?_)
 refine RQ.k XK 59 3 rfl ?_
 (conv=>whnf);refine ⟨rfl,?_⟩
 refine RQ.gv rfl rfl rfl rfl (fun h7 => V.fieldR rfl rfl rfl rfl (by decide) rfl (Nat.le_of_ble_eq_true rfl)) (fun h7 => ?_) (fun h7 => ?_)
 refine RQ.k XK 59 5 rfl ?_
 (conv=>whnf);refine ⟨rfl,?_⟩
 refine RQ.gv rfl rfl rfl rfl (fun h8 => V.fieldR rfl rfl rfl rfl (by decide) rfl (Nat.le_of_ble_eq_true rfl)) (fun h8 => ?_) (fun h8 => ?_)
 refine RQ.k XK 59 3 rfl ?_
 (conv=>whnf);refine ⟨rfl,?_⟩
 refine RQ.gv rfl rfl rfl rfl (fun h9 => V.fieldR rfl rfl rfl rfl (by decide) rfl (Nat.le_of_ble_eq_true rfl)) (fun h9 => ?_) (fun h9 => ?_)
 refine RQ.k XK 59 4 rfl ?_
 (conv=>whnf);refine ⟨rfl,?_⟩
 refine RQ.nil ?_
 exact ⟨_, by (try clear hr hdi); first | rfl | (simp_all; done) | (simp_all; omega) | grind, rfl, Le.of rfl⟩
 refine RQ.k XK 59 4 rfl ?_
 (conv=>whnf);refine ⟨rfl,?_⟩
 refine RQ.nil ?_
 exact ⟨_, by (try clear hr hdi); first | rfl | (simp_all; done) | (simp_all; omega) | grind, rfl, Le.of rfl⟩
 refine RQ.k XK 59 8 rfl ?_
 (conv=>whnf);refine ⟨rfl,?_⟩
 refine RQ.nil ?_
 exact ⟨_, by (try clear hr hdi); first | rfl | (simp_all; done) | (simp_all; omega) | grind, rfl, Le.of rfl⟩
 refine RQ.k XK 59 14 rfl ?_
 (conv=>whnf);refine ⟨rfl,?_⟩
 refine RQ.nil ?_
 exact ⟨_, by (try clear hr hdi); first | rfl | (simp_all; done) | (simp_all; omega) | grind, rfl, Le.of rfl⟩
 refine RQ.k XK 59 20 rfl ?_
 (conv=>whnf);refine ⟨rfl,?_⟩
 refine RQ.nil ?_
 exact ⟨_, by (try clear hr hdi); first | rfl | (simp_all; done) | (simp_all; omega) | grind, rfl, Le.of rfl⟩
 refine RQ.k XK 59 13 rfl ?_
 (conv=>whnf);refine ⟨rfl,?_⟩
 refine RQ.guardT rfl rfl rfl rfl (QOK.call (spec_l01In_fn ei.last 0 1000000) rfl (.cons (.one (.r .r)) (.cons (.one (.r .r)) (.cons (.one (.r .r)) (.nil)))) ?_)
 refine RQ.k XK 59 3 rfl ?_
 (conv=>whnf);refine ⟨rfl,?_⟩
 refine RQ.gv rfl rfl rfl rfl (fun h10 => V.fieldR rfl rfl rfl rfl (by decide) rfl (Nat.le_of_ble_eq_true rfl)) (fun h10 => ?_) (fun h10 => ?_)
 refine RQ.k XK 59 5 rfl ?_
 (conv=>whnf);refine ⟨rfl,?_⟩
 refine RQ.gv rfl rfl rfl rfl (fun h11 => V.fieldR rfl rfl rfl rfl (by decide) rfl (Nat.le_of_ble_eq_true rfl)) (fun h11 => ?_) (fun h11 => ?_)
 refine RQ.k XK 59 3 rfl ?_
 (conv=>whnf);refine ⟨rfl,?_⟩
 refine RQ.gv rfl rfl rfl rfl (fun h12 => V.fieldR rfl rfl rfl rfl (by decide) rfl (Nat.le_of_ble_eq_true rfl)) (fun h12 => ?_) (fun h12 => ?_)
 refine RQ.k XK 59 4 rfl ?_
 (conv=>whnf);refine ⟨rfl,?_⟩
 refine RQ.nil ?_
 exact ⟨_, by (try clear hr hdi); first | rfl | (simp_all; done) | (simp_all; omega) | grind, rfl, Le.of rfl⟩
 refine RQ.k XK 59 4 rfl ?_
 (conv=>whnf);refine ⟨rfl,?_⟩
 refine RQ.nil ?_
 exact ⟨_, by (try clear hr hdi); first | rfl | (simp_all; done) | (simp_all; omega) | grind, rfl, Le.of rfl⟩
 refine RQ.k XK 59 8 rfl ?_
 (conv=>whnf);refine ⟨rfl,?_⟩
 refine RQ.nil ?_
 exact ⟨_, by (try clear hr hdi); first | rfl | (simp_all; done) | (simp_all; omega) | grind, rfl, Le.of rfl⟩
 refine RQ.k XK 59 14 rfl ?_
 (conv=>whnf);refine ⟨rfl,?_⟩
 refine RQ.nil ?_
 exact ⟨_, by (try clear hr hdi); first | rfl | (simp_all; done) | (simp_all; omega) | grind, rfl, Le.of rfl⟩
 refine RQ.k XK 59 35 rfl ?_
 (conv=>whnf);refine ⟨rfl,?_⟩
 refine RQ.nil ?_
 exact ⟨_, by (try clear hr hdi); first | rfl | (simp_all; done) | (simp_all; omega) | grind, rfl, Le.of rfl⟩
 intro v3 hv13
 refine CW.cond rfl (fun h14 => ?_) (fun h14 => ?_)
 refine CW.g XK 59 [.n 1,.e [2]] rfl rfl rfl ?_
 refine CW.ret ?_
 exact Post.one (RV.b rfl (by have ht : sessF none a = false := q29; simp [ht])) (AOs.r AOs.e)
 refine CW.g XK 59 [.p,.e [0,3],.o 1] rfl rfl rfl ?_
 refine RW.v rfl (V.inc rfl rfl rfl hii hl0) ?_
 refine RW.g XK 59 [.o 1,.p] rfl rfl rfl ?_
 exact ⟨i + 1, by omega, ⟨by omega, by rw [← hr, hdi, sessF, prevO_succ hei]; first | (simp_all [sessOk, emp, prevO, prevGe]; done) | grind [sessOk, emp, prevO, prevGe]⟩, rfl, Le.c rfl <| Le.c rfl <| Le.e⟩
 have hii : a.length ≤ i := by have := h1; simp at this; first | exact this | omega | (simp; done) | (simp; omega)
 have hdi : a.drop i = [] := List.drop_eq_nil_of_le hii
 refine CW.exit ?_
 refine CW.g XK 59 [.e [0],.n 1,.e [2]] rfl rfl rfl ?_
 refine CW.ret ?_
 exact Post.one (RV.b rfl (by have ht : sessF none a = true := (by rw [← hr, hdi]; rfl); simp [ht])) (AOs.r AOs.e)
set_option maxHeartbeats 4000000 in
theorem spec_KeepOk_fn (k : Keep) (hok : okToKeep k) : Eng.Fn E.P 67 [.agg ((Keep.c k).map .r)] (.one (.one (.w (.v (.bool (keepOk k)))))) [.agg ((Keep.c k).map .r)] := by
 refine Eng.Fn.intro (E := E) (rvs := [.tmp 2]) Tryz.func67 rfl rfl rfl (by simp [outSlots, moved, rvSlot, sl]) ?_
 intro B g bo
 refine CW.g XK 59 [.e [0]] rfl rfl rfl ?_
 have hl1 : k.sessions.length ≤ maxLen := by have := hok.1.1; simp only [maxLen]; omega
 have hl2 : k.items.length ≤ maxLen := by have := hok.2.1; simp only [maxLen]; omega
 refine CW.h XK 59 [.o 1] rfl ?_;(conv=>whnf);intro b1;(conv=>whnf);refine ⟨rfl,?_⟩
 refine RW.freezeB (ts := (Keep.c k)) 1 rfl (DRd.r (DRd.r DRd.e)) ?_
 refine RW.g XK 59 [.o 1,.p,.e [1],.n 1,.e [1,3],.p] rfl rfl rfl ?_
 refine CW.loopI 59 (fun (i : Nat) => [(1, .rp (Keep.c k)), (3, I (i : Int))]) (fun (i : Nat) => i ≤ k.items.length ∧ itemF (prevO Item.key Item.z k.items i) (k.items.drop i) = itemF none k.items) (fun (i : Nat) => k.items.length - i) 0 rfl (Le.c rfl <| Le.c rfl <| Le.e) ⟨by omega, rfl⟩ ?_
 rintro i ⟨hb, hr⟩
 refine CW.g XK 59 [.n 1,.e [1,3,9]] rfl rfl rfl ?_
 refine CW.cond rfl (fun h2 => ?_) (fun h2 => ?_)
 have hii : i < k.items.length := by have := h2; simp at this; first | exact this | omega | (simp; done) | (simp; omega)
 obtain ⟨ei, hei⟩ : ∃ e, k.items[i]? = some e := ⟨_, List.getElem?_eq_getElem hii⟩
 have hdi := drop_get hei
 refine CW.g XK 59 [.p,.e [1,3],.o 3] rfl rfl rfl ?_
 refine RW.v rfl (V.indexS rfl rfl rfl rfl rfl rfl Item.len hei) ?_
 refine RW.h XK 59 [.o 3] rfl ?_;(conv=>whnf);intro b3;(conv=>whnf);refine ⟨rfl,?_⟩
 refine RW.freezeB (ts := (Item.c ei)) 4 rfl (DRd.r (DRd.r (DRd.r DRd.e))) ?_
 refine RW.g XK 59 [.p,.e [1,3,4]] rfl rfl rfl ?_
 refine CW.seqJ 59 (fun (v4 : Bool) => [(1, .rp (Keep.c k)), (3, I (i : Int)), (49, Bo v4)]) (fun v4 => v4 = ((((!(inR (ei.key.size : Int) 1 8)) || (decide ((i : Int) > 0) && (!(Op.bytesLess ((k.items.getD (i - 1) Item.z).key).toList ei.key.toList)))) || decide ((ei.val.size : Int) > 20)) || (!(inR ei.ver 1 1000000000)))) ?_ ?_
 refine CW.drawn (by kernel_rfl) ?_
 refine RQ.k XK 59 3 rfl ?_
 (conv=>whnf);refine ⟨rfl,?_⟩
 refine RQ.cons rfl (QOK.call (spec_l01In_fn (ei.key.size : Int) 1 8) rfl (.cons (.one (.r .r)) (.cons (.one (.r .r)) (.cons (.one (.r .r)) (.nil)))) ?_)
 refine RQ.k XK 59 2 rfl ?_
 (conv=>whnf);refine ⟨rfl,?_⟩
 refine RQ.gv rfl rfl rfl rfl (fun h5 => V.mv (d := I (i : Int)) rfl rfl) (fun h5 => ?_) (fun h5 => ?_)
 refine RQ.k XK 59 2 rfl ?_
 (conv=>whnf);refine ⟨rfl,?_⟩
 refine RQ.gv rfl rfl rfl rfl (fun h6 => V.fieldR rfl rfl rfl rfl (by decide) rfl (Nat.le_of_ble_eq_true rfl)) (fun h6 => ?_) (fun h6 => ?_)
 refine RQ.k XK 59 2 rfl ?_
 (conv=>whnf);refine ⟨rfl,?_⟩
 refine RQ.gt rfl rfl rfl rfl (V.dec (m := i) rfl rfl rfl (by have := h6; simp at this; omega) (by omega)) ?_
 refine RQ.gt rfl rfl rfl rfl (V.indexS rfl rfl rfl rfl rfl rfl Item.len (getD_some (l := k.items) (j := i - 1) (z := Item.z) (by omega))) ?_
 refine RQ.k XK 59 8 rfl ?_
 (conv=>whnf);refine ⟨rfl,?_⟩
 refine RQ.gv rfl rfl rfl rfl (fun h7 => V.fieldR rfl rfl rfl rfl (by decide) rfl (Nat.le_of_ble_eq_true rfl)) (fun h7 => ?_) (fun h7 => ?_)
 refine RQ.k XK 59 5 rfl ?_
 (conv=>whnf);refine ⟨rfl,?_⟩
 refine RQ.gv rfl rfl rfl rfl (fun h8 => V.fieldR rfl rfl rfl rfl (by decide) rfl (Nat.le_of_ble_eq_true rfl)) (fun h8 => ?_) (fun h8 => ?_)
 refine RQ.k XK 59 1 rfl ?_
 (conv=>whnf);refine ⟨rfl,?_⟩
 refine RQ.guardT rfl rfl rfl rfl (QOK.call (spec_l01In_fn ei.ver 1 1000000000) rfl (.cons (.one (.r .r)) (.cons (.one (.r .r)) (.cons (.one (.r .r)) (.nil)))) ?_)
 refine RQ.k XK 59 2 rfl ?_
 (conv=>whnf);refine ⟨rfl,?_⟩
 refine RQ.nil ?_
 exact ⟨_, by (try clear hr hdi); first | rfl | (simp_all; done) | (simp_all; omega) | grind, rfl, Le.of rfl⟩
 refine RQ.k XK 59 4 rfl ?_
 (conv=>whnf);refine ⟨rfl,?_⟩
 refine RQ.nil ?_
 exact ⟨_, by (try clear hr hdi); first | rfl | (simp_all; done) | (simp_all; omega) | grind, rfl, Le.of rfl⟩
 refine RQ.k XK 59 10 rfl ?_
 (conv=>whnf);refine ⟨rfl,?_⟩
 refine RQ.nil ?_
 exact ⟨_, by (try clear hr hdi); first | rfl | (simp_all; done) | (simp_all; omega) | grind, rfl, Le.of rfl⟩
 refine RQ.k XK 59 18 rfl ?_
 (conv=>whnf);refine ⟨rfl,?_⟩
 refine RQ.gv rfl rfl rfl rfl (fun h9 => V.fieldR rfl rfl rfl rfl (by decide) rfl (Nat.le_of_ble_eq_true rfl)) (fun h9 => ?_) (fun h9 => ?_)
 refine RQ.k XK 59 1 rfl ?_
 (conv=>whnf);refine ⟨rfl,?_⟩
 refine RQ.guardT rfl rfl rfl rfl (QOK.call (spec_l01In_fn ei.ver 1 1000000000) rfl (.cons (.one (.r .r)) (.cons (.one (.r .r)) (.cons (.one (.r .r)) (.nil)))) ?_)
 refine RQ.k XK 59 2 rfl ?_
 (conv=>whnf);refine ⟨rfl,?_⟩
 refine RQ.nil ?_
 exact ⟨_, by (try clear hr hdi); first | rfl | (simp_all; done) | (simp_all; omega) | grind, rfl, Le.of rfl⟩
 refine RQ.k XK 59 4 rfl ?_
 (conv=>whnf);refine ⟨rfl,?_⟩
 refine RQ.nil ?_
 exact ⟨_, by (try clear hr hdi); first | rfl | (simp_all; done) | (simp_all; omega) | grind, rfl, Le.of rfl⟩
 refine RQ.k XK 59 26 rfl ?_
 (conv=>whnf);refine ⟨rfl,?_⟩
 refine RQ.nil ?_
 exact ⟨_, by (try clear hr hdi); first | rfl | (simp_all; done) | (simp_all; omega) | grind, rfl, Le.of rfl⟩
 intro v4 hv10
 refine CW.cond rfl (fun h11 => ?_) (fun h11 => ?_)
 refine CW.g XK 59 [.n 1,.e [2]] rfl rfl rfl ?_
 refine CW.ret ?_
 exact Post.one (RV.b rfl (by have ht : itemF none k.items = false := (by rw [← hr, hdi, itemF]; first | (simp_all [itemOk, prevO, prevS]; done) | grind [itemOk, prevO, prevS]); simp [keepOk, ht])) (AOs.a rfl AOs.e)
 refine CW.g XK 59 [.p,.e [1,3],.o 1] rfl rfl rfl ?_
 refine RW.v rfl (V.inc rfl rfl rfl hii hl2) ?_
 refine RW.g XK 59 [.o 1,.p] rfl rfl rfl ?_
 exact ⟨i + 1, by omega, ⟨by omega, by rw [← hr, hdi, itemF, prevO_succ hei]; first | (simp_all [sessOk, itemOk, emp, prevO, prevGe, prevS]; done) | grind [sessOk, itemOk, emp, prevO, prevGe, prevS]⟩, rfl, Le.c rfl <| Le.c rfl <| Le.e⟩
 have hii : k.items.length ≤ i := by have := h2; simp at this; first | exact this | omega | (simp; done) | (simp; omega)
 have hdi : k.items.drop i = [] := List.drop_eq_nil_of_le hii
 refine CW.exit ?_
 refine CW.g XK 59 [.e [1]] rfl rfl rfl ?_
 refine CW.seqJ 59 (fun (v12 : Bool) => [(2, Bo v12)]) (fun v12 => v12 = ((sessF none k.sessions && decide ((k.sessions.length : Int) ≤ 3)) && decide ((k.items.length : Int) ≤ 8))) ?_ ?_
 refine CW.g XK 59 [.o 2] rfl rfl rfl ?_
 refine RW.call rfl (spec_l15Sessions_fn k.sessions) rfl (.cons (.one (.r .r)) (.nil)) fun g13 => ?_
 refine RW.g XK 59 [.o 1] rfl rfl rfl ?_
 refine RW.gv rfl rfl rfl rfl (fun h14 => V.fieldR rfl rfl rfl rfl (by decide) rfl (Nat.le_of_ble_eq_true rfl)) (fun h14 => ?_) (fun h14 => ?_)
 refine RW.g XK 59 [.o 5,.p] rfl rfl rfl ?_
 exact ⟨_, by (try clear hr hdi); first | rfl | (simp_all; done) | (simp_all; omega) | grind, rfl, Le.of rfl⟩
 refine RW.g XK 59 [.o 5,.p] rfl rfl rfl ?_
 exact ⟨_, by (try clear hr hdi); first | rfl | (simp_all; done) | (simp_all; omega) | grind, rfl, Le.of rfl⟩
 intro v12 hv15
 refine CW.ret ?_
 exact Post.one (RV.b rfl (by have hu : itemF none k.items = true := (by rw [← hr, hdi]; rfl); clear hr hdi; first | (simp_all [keepOk]; done) | grind [keepOk])) (AOs.a rfl AOs.e)
set_option maxHeartbeats 4000000 in
theorem spec_l15Copy_fn (k : Keep) (hok : okToKeep k) : Eng.Fn E.P 70 [.agg ((Keep.c k).map .r)] (.one (.agg ((Keep.c k).map .w))) [.agg ((Keep.c k).map .r)] := by
 refine Eng.Fn.intro (E := E) (rvs := [.cell 2 59]) Tryz.func70 rfl rfl rfl (by simp [outSlots, moved, rvSlot, sl]) ?_
 intro B g bo
 refine CW.h XK 12 [.e [0],.o 1] rfl ?_;(conv=>whnf);intro b1;(conv=>whnf);refine ⟨rfl,?_⟩
 refine RW.freezeB (ts := (Keep.c k)) 1 rfl (DRd.r (DRd.r DRd.e)) ?_
 refine RW.h XK 12 [.o 1,.p,.e [1,2]] rfl ?_;(conv=>whnf);intro b2;(conv=>whnf);refine ⟨rfl,?_⟩
 refine CW.anyJ2 (fc := []) (L0 := []) 12 (fun (zz : Value × Value × Value × Value) => match zz with | (Xo3_0_1, Xo3_3_1, Xo3_4_1, Xo3_7_1) => [(2, .obj b2 [.w (sl 3 Session.c (([] : List Session) ++ k.sessions)) Xo3_3_1, .w (sl 3 Item.c (([] : List Item) ++ k.items)) Xo3_7_1])]) (fun all hall f hf b0 hb K hK => ?_) ?_
 have ro3_7 : ∀ B, ∀ (Xo3_0_1 : Value), ∀ (Xo3_3_1 : Value), ∀ (Xo3_4_1 : Value), ∀ (Xo3_7_1 : Value), RA f E B all 0 (bt 10 1023) ⟨12, [(2, .obj b2 [.w (sl 3 Session.c (([] : List Session) ++ k.sessions)) Xo3_3_1, .w (sl 3 Item.c (([] : List Item) ++ k.items)) Xo3_7_1])] ++ b0⟩ K := by
  intro B Xo3_0_1 Xo3_3_1 Xo3_4_1 Xo3_7_1
  exact RA.of2 hall hf hb (RA.finH (Tell.of rfl) (by kernel_rfl) (hK (Xo3_0_1, Xo3_3_1, Xo3_4_1, Xo3_7_1) _ rfl (Le.of rfl)))
 have ro3_6 : ∀ B, ∀ (Xo3_0_1 : Value), ∀ (Xo3_3_1 : Value), ∀ (Xo3_4_1 : Value), ∀ (Xo3_7_1 : Value), RA f E B all 1 (bt 10 511) ⟨12, [(2, .obj b2 [.r (.v (.slice none 0 0)), .r (.v (.slice none 0 0))]), (6, .w (sl 3 Session.c (([] : List Session) ++ k.sessions)) Xo3_3_1), (10, .w (sl 3 Item.c (([] : List Item) ++ k.items)) Xo3_7_1), (11, .agg [.al 6 none 3 ((([] : List Session) ++ k.sessions).length) Xo3_3_1 0, .al 10 none 3 ((([] : List Item) ++ k.items).length) Xo3_7_1 0])] ++ b0⟩ K := by
  intro B Xo3_0_1 Xo3_3_1 Xo3_4_1 Xo3_7_1
  refine RA.of2 hall hf hb (RA.stepH (L := [9]) (Tell.of rfl) (by kernel_rfl) (by simp) (RA.each ?_ (RA.each0)))
  refine RO.storeAgg (es := [.al 6 none 3 ((([] : List Session) ++ k.sessions).length) Xo3_3_1 0, .al 10 none 3 ((([] : List Item) ++ k.items).length) Xo3_7_1 0]) rfl rfl rfl rfl rfl rfl rfl rfl rfl rfl (Nat.le_of_ble_eq_true rfl) rfl ?_
  refine RA.keep 12 [2,6,10] rfl ?_;(conv=>whnf);refine ⟨?_⟩
  refine RA.pullT (k := 2) (l := 6) (j := 0) 2 6 0 rfl rfl rfl (by decide) rfl rfl rfl ?_
  refine RA.keep 12 [2,10] rfl ?_;(conv=>whnf);refine ⟨?_⟩
  refine RA.pullT (k := 2) (l := 10) (j := 1) 2 10 1 rfl rfl rfl (by decide) rfl rfl rfl ?_
  refine RA.keep 12 [2] rfl ?_;(conv=>whnf);refine ⟨?_⟩
  exact RA.to2 hall hf hb (ro3_7 B Xo3_0_1 Xo3_3_1 Xo3_4_1 Xo3_7_1) rfl rfl (by kernel_rfl)
 have ro3_5 : ∀ B, ∀ (Xo3_0_1 : Value), ∀ (Xo3_3_1 : Value), ∀ (Xo3_4_1 : Value), RA f E B all 3 (bt 10 127) ⟨12, [(2, .obj b2 [.r (.v (.slice none 0 0)), .r (.v (.slice none 0 0))]), (6, .w (sl 3 Session.c (([] : List Session) ++ k.sessions)) Xo3_3_1), (7, .w (sl 3 Item.c ([] : List Item)) Xo3_4_1), (9, .r (sl 3 Item.c k.items))] ++ b0⟩ K := by
  intro B Xo3_0_1 Xo3_3_1 Xo3_4_1
  refine RA.of2 hall hf hb (RA.stepH (L := [7]) (Tell.of rfl) (by kernel_rfl) (by simp) (RA.each ?_ (RA.each0)))
  refine RO.appendSR (c := Item.c) (l1 := ([] : List Item)) (l2 := k.items) rfl rfl rfl rfl rfl rfl rfl rfl rfl rfl .r (by decide) (Nat.le_of_ble_eq_true rfl) Item.len (fun _ => rfl) rfl q13 q13 fun Xo3_7_1 => ?_
  refine RA.fr XK 12 1 [8] (bt 10 511) rfl rfl (by kernel_rfl) (Tell.of rfl) ?_
  (conv=>whnf);refine ⟨rfl,fun B=>?_⟩
  exact RA.to2 hall hf hb (ro3_6 B Xo3_0_1 Xo3_3_1 Xo3_4_1 Xo3_7_1) rfl rfl (by kernel_rfl)
 have ro3_4 : ∀ B, ∀ (Xo3_0_1 : Value), ∀ (Xo3_4_1 : Value), RA f E B all 4 (bt 10 119) ⟨12, [(2, .obj b2 [.r (.v (.slice none 0 0)), .r (.v (.slice none 0 0))]), (3, .w (sl 3 Session.c ([] : List Session)) Xo3_0_1), (5, .r (sl 3 Session.c k.sessions)), (7, .w (sl 3 Item.c ([] : List Item)) Xo3_4_1), (9, .r (sl 3 Item.c k.items))] ++ b0⟩ K := by
  intro B Xo3_0_1 Xo3_4_1
  refine RA.of2 hall hf hb (RA.stepH (L := [3]) (Tell.of rfl) (by kernel_rfl) (by simp) (RA.each ?_ (RA.each0)))
  refine RO.appendSR (c := Session.c) (l1 := ([] : List Session)) (l2 := k.sessions) rfl rfl rfl rfl rfl rfl rfl rfl rfl rfl .r (by decide) (Nat.le_of_ble_eq_true rfl) Session.len (fun _ => rfl) rfl q13 q13 fun Xo3_3_1 => ?_
  exact RA.to2 hall hf hb (ro3_5 B Xo3_0_1 Xo3_3_1 Xo3_4_1) rfl rfl (by kernel_rfl)
 have ro3_3 : ∀ B, ∀ (Xo3_0_1 : Value), ∀ (Xo3_3_1 : Value), RA f E B all 4 (bt 10 111) ⟨12, [(2, .obj b2 [.r (.v (.slice none 0 0)), .r (.v (.slice none 0 0))]), (6, .w (sl 3 Session.c (([] : List Session) ++ k.sessions)) Xo3_3_1), (9, .r (sl 3 Item.c k.items))] ++ b0⟩ K := by
  intro B Xo3_0_1 Xo3_3_1
  refine RA.of2 hall hf hb (RA.stepH (L := [4]) (Tell.of rfl) (by kernel_rfl) (by simp) (RA.each ?_ (RA.each0)))
  refine RO.build0 Item.c rfl rfl rfl rfl rfl rfl rfl fun Xo3_4_1 => ?_
  exact RA.to2 hall hf hb (ro3_5 B Xo3_0_1 Xo3_3_1 Xo3_4_1) rfl rfl (by kernel_rfl)
 have ro3_2 : ∀ B, ∀ (Xo3_4_1 : Value), RA f E B all 5 (bt 10 118) ⟨12, [(2, .obj b2 [.r (.v (.slice none 0 0)), .r (.v (.slice none 0 0))]), (5, .r (sl 3 Session.c k.sessions)), (7, .w (sl 3 Item.c ([] : List Item)) Xo3_4_1), (9, .r (sl 3 Item.c k.items))] ++ b0⟩ K := by
  intro B Xo3_4_1
  refine RA.of2 hall hf hb (RA.stepH (L := [0]) (Tell.of rfl) (by kernel_rfl) (by simp) (RA.each ?_ (RA.each0)))
  refine RO.build0 Session.c rfl rfl rfl rfl rfl rfl rfl fun Xo3_0_1 => ?_
  exact RA.to2 hall hf hb (ro3_4 B Xo3_0_1 Xo3_4_1) rfl rfl (by kernel_rfl)
 have ro3_1 : ∀ B, ∀ (Xo3_0_1 : Value), RA f E B all 5 (bt 10 103) ⟨12, [(2, .obj b2 [.r (.v (.slice none 0 0)), .r (.v (.slice none 0 0))]), (3, .w (sl 3 Session.c ([] : List Session)) Xo3_0_1), (5, .r (sl 3 Session.c k.sessions)), (9, .r (sl 3 Item.c k.items))] ++ b0⟩ K := by
  intro B Xo3_0_1
  refine RA.of2 hall hf hb (RA.stepH (L := [3, 4]) (Tell.of rfl) (by kernel_rfl) (by simp) (RA.each ?_ (RA.each ?_ (RA.each0))))
  refine RO.appendSR (c := Session.c) (l1 := ([] : List Session)) (l2 := k.sessions) rfl rfl rfl rfl rfl rfl rfl rfl rfl rfl .r (by decide) (Nat.le_of_ble_eq_true rfl) Session.len (fun _ => rfl) rfl q13 q13 fun Xo3_3_1 => ?_
  exact RA.to2 hall hf hb (ro3_3 B Xo3_0_1 Xo3_3_1) rfl rfl (by kernel_rfl)
  refine RO.build0 Item.c rfl rfl rfl rfl rfl rfl rfl fun Xo3_4_1 => ?_
  exact RA.to2 hall hf hb (ro3_4 B Xo3_0_1 Xo3_4_1) rfl rfl (by kernel_rfl)
 have ro3_0 : ∀ B, RA f E B all 6 (bt 10 102) ⟨12, [(2, .obj b2 [.r (.v (.slice none 0 0)), .r (.v (.slice none 0 0))]), (5, .r (sl 3 Session.c k.sessions)), (9, .r (sl 3 Item.c k.items))] ++ b0⟩ K := by
  intro B
  refine RA.of2 hall hf hb (RA.stepH (L := [0, 4]) (Tell.of rfl) (by kernel_rfl) (by simp) (RA.each ?_ (RA.each ?_ (RA.each0))))
  refine RO.build0 Session.c rfl rfl rfl rfl rfl rfl rfl fun Xo3_0_1 => ?_
  exact RA.to2 hall hf hb (ro3_1 B Xo3_0_1) rfl rfl (by kernel_rfl)
  refine RO.build0 Item.c rfl rfl rfl rfl rfl rfl rfl fun Xo3_4_1 => ?_
  exact RA.to2 hall hf hb (ro3_2 B Xo3_4_1) rfl rfl (by kernel_rfl)
 refine RA.start (by kernel_rfl) (by kernel_rfl) (m := 10) (ls' := (bt 10 0)) ?_
 refine RA.fr XK 12 6 [1,2,5,6] (bt 10 102) rfl rfl (by kernel_rfl) (Tell.of rfl) ?_
 (conv=>whnf);refine ⟨rfl,fun B=>?_⟩
 exact RA.to2 hall hf hb (ro3_0 B) rfl rfl (by kernel_rfl)
 rintro ⟨Xo3_0_1, Xo3_3_1, Xo3_4_1, Xo3_7_1⟩
 refine CW.ret ?_
 exact Post.one (RV.c (f := fun e => (Keep.c e).map .w) (e' := (⟨(([] : List Session) ++ k.sessions), (([] : List Item) ++ k.items)⟩ : Keep)) rfl rfl rfl rfl (DT.w (DT.w DT.e)) (by rfl)) (AOs.a rfl AOs.e)
set_option maxHeartbeats 4000000 in
theorem spec_l01Figure_fn (d : Int) (hd : d < 10) : Eng.Fn E.P 138 [.one (.r (.v (.int .i64 d)))] (.one (.one (.w (.v (.int .u8 (IntKind.u8.wrap (IntKind.i64.wrap (48 + d)))))))) [.one (.r (.v (.int .i64 d)))] := by
 refine Eng.Fn.intro (E := E) (rvs := [.tmp 2]) Tryz.func138 rfl rfl rfl (by simp [outSlots, moved, rvSlot, sl]) ?_
 intro B g bo
 refine CW.g XK 12 [.e [0],.n 1,.e [0],.n 1,.e [0,4]] rfl rfl rfl ?_
 refine CW.cond rfl (fun h1 => ?_) (fun h1 => ?_)
 refine CW.g XK 12 [.n 1,.e [2]] rfl rfl rfl ?_
 refine CW.ret ?_
 exact Post.one (RV.v rfl (by rfl)) (AOs.r AOs.e)
 refine CW.g XK 12 [.p,.e [0],.n 1,.e [2]] rfl rfl rfl ?_
 refine CW.ret ?_
 exact Post.one (RV.v rfl (by exfalso; simp at h1; omega)) (AOs.r AOs.e)
set_option maxHeartbeats 4000000 in
theorem spec_Decimal_fn (n : Int) (hn : 0 ≤ n ∧ n ≤ 9223372036854775807) : Eng.Fn E.P 106 [.one (.r (.v (.int .i64 n)))] (.one (.one (.w (.v (.string (itoaB n)))))) [.one (.r (.v (.int .i64 n)))] := by
 refine Eng.Fn.intro (E := E) (rvs := [.tmp 2]) Tryz.func106 rfl rfl rfl (by simp [outSlots, moved, rvSlot, sl]) ?_
 intro B g bo
 refine CW.g XK 30 [.e [0],.n 1,.e [0],.n 1,.e [0,7]] rfl rfl rfl ?_
 refine CW.cond rfl (fun h1 => ?_) (fun h1 => ?_)
 refine CW.g XK 30 [.n 1,.e [2]] rfl rfl rfl ?_
 refine CW.ret ?_
 exact Post.one (RV.s rfl (by rw [show n = 0 by simpa using h1]; exact itoa_zero.symm)) (AOs.r AOs.e)
 refine CW.g XK 30 [.p,.e [0],.n 2,.e [0,3,4],.p,.p] rfl rfl rfl ?_
 refine CW.loopI 30 (fun (zz : Int × ByteArray) => match zz with | (m, s) => [(0, I m), (3, Bo (decide (n < 0))), (4, S s)]) (fun (zz : Int × ByteArray) => match zz with | (m, s) => 0 ≤ m ∧ s.size ≤ 60 ∧ m * 10 ^ s.size ≤ 9223372036854775807 ∧ dgs m.toNat s = dgs n.toNat ⟨#[]⟩) (fun (zz : Int × ByteArray) => match zz with | (m, s) => m.toNat) (_, _) rfl (Le.c rfl <| Le.c rfl <| Le.c rfl <| Le.e) ⟨hn.1, by decide, by show n * 10 ^ 0 ≤ _; omega, rfl⟩ ?_
 rintro ⟨m, s⟩ ⟨h0, hs, hp, hr⟩
 refine CW.g XK 30 [.n 1,.e [0,3,4,11]] rfl rfl rfl ?_
 refine CW.cond rfl (fun h2 => ?_) (fun h2 => ?_)
 have h2p : decide (m > 0) = true := by simp at h2 ⊢; omega
 refine CW.g XK 30 [.p,.e [0,3,4],.n 1,.e [0,3,4,5],.n 1,.e [0,3,4,5,15]] rfl rfl rfl ?_
 refine CW.cond rfl (fun h3 => ?_) (fun h3 => ?_)
 exact absurd (Int.tmod_nonneg 10 h0) (by simpa using h3)
 refine CW.g XK 30 [.p,.e [0,3,4,5],.o 1] rfl rfl rfl ?_
 refine RW.call rfl (spec_l01Figure_fn (Int.tmod m 10) (Int.tmod_lt_of_pos m (by omega))) rfl (.cons (.one (.r .r)) (.nil)) fun g4 => ?_
 refine RW.build1c (c := cU) (v := (IntKind.u8.wrap (IntKind.i64.wrap (48 + (Int.tmod m 10))))) (u := .v (.int .u8 (IntKind.u8.wrap (IntKind.i64.wrap (48 + (Int.tmod m 10)))))) rfl rfl rfl rfl rfl rfl (.inl rfl) rfl rfl fun X5 => ?_
 refine RW.v rfl (V.bytesStr (l := [(IntKind.u8.wrap (IntKind.i64.wrap (48 + (Int.tmod m 10))))]) rfl rfl rfl (by kernel_rfl) (by kernel_rfl) (.al (k := none) (i := 20) (sz := 1) (V := X5) rfl rfl nofun)) ?_
 refine RW.g XK 30 [.o 1] rfl rfl rfl ?_
 refine RW.v rfl (V.cat rfl rfl rfl (by simp only [bytesOf_one, maxLen]; first | omega | (show 1 + s.size ≤ _; omega))) ?_
 refine RW.g XK 30 [.o 1,.p,.e [0,3,4],.o 3,.p] rfl rfl rfl ?_
 exact ⟨(_, _), by have := mt_dec h0 hp h2p; simp only []; omega, mt_step h0 hp hr h2p, rfl, Le.c rfl <| Le.c rfl <| Le.c rfl <| Le.e⟩
 refine CW.exit ?_
 refine CW.g XK 30 [.e [3,4],.n 1,.e [4,26]] rfl rfl rfl ?_
 refine CW.cond rfl (fun h6 => ?_) (fun h6 => ?_)
 refine CW.g XK 30 [.o 1] rfl rfl rfl ?_
 refine RW.v rfl (V.cat rfl rfl rfl (by simp only [bytesOf_one, maxLen]; first | omega | (show 1 + s.size ≤ _; omega))) ?_
 refine RW.g XK 30 [.o 1,.p,.e [2]] rfl rfl rfl ?_
 refine CW.ret ?_
 exact Post.one (RV.s rfl (by exfalso; simp_all; omega)) (AOs.r AOs.e)
 refine CW.g XK 30 [.p,.e [4],.n 1,.e [2]] rfl rfl rfl ?_
 refine CW.ret ?_
 exact Post.one (RV.s rfl (by rw [itoa_pos (by simp at h1; omega), ← hr, dgs, dif_pos (by simp at h2; omega)])) (AOs.r AOs.e)
end Go.Proofs.YtdipdkfbaehglaaGreatDoor.Y
