import Derived.Test.YtdipdkfbaehglaaGreatDoorWSoundR
namespace Go.Proofs.YtdipdkfbaehglaaGreatDoor.Y
open Go Go.RowKit Go.Eng Go.Proofs
set_option maxRecDepth 10000
set_option maxHeartbeats 4000000 in
theorem spec_OneLeader_fn (a : List Leader) : Eng.Fn E.P 51 [.one (.r (sl 5 Leader.c a))] (.one (.one (.w (.v (.bool (pairs badLeader [] a)))))) [.one (.r (sl 5 Leader.c a))] := by
 refine Eng.Fn.intro (E := E) (rvs := [.tmp 2]) Tryz.func51 rfl rfl rfl (by simp [outSlots, moved, rvSlot, sl]) ?_
 intro B g bo
 refine CW.bound (x := .tmp 0) (n := a.length) (AsT.r) (fun hl0 => ?_)
 refine CW.g XK 40 [.e [0],.n 1,.e [0],.n 1,.e [0,3],.p] rfl rfl rfl ?_
 refine CW.loopI 40 (fun (i : Nat) => [(0, .r (sl 5 Leader.c a)), (3, I (i : Int))]) (fun (i : Nat) => i ≤ a.length ∧ pairs badLeader (a.take i) (a.drop i) = pairs badLeader [] a) (fun (i : Nat) => a.length - i) 0 rfl (Le.c rfl <| Le.c rfl <| Le.e) ⟨by omega, by simp⟩ ?_
 rintro i ⟨hb, hr⟩
 refine CW.g XK 40 [.n 1,.e [0,3,8]] rfl rfl rfl ?_
 refine CW.cond rfl (fun h1 => ?_) (fun h1 => ?_)
 have hii : i < a.length := by have := h1; simp at this; first | exact this | omega | (simp; done) | (simp; omega)
 obtain ⟨ei, hei⟩ : ∃ e, a[i]? = some e := ⟨_, List.getElem?_eq_getElem hii⟩
 have hdi := drop_get hei
 refine CW.g XK 40 [.p,.e [0,3],.n 1,.e [0,3,4],.p] rfl rfl rfl ?_
 refine CW.loopI 40 (fun (k : Nat) => [(0, .r (sl 5 Leader.c a)), (3, I (i : Int)), (4, I (k : Int))]) (fun (k : Nat) => k ≤ i ∧ ((a.take i).drop k).any (badLeader ei) = (a.take i).any (badLeader ei)) (fun (k : Nat) => i - k) 0 rfl (Le.c rfl <| Le.c rfl <| Le.c rfl <| Le.e) ⟨by omega, by simp⟩ ?_
 rintro k ⟨hc, hs⟩
 refine CW.g XK 40 [.n 1,.e [0,3,4,13]] rfl rfl rfl ?_
 refine CW.cond rfl (fun h2 => ?_) (fun h2 => ?_)
 have hik : k < (a.take i).length := by have := h2; simp at this; first | exact this | omega | (simp; done) | (simp; omega)
 obtain ⟨ek, hek⟩ : ∃ e, (a.take i)[k]? = some e := ⟨_, List.getElem?_eq_getElem hik⟩
 have hdk := drop_get hek
 have hkl : k < i := by first | exact hik | (simp at hik; omega)
 have hek2 : a[k]? = some ek := by rw [← hek]; exact (List.getElem?_take_of_lt hkl).symm
 refine CW.g XK 40 [.p,.e [0,3,4],.p,.p] rfl rfl rfl ?_
 refine CW.seqJ 40 (fun (v3 : Bool) => [(0, .r (sl 5 Leader.c a)), (3, I (i : Int)), (4, I (k : Int)), (39, Bo v3)]) (fun v3 => v3 = ((ei.term_ == ek.term_) && (ei.node != ek.node))) ?_ ?_
 refine CW.drawn (by kernel_rfl) ?_
 refine RQ.k XK 40 2 rfl ?_
 (conv=>whnf);refine ⟨rfl,?_⟩
 refine RQ.v rfl (V.indexS rfl rfl rfl rfl rfl rfl Leader.len hei) ?_
 refine RQ.k XK 40 4 rfl ?_
 (conv=>whnf);refine ⟨rfl,?_⟩
 refine RQ.v rfl (V.indexS rfl rfl rfl rfl rfl rfl Leader.len hek2) ?_
 refine RQ.k XK 40 4 rfl ?_
 (conv=>whnf);refine ⟨rfl,?_⟩
 refine RQ.gv rfl rfl rfl rfl (fun h4 => V.mv (d := .r (sl 5 Leader.c a)) rfl rfl) (fun h4 => ?_) (fun h4 => ?_)
 refine RQ.k XK 40 1 rfl ?_
 (conv=>whnf);refine ⟨rfl,?_⟩
 refine RQ.gt rfl rfl rfl rfl (V.indexS rfl rfl rfl rfl rfl rfl Leader.len hei) ?_
 refine RQ.k XK 40 4 rfl ?_
 (conv=>whnf);refine ⟨rfl,?_⟩
 refine RQ.gt rfl rfl rfl rfl (V.indexS rfl rfl rfl rfl rfl rfl Leader.len hek2) ?_
 refine RQ.k XK 40 4 rfl ?_
 (conv=>whnf);refine ⟨rfl,?_⟩
 refine RQ.nil ?_
 exact ⟨_, by first | rfl | (simp_all; done) | (simp_all; omega) | grind, rfl, Le.of rfl⟩
 refine RQ.k XK 40 11 rfl ?_
 (conv=>whnf);refine ⟨rfl,?_⟩
 refine RQ.nil ?_
 exact ⟨_, by first | rfl | (simp_all; done) | (simp_all; omega) | grind, rfl, Le.of rfl⟩
 intro v3 hv5
 refine CW.cond rfl (fun h6 => ?_) (fun h6 => ?_)
 refine CW.g XK 40 [.n 1,.e [2]] rfl rfl rfl ?_
 refine CW.ret ?_
 exact Post.one (RV.b rfl (by rw [← hr, hdi, pairs, ← hs, hdk, List.any_cons, show badLeader ei ek = true from by clear hr hs; first | (simp_all [badLeader]; done) | grind [badLeader]]; simp)) (AOs.r AOs.e)
 refine CW.g XK 40 [.p,.e [0,3,4],.o 1] rfl rfl rfl ?_
 refine RW.v rfl (V.inc rfl rfl rfl hkl (Nat.le_trans (Nat.le_of_lt hii) hl0)) ?_
 refine RW.g XK 40 [.o 1,.p] rfl rfl rfl ?_
 exact ⟨k + 1, by omega, ⟨by omega, by rw [← hs, hdk, List.any_cons, show badLeader ei ek = false from by clear hr hs; first | (simp_all [badLeader]; done) | grind [badLeader]]; simp⟩, rfl, Le.c rfl <| Le.c rfl <| Le.c rfl <| Le.e⟩
 have hik : (a.take i).length ≤ k := by have := h2; simp at this; first | exact this | omega | (simp; done) | (simp; omega)
 have hdk : (a.take i).drop k = [] := List.drop_eq_nil_of_le hik
 refine CW.exit ?_
 refine CW.g XK 40 [.e [0,3],.o 1] rfl rfl rfl ?_
 refine RW.v rfl (V.inc rfl rfl rfl hii hl0) ?_
 refine RW.g XK 40 [.o 1,.p] rfl rfl rfl ?_
 exact ⟨i + 1, by omega, ⟨by omega, by rw [← hr, hdi, pairs, ← hs, hdk, take_snoc hei]; simp⟩, rfl, Le.c rfl <| Le.c rfl <| Le.e⟩
 have hii : a.length ≤ i := by have := h1; simp at this; first | exact this | omega | (simp; done) | (simp; omega)
 have hdi : a.drop i = [] := List.drop_eq_nil_of_le hii
 refine CW.exit ?_
 refine CW.g XK 40 [.e [],.n 1,.e [2]] rfl rfl rfl ?_
 refine CW.ret ?_
 exact Post.one (RV.b rfl q29) (AOs.r AOs.e)
set_option maxHeartbeats 4000000 in
theorem spec_l21Plain_fn (a : ByteArray) : Eng.Fn E.P 90 [.one (.r (.v (.string a)))] (.one (.one (.w (.v (.bool (plain a)))))) [.one (.r (.v (.string a)))] := by
 refine Eng.Fn.intro (E := E) (rvs := [.tmp 2]) Tryz.func90 rfl rfl rfl (by simp [outSlots, moved, rvSlot, sl]) ?_
 intro B g bo
 refine CW.g XK 13 [.e [0],.n 1,.e [0]] rfl rfl rfl ?_
 refine CW.seqJ 13 (fun (v1 : Bool) => [(2, Bo v1)]) (fun v1 => v1 = (((a.toList == (⟨#[103, 97, 112]⟩ : ByteArray).toList) || (a.toList == (⟨#[110, 111, 110, 101]⟩ : ByteArray).toList)) || (a.toList == (⟨#[111, 108, 100]⟩ : ByteArray).toList))) ?_ ?_
 refine CW.g XK 13 [.o 3] rfl rfl rfl ?_
 refine RW.gv rfl rfl rfl rfl (fun h2 => V.mv (d := S a) rfl rfl) (fun h2 => ?_) (fun h2 => ?_)
 refine RW.g XK 13 [.o 3] rfl rfl rfl ?_
 refine RW.gv rfl rfl rfl rfl (fun h3 => V.mv (d := S a) rfl rfl) (fun h3 => ?_) (fun h3 => ?_)
 refine RW.g XK 13 [.o 3,.p] rfl rfl rfl ?_
 exact ⟨_, by first | rfl | (simp_all; done) | (simp_all; omega) | grind, rfl, Le.of rfl⟩
 refine RW.g XK 13 [.o 3,.p] rfl rfl rfl ?_
 exact ⟨_, by first | rfl | (simp_all; done) | (simp_all; omega) | grind, rfl, Le.of rfl⟩
 refine RW.g XK 13 [.o 7,.p] rfl rfl rfl ?_
 exact ⟨_, by first | rfl | (simp_all; done) | (simp_all; omega) | grind, rfl, Le.of rfl⟩
 intro v1 hv4
 refine CW.ret ?_
 exact Post.one (RV.b rfl (by simp_all [plain, Bool.or_assoc])) (AOs.r AOs.e)
set_option maxHeartbeats 4000000 in
theorem spec_Once_fn (a : List Reply) : Eng.Fn E.P 53 [.one (.r (sl 10 Reply.c a))] (.one (.one (.w (.v (.bool (pairs badOnce [] a)))))) [.one (.r (sl 10 Reply.c a))] := by
 refine Eng.Fn.intro (E := E) (rvs := [.tmp 2]) Tryz.func53 rfl rfl rfl (by simp [outSlots, moved, rvSlot, sl]) ?_
 intro B g bo
 refine CW.bound (x := .tmp 0) (n := a.length) (AsT.r) (fun hl0 => ?_)
 refine CW.g XK 67 [.e [0],.n 1,.e [0],.n 1,.e [0,3],.p] rfl rfl rfl ?_
 refine CW.loopI 67 (fun (i : Nat) => [(0, .r (sl 10 Reply.c a)), (3, I (i : Int))]) (fun (i : Nat) => i ≤ a.length ∧ pairs badOnce (a.take i) (a.drop i) = pairs badOnce [] a) (fun (i : Nat) => a.length - i) 0 rfl (Le.c rfl <| Le.c rfl <| Le.e) ⟨by omega, by simp⟩ ?_
 rintro i ⟨hb, hr⟩
 refine CW.g XK 67 [.n 1,.e [0,3,10]] rfl rfl rfl ?_
 refine CW.cond rfl (fun h1 => ?_) (fun h1 => ?_)
 have hii : i < a.length := by have := h1; simp at this; first | exact this | omega | (simp; done) | (simp; omega)
 obtain ⟨ei, hei⟩ : ∃ e, a[i]? = some e := ⟨_, List.getElem?_eq_getElem hii⟩
 have hdi := drop_get hei
 refine CW.g XK 67 [.p,.e [0,3],.n 1,.e [0,3,4],.p] rfl rfl rfl ?_
 refine CW.loopI 67 (fun (k : Nat) => [(0, .r (sl 10 Reply.c a)), (3, I (i : Int)), (4, I (k : Int))]) (fun (k : Nat) => k ≤ i ∧ ((a.take i).drop k).any (badOnce ei) = (a.take i).any (badOnce ei)) (fun (k : Nat) => i - k) 0 rfl (Le.c rfl <| Le.c rfl <| Le.c rfl <| Le.e) ⟨by omega, by simp⟩ ?_
 rintro k ⟨hc, hs⟩
 refine CW.g XK 67 [.n 1,.e [0,3,4,15]] rfl rfl rfl ?_
 refine CW.cond rfl (fun h2 => ?_) (fun h2 => ?_)
 have hik : k < (a.take i).length := by have := h2; simp at this; first | exact this | omega | (simp; done) | (simp; omega)
 obtain ⟨ek, hek⟩ : ∃ e, (a.take i)[k]? = some e := ⟨_, List.getElem?_eq_getElem hik⟩
 have hdk := drop_get hek
 have hkl : k < i := by first | exact hik | (simp at hik; omega)
 have hek2 : a[k]? = some ek := by rw [← hek]; exact (List.getElem?_take_of_lt hkl).symm
 refine CW.g XK 67 [.p,.e [0,3,4],.o 2] rfl rfl rfl ?_
 refine RW.v rfl (V.indexS rfl rfl rfl rfl rfl rfl Reply.len hei) ?_
 refine RW.h XK 67 [.o 3] rfl ?_;(conv=>whnf);intro b3;(conv=>whnf);refine ⟨rfl,?_⟩
 refine RW.freezeB (ts := (Reply.c ei)) 5 rfl (DRd.r (DRd.r (DRd.r (DRd.r (DRd.r (DRd.r (DRd.r (DRd.r (DRd.r (DRd.r DRd.e)))))))))) ?_
 refine RW.g XK 67 [.p,.e [0,3,4,5],.o 2] rfl rfl rfl ?_
 refine RW.v rfl (V.indexS rfl rfl rfl rfl rfl rfl Reply.len hek2) ?_
 refine RW.h XK 67 [.o 3] rfl ?_;(conv=>whnf);intro b4;(conv=>whnf);refine ⟨rfl,?_⟩
 refine RW.freezeB (ts := (Reply.c ek)) 6 rfl (DRd.r (DRd.r (DRd.r (DRd.r (DRd.r (DRd.r (DRd.r (DRd.r (DRd.r (DRd.r DRd.e)))))))))) ?_
 refine RW.g XK 67 [.p,.e [0,3,4,5,6]] rfl rfl rfl ?_
 refine CW.seqJ 67 (fun (v5 : Bool) => [(0, .r (sl 10 Reply.c a)), (3, I (i : Int)), (4, I (k : Int)), (66, Bo v5)]) (fun v5 => v5 = ((((((ei.command.token != 0) && (ei.command.token == ek.command.token)) && (ei.command.seq == ek.command.seq)) && (!(ei.text.toList == ek.text.toList))) && (!(plain ei.text))) && (!(plain ek.text)))) ?_ ?_
 refine CW.g XK 67 [.o 5] rfl rfl rfl ?_
 refine RW.gv rfl rfl rfl rfl (fun h6 => V.fieldR rfl rfl rfl rfl (by decide) rfl (Nat.le_of_ble_eq_true rfl)) (fun h6 => ?_) (fun h6 => ?_)
 refine RW.g XK 67 [.o 8] rfl rfl rfl ?_
 refine RW.gv rfl rfl rfl rfl (fun h7 => V.fieldR rfl rfl rfl rfl (by decide) rfl (Nat.le_of_ble_eq_true rfl)) (fun h7 => ?_) (fun h7 => ?_)
 refine RW.g XK 67 [.o 8] rfl rfl rfl ?_
 refine RW.gv rfl rfl rfl rfl (fun h8 => V.fieldR rfl rfl rfl rfl (by decide) rfl (Nat.le_of_ble_eq_true rfl)) (fun h8 => ?_) (fun h8 => ?_)
 refine RW.g XK 67 [.o 6] rfl rfl rfl ?_
 refine RW.gv rfl rfl rfl rfl (fun h9 => V.fieldR rfl rfl rfl rfl (by decide) rfl (Nat.le_of_ble_eq_true rfl)) (fun h9 => ?_) (fun h9 => ?_)
 refine RW.g XK 67 [.o 1] rfl rfl rfl ?_
 refine RW.gcall rfl rfl rfl rfl (spec_l21Plain_fn ei.text) rfl (.cons (.one (.r .r)) (.nil)) fun g10 => ?_
 refine RW.g XK 67 [.o 3] rfl rfl rfl ?_
 refine RW.gv rfl rfl rfl rfl (fun h11 => V.fieldR rfl rfl rfl rfl (by decide) rfl (Nat.le_of_ble_eq_true rfl)) (fun h11 => ?_) (fun h11 => ?_)
 refine RW.g XK 67 [.o 1] rfl rfl rfl ?_
 refine RW.gcall rfl rfl rfl rfl (spec_l21Plain_fn ek.text) rfl (.cons (.one (.r .r)) (.nil)) fun g12 => ?_
 refine RW.g XK 67 [.o 2,.p] rfl rfl rfl ?_
 exact ⟨_, by first | rfl | (simp_all; done) | (simp_all; omega) | grind, rfl, Le.of rfl⟩
 refine RW.g XK 67 [.o 4,.p] rfl rfl rfl ?_
 exact ⟨_, by first | rfl | (simp_all; done) | (simp_all; omega) | grind, rfl, Le.of rfl⟩
 refine RW.g XK 67 [.o 10,.p] rfl rfl rfl ?_
 exact ⟨_, by first | rfl | (simp_all; done) | (simp_all; omega) | grind, rfl, Le.of rfl⟩
 refine RW.g XK 67 [.o 17,.p] rfl rfl rfl ?_
 exact ⟨_, by first | rfl | (simp_all; done) | (simp_all; omega) | grind, rfl, Le.of rfl⟩
 refine RW.g XK 67 [.o 26,.p] rfl rfl rfl ?_
 exact ⟨_, by first | rfl | (simp_all; done) | (simp_all; omega) | grind, rfl, Le.of rfl⟩
 refine RW.g XK 67 [.o 35,.p] rfl rfl rfl ?_
 exact ⟨_, by first | rfl | (simp_all; done) | (simp_all; omega) | grind, rfl, Le.of rfl⟩
 intro v5 hv13
 refine CW.cond rfl (fun h14 => ?_) (fun h14 => ?_)
 refine CW.g XK 67 [.n 1,.e [2]] rfl rfl rfl ?_
 refine CW.ret ?_
 exact Post.one (RV.b rfl (by rw [← hr, hdi, pairs, ← hs, hdk, List.any_cons, show badOnce ei ek = true from by clear hr hs; first | (simp_all [badOnce]; done) | grind [badOnce]]; simp)) (AOs.r AOs.e)
 refine CW.g XK 67 [.p,.e [0,3,4],.o 1] rfl rfl rfl ?_
 refine RW.v rfl (V.inc rfl rfl rfl hkl (Nat.le_trans (Nat.le_of_lt hii) hl0)) ?_
 refine RW.g XK 67 [.o 1,.p] rfl rfl rfl ?_
 exact ⟨k + 1, by omega, ⟨by omega, by rw [← hs, hdk, List.any_cons, show badOnce ei ek = false from by clear hr hs; first | (simp_all [badOnce]; done) | grind [badOnce]]; simp⟩, rfl, Le.c rfl <| Le.c rfl <| Le.c rfl <| Le.e⟩
 have hik : (a.take i).length ≤ k := by have := h2; simp at this; first | exact this | omega | (simp; done) | (simp; omega)
 have hdk : (a.take i).drop k = [] := List.drop_eq_nil_of_le hik
 refine CW.exit ?_
 refine CW.g XK 67 [.e [0,3],.o 1] rfl rfl rfl ?_
 refine RW.v rfl (V.inc rfl rfl rfl hii hl0) ?_
 refine RW.g XK 67 [.o 1,.p] rfl rfl rfl ?_
 exact ⟨i + 1, by omega, ⟨by omega, by rw [← hr, hdi, pairs, ← hs, hdk, take_snoc hei]; simp⟩, rfl, Le.c rfl <| Le.c rfl <| Le.e⟩
 have hii : a.length ≤ i := by have := h1; simp at this; first | exact this | omega | (simp; done) | (simp; omega)
 have hdi : a.drop i = [] := List.drop_eq_nil_of_le hii
 refine CW.exit ?_
 refine CW.g XK 67 [.e [],.n 1,.e [2]] rfl rfl rfl ?_
 refine CW.ret ?_
 exact Post.one (RV.b rfl q29) (AOs.r AOs.e)
set_option maxHeartbeats 4000000 in
theorem spec_InTime_fn (a : List Reply) : Eng.Fn E.P 54 [.one (.r (sl 10 Reply.c a))] (.one (.one (.w (.v (.bool (pairsW badTime a a)))))) [.one (.r (sl 10 Reply.c a))] := by
 refine Eng.Fn.intro (E := E) (rvs := [.tmp 2]) Tryz.func54 rfl rfl rfl (by simp [outSlots, moved, rvSlot, sl]) ?_
 intro B g bo
 refine CW.bound (x := .tmp 0) (n := a.length) (AsT.r) (fun hl0 => ?_)
 refine CW.g XK 41 [.e [0],.n 1,.e [0],.n 1,.e [0,3],.p] rfl rfl rfl ?_
 refine CW.loopI 41 (fun (i : Nat) => [(0, .r (sl 10 Reply.c a)), (3, I (i : Int))]) (fun (i : Nat) => i ≤ a.length ∧ pairsW badTime a (a.drop i) = pairsW badTime a a) (fun (i : Nat) => a.length - i) 0 rfl (Le.c rfl <| Le.c rfl <| Le.e) ⟨by omega, by simp⟩ ?_
 rintro i ⟨hb, hr⟩
 refine CW.g XK 41 [.n 1,.e [0,3,8]] rfl rfl rfl ?_
 refine CW.cond rfl (fun h1 => ?_) (fun h1 => ?_)
 have hii : i < a.length := by have := h1; simp at this; first | exact this | omega | (simp; done) | (simp; omega)
 obtain ⟨ei, hei⟩ : ∃ e, a[i]? = some e := ⟨_, List.getElem?_eq_getElem hii⟩
 have hdi := drop_get hei
 refine CW.g XK 41 [.p,.e [0,3],.n 1,.e [0,3,4],.p] rfl rfl rfl ?_
 refine CW.loopI 41 (fun (k : Nat) => [(0, .r (sl 10 Reply.c a)), (3, I (i : Int)), (4, I (k : Int))]) (fun (k : Nat) => k ≤ a.length ∧ (a.drop k).any (badTime ei) = a.any (badTime ei)) (fun (k : Nat) => a.length - k) 0 rfl (Le.c rfl <| Le.c rfl <| Le.c rfl <| Le.e) ⟨by omega, by simp⟩ ?_
 rintro k ⟨hc, hs⟩
 refine CW.g XK 41 [.n 1,.e [0,3,4,14]] rfl rfl rfl ?_
 refine CW.cond rfl (fun h2 => ?_) (fun h2 => ?_)
 have hik : k < a.length := by have := h2; simp at this; first | exact this | omega | (simp; done) | (simp; omega)
 obtain ⟨ek, hek⟩ : ∃ e, a[k]? = some e := ⟨_, List.getElem?_eq_getElem hik⟩
 have hdk := drop_get hek
 have hkl : k < a.length := by first | exact hik | (simp at hik; omega)
 refine CW.g XK 41 [.p,.e [0,3,4],.p,.p] rfl rfl rfl ?_
 refine CW.seqJ 41 (fun (v3 : Bool) => [(0, .r (sl 10 Reply.c a)), (3, I (i : Int)), (4, I (k : Int)), (40, Bo v3)]) (fun v3 => v3 = (decide (ei.call > ek.when_) && decide (ei.index ≤ ek.index))) ?_ ?_
 refine CW.drawn (by kernel_rfl) ?_
 refine RQ.k XK 41 2 rfl ?_
 (conv=>whnf);refine ⟨rfl,?_⟩
 refine RQ.v rfl (V.indexS rfl rfl rfl rfl rfl rfl Reply.len hei) ?_
 refine RQ.k XK 41 4 rfl ?_
 (conv=>whnf);refine ⟨rfl,?_⟩
 refine RQ.v rfl (V.indexS rfl rfl rfl rfl rfl rfl Reply.len hek) ?_
 refine RQ.k XK 41 4 rfl ?_
 (conv=>whnf);refine ⟨rfl,?_⟩
 refine RQ.gv rfl rfl rfl rfl (fun h4 => V.mv (d := .r (sl 10 Reply.c a)) rfl rfl) (fun h4 => ?_) (fun h4 => ?_)
 refine RQ.k XK 41 1 rfl ?_
 (conv=>whnf);refine ⟨rfl,?_⟩
 refine RQ.gt rfl rfl rfl rfl (V.indexS rfl rfl rfl rfl rfl rfl Reply.len hei) ?_
 refine RQ.k XK 41 4 rfl ?_
 (conv=>whnf);refine ⟨rfl,?_⟩
 refine RQ.gt rfl rfl rfl rfl (V.indexS rfl rfl rfl rfl rfl rfl Reply.len hek) ?_
 refine RQ.k XK 41 4 rfl ?_
 (conv=>whnf);refine ⟨rfl,?_⟩
 refine RQ.nil ?_
 exact ⟨_, by first | rfl | (simp_all; done) | (simp_all; omega) | grind, rfl, Le.of rfl⟩
 refine RQ.k XK 41 11 rfl ?_
 (conv=>whnf);refine ⟨rfl,?_⟩
 refine RQ.nil ?_
 exact ⟨_, by first | rfl | (simp_all; done) | (simp_all; omega) | grind, rfl, Le.of rfl⟩
 intro v3 hv5
 refine CW.cond rfl (fun h6 => ?_) (fun h6 => ?_)
 refine CW.g XK 41 [.n 1,.e [2]] rfl rfl rfl ?_
 refine CW.ret ?_
 exact Post.one (RV.b rfl (by rw [← hr, hdi, pairsW, ← hs, hdk, List.any_cons, show badTime ei ek = true from by clear hr hs; first | (simp_all [badTime]; done) | grind [badTime]]; simp)) (AOs.r AOs.e)
 refine CW.g XK 41 [.p,.e [0,3,4],.o 1] rfl rfl rfl ?_
 refine RW.v rfl (V.inc rfl rfl rfl hkl hl0) ?_
 refine RW.g XK 41 [.o 1,.p] rfl rfl rfl ?_
 exact ⟨k + 1, by omega, ⟨by omega, by rw [← hs, hdk, List.any_cons, show badTime ei ek = false from by clear hr hs; first | (simp_all [badTime]; done) | grind [badTime]]; simp⟩, rfl, Le.c rfl <| Le.c rfl <| Le.c rfl <| Le.e⟩
 have hik : a.length ≤ k := by have := h2; simp at this; first | exact this | omega | (simp; done) | (simp; omega)
 have hdk : a.drop k = [] := List.drop_eq_nil_of_le hik
 refine CW.exit ?_
 refine CW.g XK 41 [.e [0,3],.o 1] rfl rfl rfl ?_
 refine RW.v rfl (V.inc rfl rfl rfl hii hl0) ?_
 refine RW.g XK 41 [.o 1,.p] rfl rfl rfl ?_
 exact ⟨i + 1, by omega, ⟨by omega, by rw [← hr, hdi, pairsW, ← hs, hdk]; simp⟩, rfl, Le.c rfl <| Le.c rfl <| Le.e⟩
 have hii : a.length ≤ i := by have := h1; simp at this; first | exact this | omega | (simp; done) | (simp; omega)
 have hdi : a.drop i = [] := List.drop_eq_nil_of_le hii
 refine CW.exit ?_
 refine CW.g XK 41 [.e [],.n 1,.e [2]] rfl rfl rfl ?_
 refine CW.ret ?_
 exact Post.one (RV.b rfl (by first | (simp_all [pairsW]; done) | grind [pairsW])) (AOs.r AOs.e)
set_option maxHeartbeats 4000000 in
theorem spec_Sound_fn (w : World) (hok : okToWorld w) : Eng.Fn E.P 13 [.agg ((World.c w).map .r)] (.one (.one (.w (.v (.bool (soundB w)))))) [.agg ((World.c w).map .r)] := by
 refine Eng.Fn.intro (E := E) (rvs := [.tmp 2]) Tryz.func13 rfl rfl rfl (by simp [outSlots, moved, rvSlot, sl]) ?_
 intro B g bo
 refine CW.g XK 37 [.e [0]] rfl rfl rfl ?_
 have hS : okSl okToServer w.servers := hok.2.1
 have hA : okSl okToApplied w.applied := hok.2.2.2.2.2.1
 have hEl : (ents w.applied).length ≤ 1048576 := Nat.le_trans (ents_len w.applied) hA.1
 have hLS : w.servers.length ≤ maxLen := by have := hS.1; simp only [maxLen]; omega
 refine CW.h XK 37 [.o 1] rfl ?_;(conv=>whnf);intro b1;(conv=>whnf);refine ⟨rfl,?_⟩
 refine RW.freezeB (ts := (World.c w)) 1 rfl (DRd.r (DRd.r (DRd.r (DRd.r (DRd.r (DRd.r (DRd.r DRd.e))))))) ?_
 refine RW.g XK 37 [.o 1,.p,.e [1],.n 1,.e [1,3],.p] rfl rfl rfl ?_
 refine CW.loopI 37 (fun (i : Nat) => [(1, .rp (World.c w)), (3, I ((i : Int) + 1))]) (fun (i : Nat) => FdP w i) (fun (i : Nat) => w.servers.length - i) 0 rfl (Le.c rfl <| Le.c (congrArg I (by omega)) <| Le.e) (FdP.init w) ?_
 rintro i hP
 have hb := hP.1
 refine CW.g XK 37 [.n 1,.e [1,3,8]] rfl rfl rfl ?_
 refine CW.cond rfl (fun h2 => ?_) (fun h2 => ?_)
 have hii : i < w.servers.length := by have h9 := of_decide_eq_true h2; omega
 refine CW.g XK 37 [.p,.e [1,3],.o 2] rfl rfl rfl ?_
 refine RW.call rfl (spec_Folded_fn w ((i : Int) + 1) hok) rfl (.cons (.agg (.cons (.r .r) (.cons (.r .r) (.cons (.r .r) (.cons (.r .r) (.cons (.r .r) (.cons (.r .r) (.cons (.r .r) (.nil))))))))) (.cons (.one (.r .r)) (.nil))) fun g3 => ?_
 refine RW.g XK 37 [.o 1,.p,.e [1,3,14]] rfl rfl rfl ?_
 refine CW.cond rfl (fun h4 => ?_) (fun h4 => ?_)
 have hbad := nT h4
 refine CW.g XK 37 [.n 1,.e [2]] rfl rfl rfl ?_
 refine CW.ret ?_
 exact Post.one (RV.b rfl (by exact (FdP.no hii hbad).symm)) (AOs.a rfl AOs.e)
 have hgood := nF h4
 refine CW.g XK 37 [.p,.e [1,3],.o 3,.p] rfl rfl rfl ?_
 exact ⟨i + 1, by omega, (hP.step hii hgood), rfl, Le.c rfl <| Le.c (congrArg I (by have h9 := hS.1; rw [IntKind.wrap_i64]; omega)) <| Le.e⟩
 have hge : ¬ i < w.servers.length := by have h9 := of_decide_eq_false h2; omega
 refine CW.exit ?_
 refine CW.g XK 37 [.e [1]] rfl rfl rfl ?_
 refine CW.seqJ 37 (fun (v5 : Bool) => [(2, Bo v5)]) (fun v5 => v5 = (((((pairs badLeader [] w.leaders) && (pairs badApplied [] w.applied)) && (pairs badOnce [] w.replies)) && (pairsW badTime w.replies w.replies)) && (pairs badApplied [] w.applied))) ?_ ?_
 refine CW.g XK 37 [.o 2] rfl rfl rfl ?_
 refine RW.call rfl (spec_OneLeader_fn w.leaders) rfl (.cons (.one (.r .r)) (.nil)) fun g6 => ?_
 refine RW.g XK 37 [.o 1] rfl rfl rfl ?_
 refine RW.gv rfl rfl rfl rfl (fun h7 => V.fieldR rfl rfl rfl rfl (by decide) rfl (Nat.le_of_ble_eq_true rfl)) (fun h7 => ?_) (fun h7 => ?_)
 refine RW.g XK 37 [.o 1] rfl rfl rfl ?_
 refine RW.gcall rfl rfl rfl rfl (spec_SameApplied_fn w.applied) rfl (.cons (.one (.r .r)) (.nil)) fun g8 => ?_
 refine RW.g XK 37 [.o 2] rfl rfl rfl ?_
 refine RW.gv rfl rfl rfl rfl (fun h9 => V.fieldR rfl rfl rfl rfl (by decide) rfl (Nat.le_of_ble_eq_true rfl)) (fun h9 => ?_) (fun h9 => ?_)
 refine RW.g XK 37 [.o 1] rfl rfl rfl ?_
 refine RW.gcall rfl rfl rfl rfl (spec_Once_fn w.replies) rfl (.cons (.one (.r .r)) (.nil)) fun g10 => ?_
 refine RW.g XK 37 [.o 2] rfl rfl rfl ?_
 refine RW.gv rfl rfl rfl rfl (fun h11 => V.fieldR rfl rfl rfl rfl (by decide) rfl (Nat.le_of_ble_eq_true rfl)) (fun h11 => ?_) (fun h11 => ?_)
 refine RW.g XK 37 [.o 1] rfl rfl rfl ?_
 refine RW.gcall rfl rfl rfl rfl (spec_InTime_fn w.replies) rfl (.cons (.one (.r .r)) (.nil)) fun g12 => ?_
 refine RW.g XK 37 [.o 2] rfl rfl rfl ?_
 refine RW.gv rfl rfl rfl rfl (fun h13 => V.loadAggR rfl rfl rfl rfl (Nat.le_of_ble_eq_true rfl)) (fun h13 => ?_) (fun h13 => ?_)
 refine RW.gcall rfl rfl rfl rfl (spec_Versions_fn w hok) rfl (.cons (.agg (.cons (.r .r) (.cons (.r .r) (.cons (.r .r) (.cons (.r .r) (.cons (.r .r) (.cons (.r .r) (.cons (.r .r) (.nil))))))))) (.nil)) fun g14 => ?_
 refine RW.g XK 37 [.o 2,.p] rfl rfl rfl ?_
 exact ⟨_, by first | rfl | (simp_all; done) | (simp_all; omega) | grind, rfl, Le.of rfl⟩
 refine RW.g XK 37 [.o 3,.p] rfl rfl rfl ?_
 exact ⟨_, by first | rfl | (simp_all; done) | (simp_all; omega) | grind, rfl, Le.of rfl⟩
 refine RW.g XK 37 [.o 8,.p] rfl rfl rfl ?_
 exact ⟨_, by first | rfl | (simp_all; done) | (simp_all; omega) | grind, rfl, Le.of rfl⟩
 refine RW.g XK 37 [.o 13,.p] rfl rfl rfl ?_
 exact ⟨_, by first | rfl | (simp_all; done) | (simp_all; omega) | grind, rfl, Le.of rfl⟩
 refine RW.g XK 37 [.o 18,.p] rfl rfl rfl ?_
 exact ⟨_, by first | rfl | (simp_all; done) | (simp_all; omega) | grind, rfl, Le.of rfl⟩
 intro v5 hv15
 refine CW.ret ?_
 exact Post.one (RV.b rfl (by (simp only [soundB, FdP.all hP hge, Bool.true_and]; first | rfl | (simp_all; done) | grind))) (AOs.a rfl AOs.e)
set_option maxHeartbeats 4000000 in
theorem impl_OneLeader_fn (a : List Leader) : Eng.Fn E.P 55 [.one (.r (sl 5 Leader.c a))] (.one (.one (.w (.v (.bool (pairs badLeader [] a)))))) [.one (.r (sl 5 Leader.c a))] := by
 refine Eng.Fn.intro (E := E) (rvs := [.tmp 2]) Tryz.func55 rfl rfl rfl (by simp [outSlots, moved, rvSlot, sl]) ?_
 intro B g bo
 refine CW.bound (x := .tmp 0) (n := a.length) (AsT.r) (fun hl0 => ?_)
 refine CW.g XK 36 [.e [0],.n 1,.e [0],.n 1,.e [0,7,8,9],.p] rfl rfl rfl ?_
 refine CW.loopI 36 (fun (i : Nat) => [(0, .r (sl 5 Leader.c a)), (7, .r (sl 5 Leader.c a)), (8, I (a.length : Int)), (9, I (i : Int))]) (fun (i : Nat) => i ≤ a.length ∧ pairs badLeader (a.take i) (a.drop i) = pairs badLeader [] a) (fun (i : Nat) => a.length - i) 0 rfl (Le.c rfl <| Le.c rfl <| Le.c rfl <| Le.c rfl <| Le.e) ⟨by omega, by simp⟩ ?_
 rintro i ⟨hb, hr⟩
 refine CW.g XK 36 [.n 1,.e [0,7,8,9,10],.p] rfl rfl rfl ?_
 refine CW.cond rfl (fun h1 => ?_) (fun h1 => ?_)
 have hii : i < a.length := by have := h1; simp at this; first | exact this | omega | (simp; done) | (simp; omega)
 obtain ⟨ei, hei⟩ : ∃ e, a[i]? = some e := ⟨_, List.getElem?_eq_getElem hii⟩
 have hdi := drop_get hei
 refine CW.g XK 36 [.p,.e [0,7,8,9],.o 1] rfl rfl rfl ?_
 refine RW.v rfl (V.indexS rfl rfl rfl rfl rfl rfl Leader.len hei) ?_
 refine RW.h XK 36 [.o 4] rfl ?_;(conv=>whnf);intro b2;(conv=>whnf);refine ⟨rfl,?_⟩
 refine RW.freezeB (ts := (Leader.c ei)) 4 rfl (DRd.r (DRd.r (DRd.r (DRd.r (DRd.r DRd.e))))) ?_
 refine RW.g XK 36 [.p,.e [0,3,4,7,8,9],.o 2] rfl rfl rfl ?_
 refine RW.v rfl (V.takeS (m := i) rfl rfl rfl rfl rfl rfl Leader.len (Nat.le_of_lt hii)) ?_
 refine RW.g XK 36 [.o 2,.p,.e [0,4,7,8,9,16,17,18],.p] rfl rfl rfl ?_
 refine CW.loopI 36 (fun (k : Nat) => [(0, .r (sl 5 Leader.c a)), (4, .rp (Leader.c ei)), (7, .r (sl 5 Leader.c a)), (8, I (a.length : Int)), (9, I (i : Int)), (16, .r (sl 5 Leader.c (a.take i))), (17, I ((a.take i).length : Int)), (18, I (k : Int))]) (fun (k : Nat) => k ≤ i ∧ ((a.take i).drop k).any (badLeader ei) = (a.take i).any (badLeader ei)) (fun (k : Nat) => i - k) 0 rfl (Le.c rfl <| Le.c rfl <| Le.c rfl <| Le.c rfl <| Le.c rfl <| Le.c rfl <| Le.c rfl <| Le.c rfl <| Le.e) ⟨by omega, by simp⟩ ?_
 rintro k ⟨hc, hs⟩
 refine CW.g XK 36 [.n 1,.e [0,4,7,8,9,16,17,18,19],.p] rfl rfl rfl ?_
 refine CW.cond rfl (fun h3 => ?_) (fun h3 => ?_)
 have hik : k < (a.take i).length := by have := h3; simp at this; first | exact this | omega | (simp; done) | (simp; omega)
 obtain ⟨ek, hek⟩ : ∃ e, (a.take i)[k]? = some e := ⟨_, List.getElem?_eq_getElem hik⟩
 have hdk := drop_get hek
 have hkl : k < i := by first | exact hik | (simp at hik; omega)
 refine CW.g XK 36 [.p,.e [0,4,7,8,9,16,17,18],.p,.p,.p,.p] rfl rfl rfl ?_
 refine RW.v rfl (V.indexS rfl rfl rfl rfl rfl rfl Leader.len hek) ?_
 refine RW.h XK 36 [.o 3] rfl ?_;(conv=>whnf);intro b4;(conv=>whnf);refine ⟨rfl,?_⟩
 refine RW.freezeB (ts := (Leader.c ek)) 6 rfl (DRd.r (DRd.r (DRd.r (DRd.r (DRd.r DRd.e))))) ?_
 refine RW.g XK 36 [.p,.e [0,4,6,7,8,9,16,17,18]] rfl rfl rfl ?_
 refine CW.seqJ 36 (fun (v5 : Bool) => [(0, .r (sl 5 Leader.c a)), (4, .rp (Leader.c ei)), (7, .r (sl 5 Leader.c a)), (8, I (a.length : Int)), (9, I (i : Int)), (16, .r (sl 5 Leader.c (a.take i))), (17, I ((a.take i).length : Int)), (18, I (k : Int)), (33, Bo v5)]) (fun v5 => v5 = ((ei.term_ == ek.term_) && (ei.node != ek.node))) ?_ ?_
 refine CW.g XK 36 [.o 6] rfl rfl rfl ?_
 refine RW.gv rfl rfl rfl rfl (fun h6 => V.fieldR rfl rfl rfl rfl (by decide) rfl (Nat.le_of_ble_eq_true rfl)) (fun h6 => ?_) (fun h6 => ?_)
 refine RW.g XK 36 [.o 5,.p] rfl rfl rfl ?_
 exact ⟨_, by first | rfl | (simp_all; done) | (simp_all; omega) | grind, rfl, Le.of rfl⟩
 refine RW.g XK 36 [.o 5,.p] rfl rfl rfl ?_
 exact ⟨_, by first | rfl | (simp_all; done) | (simp_all; omega) | grind, rfl, Le.of rfl⟩
 intro v5 hv7
 refine CW.cond rfl (fun h8 => ?_) (fun h8 => ?_)
 refine CW.g XK 36 [.n 1,.e [2]] rfl rfl rfl ?_
 refine CW.ret ?_
 exact Post.one (RV.b rfl (by rw [← hr, hdi, pairs, ← hs, hdk, List.any_cons, show badLeader ei ek = true from by clear hr hs; first | (simp_all [badLeader]; done) | grind [badLeader]]; simp)) (AOs.r AOs.e)
 refine CW.g XK 36 [.p,.e [0,4,7,8,9,16,17,18],.p] rfl rfl rfl ?_
 refine RW.v rfl (V.inc rfl rfl rfl hkl (Nat.le_trans (Nat.le_of_lt hii) hl0)) ?_
 refine RW.g XK 36 [.o 1,.p] rfl rfl rfl ?_
 exact ⟨k + 1, by omega, ⟨by omega, by rw [← hs, hdk, List.any_cons, show badLeader ei ek = false from by clear hr hs; first | (simp_all [badLeader]; done) | grind [badLeader]]; simp⟩, rfl, Le.c rfl <| Le.c rfl <| Le.c rfl <| Le.c rfl <| Le.c rfl <| Le.c rfl <| Le.c rfl <| Le.c rfl <| Le.e⟩
 have hik : (a.take i).length ≤ k := by have := h3; simp at this; first | exact this | omega | (simp; done) | (simp; omega)
 have hdk : (a.take i).drop k = [] := List.drop_eq_nil_of_le hik
 refine CW.exit ?_
 refine CW.g XK 36 [.e [0,7,8,9],.p] rfl rfl rfl ?_
 refine RW.v rfl (V.inc rfl rfl rfl hii hl0) ?_
 refine RW.g XK 36 [.o 1,.p] rfl rfl rfl ?_
 exact ⟨i + 1, by omega, ⟨by omega, by rw [← hr, hdi, pairs, ← hs, hdk, take_snoc hei]; simp⟩, rfl, Le.c rfl <| Le.c rfl <| Le.c rfl <| Le.c rfl <| Le.e⟩
 have hii : a.length ≤ i := by have := h1; simp at this; first | exact this | omega | (simp; done) | (simp; omega)
 have hdi : a.drop i = [] := List.drop_eq_nil_of_le hii
 refine CW.exit ?_
 refine CW.g XK 36 [.e [],.n 1,.e [2]] rfl rfl rfl ?_
 refine CW.ret ?_
 exact Post.one (RV.b rfl q29) (AOs.r AOs.e)
set_option maxHeartbeats 4000000 in
theorem impl_refusal_fn (a : ByteArray) : Eng.Fn E.P 91 [.one (.r (.v (.string a)))] (.one (.one (.w (.v (.bool (plain a)))))) [.one (.r (.v (.string a)))] := by
 refine Eng.Fn.intro (E := E) (rvs := [.tmp 2]) Tryz.func91 rfl rfl rfl (by simp [outSlots, moved, rvSlot, sl]) ?_
 intro B g bo
 refine CW.g XK 13 [.e [0],.n 1,.e [0]] rfl rfl rfl ?_
 refine CW.seqJ 13 (fun (v1 : Bool) => [(2, Bo v1)]) (fun v1 => v1 = (((a.toList == (⟨#[103, 97, 112]⟩ : ByteArray).toList) || (a.toList == (⟨#[110, 111, 110, 101]⟩ : ByteArray).toList)) || (a.toList == (⟨#[111, 108, 100]⟩ : ByteArray).toList))) ?_ ?_
 refine CW.g XK 13 [.o 3] rfl rfl rfl ?_
 refine RW.gv rfl rfl rfl rfl (fun h2 => V.mv (d := S a) rfl rfl) (fun h2 => ?_) (fun h2 => ?_)
 refine RW.g XK 13 [.o 3] rfl rfl rfl ?_
 refine RW.gv rfl rfl rfl rfl (fun h3 => V.mv (d := S a) rfl rfl) (fun h3 => ?_) (fun h3 => ?_)
 refine RW.g XK 13 [.o 3,.p] rfl rfl rfl ?_
 exact ⟨_, by first | rfl | (simp_all; done) | (simp_all; omega) | grind, rfl, Le.of rfl⟩
 refine RW.g XK 13 [.o 3,.p] rfl rfl rfl ?_
 exact ⟨_, by first | rfl | (simp_all; done) | (simp_all; omega) | grind, rfl, Le.of rfl⟩
 refine RW.g XK 13 [.o 7,.p] rfl rfl rfl ?_
 exact ⟨_, by first | rfl | (simp_all; done) | (simp_all; omega) | grind, rfl, Le.of rfl⟩
 intro v1 hv4
 refine CW.ret ?_
 exact Post.one (RV.b rfl (by simp_all [plain, Bool.or_assoc])) (AOs.r AOs.e)
set_option maxHeartbeats 4000000 in
theorem impl_Once_fn (a : List Reply) : Eng.Fn E.P 57 [.one (.r (sl 10 Reply.c a))] (.one (.one (.w (.v (.bool (pairs badOnce [] a)))))) [.one (.r (sl 10 Reply.c a))] := by
 refine Eng.Fn.intro (E := E) (rvs := [.tmp 2]) Tryz.func57 rfl rfl rfl (by simp [outSlots, moved, rvSlot, sl]) ?_
 intro B g bo
 refine CW.bound (x := .tmp 0) (n := a.length) (AsT.r) (fun hl0 => ?_)
 refine CW.g XK 67 [.e [0],.n 1,.e [0],.n 1,.e [0,8,9,10],.p] rfl rfl rfl ?_
 refine CW.loopI 67 (fun (i : Nat) => [(0, .r (sl 10 Reply.c a)), (8, .r (sl 10 Reply.c a)), (9, I (a.length : Int)), (10, I (i : Int))]) (fun (i : Nat) => i ≤ a.length ∧ pairs badOnce (a.take i) (a.drop i) = pairs badOnce [] a) (fun (i : Nat) => a.length - i) 0 rfl (Le.c rfl <| Le.c rfl <| Le.c rfl <| Le.c rfl <| Le.e) ⟨by omega, by simp⟩ ?_
 rintro i ⟨hb, hr⟩
 refine CW.g XK 67 [.n 1,.e [0,8,9,10,11],.p] rfl rfl rfl ?_
 refine CW.cond rfl (fun h1 => ?_) (fun h1 => ?_)
 have hii : i < a.length := by have := h1; simp at this; first | exact this | omega | (simp; done) | (simp; omega)
 obtain ⟨ei, hei⟩ : ∃ e, a[i]? = some e := ⟨_, List.getElem?_eq_getElem hii⟩
 have hdi := drop_get hei
 refine CW.g XK 67 [.p,.e [0,8,9,10],.o 1] rfl rfl rfl ?_
 refine RW.v rfl (V.indexS rfl rfl rfl rfl rfl rfl Reply.len hei) ?_
 refine RW.h XK 67 [.o 4] rfl ?_;(conv=>whnf);intro b2;(conv=>whnf);refine ⟨rfl,?_⟩
 refine RW.freezeB (ts := (Reply.c ei)) 4 rfl (DRd.r (DRd.r (DRd.r (DRd.r (DRd.r (DRd.r (DRd.r (DRd.r (DRd.r (DRd.r DRd.e)))))))))) ?_
 refine RW.g XK 67 [.p,.e [0,3,4,8,9,10],.o 2] rfl rfl rfl ?_
 refine RW.v rfl (V.takeS (m := i) rfl rfl rfl rfl rfl rfl Reply.len (Nat.le_of_lt hii)) ?_
 refine RW.g XK 67 [.o 2,.p,.e [0,4,8,9,10,17,18,19],.p] rfl rfl rfl ?_
 refine CW.loopI 67 (fun (k : Nat) => [(0, .r (sl 10 Reply.c a)), (4, .rp (Reply.c ei)), (8, .r (sl 10 Reply.c a)), (9, I (a.length : Int)), (10, I (i : Int)), (17, .r (sl 10 Reply.c (a.take i))), (18, I ((a.take i).length : Int)), (19, I (k : Int))]) (fun (k : Nat) => k ≤ i ∧ ((a.take i).drop k).any (badOnce ei) = (a.take i).any (badOnce ei)) (fun (k : Nat) => i - k) 0 rfl (Le.c rfl <| Le.c rfl <| Le.c rfl <| Le.c rfl <| Le.c rfl <| Le.c rfl <| Le.c rfl <| Le.c rfl <| Le.e) ⟨by omega, by simp⟩ ?_
 rintro k ⟨hc, hs⟩
 refine CW.g XK 67 [.n 1,.e [0,4,8,9,10,17,18,19,20],.p] rfl rfl rfl ?_
 refine CW.cond rfl (fun h3 => ?_) (fun h3 => ?_)
 have hik : k < (a.take i).length := by have := h3; simp at this; first | exact this | omega | (simp; done) | (simp; omega)
 obtain ⟨ek, hek⟩ : ∃ e, (a.take i)[k]? = some e := ⟨_, List.getElem?_eq_getElem hik⟩
 have hdk := drop_get hek
 have hkl : k < i := by first | exact hik | (simp at hik; omega)
 refine CW.g XK 67 [.p,.e [0,4,8,9,10,17,18,19],.p,.p,.p,.p] rfl rfl rfl ?_
 refine RW.v rfl (V.indexS rfl rfl rfl rfl rfl rfl Reply.len hek) ?_
 refine RW.h XK 67 [.o 3] rfl ?_;(conv=>whnf);intro b4;(conv=>whnf);refine ⟨rfl,?_⟩
 refine RW.freezeB (ts := (Reply.c ek)) 6 rfl (DRd.r (DRd.r (DRd.r (DRd.r (DRd.r (DRd.r (DRd.r (DRd.r (DRd.r (DRd.r DRd.e)))))))))) ?_
 refine RW.g XK 67 [.p,.e [0,4,6,8,9,10,17,18,19]] rfl rfl rfl ?_
 refine CW.seqJ 67 (fun (v5 : Bool) => [(0, .r (sl 10 Reply.c a)), (4, .rp (Reply.c ei)), (6, .rp (Reply.c ek)), (7, Bo v5), (8, .r (sl 10 Reply.c a)), (9, I (a.length : Int)), (10, I (i : Int)), (17, .r (sl 10 Reply.c (a.take i))), (18, I ((a.take i).length : Int)), (19, I (k : Int))]) (fun v5 => v5 = (((ei.command.token == ek.command.token) && (ei.command.seq == ek.command.seq)) && (ei.command.token != 0))) ?_ ?_
 refine CW.g XK 67 [.o 8] rfl rfl rfl ?_
 refine RW.gv rfl rfl rfl rfl (fun h6 => V.fieldR rfl rfl rfl rfl (by decide) rfl (Nat.le_of_ble_eq_true rfl)) (fun h6 => ?_) (fun h6 => ?_)
 refine RW.g XK 67 [.o 8] rfl rfl rfl ?_
 refine RW.gv rfl rfl rfl rfl (fun h7 => V.fieldR rfl rfl rfl rfl (by decide) rfl (Nat.le_of_ble_eq_true rfl)) (fun h7 => ?_) (fun h7 => ?_)
 refine RW.g XK 67 [.o 5,.p] rfl rfl rfl ?_
 exact ⟨_, by first | rfl | (simp_all; done) | (simp_all; omega) | grind, rfl, Le.of rfl⟩
 refine RW.g XK 67 [.o 5,.p] rfl rfl rfl ?_
 exact ⟨_, by first | rfl | (simp_all; done) | (simp_all; omega) | grind, rfl, Le.of rfl⟩
 refine RW.g XK 67 [.o 14,.p] rfl rfl rfl ?_
 exact ⟨_, by first | rfl | (simp_all; done) | (simp_all; omega) | grind, rfl, Le.of rfl⟩
 intro v5 hv8
 refine CW.seqJ 67 (fun (v9 : Bool) => [(0, .r (sl 10 Reply.c a)), (4, .rp (Reply.c ei)), (8, .r (sl 10 Reply.c a)), (9, I (a.length : Int)), (10, I (i : Int)), (17, .r (sl 10 Reply.c (a.take i))), (18, I ((a.take i).length : Int)), (19, I (k : Int)), (64, Bo v9)]) (fun v9 => v9 = (((v5 && (!(plain ei.text))) && (!(plain ek.text))) && (!(ei.text.toList == ek.text.toList)))) ?_ ?_
 refine CW.g XK 67 [.o 2] rfl rfl rfl ?_
 refine RW.gv rfl rfl rfl rfl (fun h10 => V.fieldR rfl rfl rfl rfl (by decide) rfl (Nat.le_of_ble_eq_true rfl)) (fun h10 => ?_) (fun h10 => ?_)
 refine RW.g XK 67 [.o 1] rfl rfl rfl ?_
 refine RW.gcall rfl rfl rfl rfl (impl_refusal_fn ei.text) rfl (.cons (.one (.r .r)) (.nil)) fun g11 => ?_
 refine RW.g XK 67 [.o 3] rfl rfl rfl ?_
 refine RW.gv rfl rfl rfl rfl (fun h12 => V.fieldR rfl rfl rfl rfl (by decide) rfl (Nat.le_of_ble_eq_true rfl)) (fun h12 => ?_) (fun h12 => ?_)
 refine RW.g XK 67 [.o 1] rfl rfl rfl ?_
 refine RW.gcall rfl rfl rfl rfl (impl_refusal_fn ek.text) rfl (.cons (.one (.r .r)) (.nil)) fun g13 => ?_
 refine RW.g XK 67 [.o 3] rfl rfl rfl ?_
 refine RW.gv rfl rfl rfl rfl (fun h14 => V.fieldR rfl rfl rfl rfl (by decide) rfl (Nat.le_of_ble_eq_true rfl)) (fun h14 => ?_) (fun h14 => ?_)
 refine RW.g XK 67 [.o 5,.p] rfl rfl rfl ?_
 exact ⟨_, by first | rfl | (simp_all; done) | (simp_all; omega) | grind, rfl, Le.of rfl⟩
 refine RW.g XK 67 [.o 5,.p] rfl rfl rfl ?_
 exact ⟨_, by first | rfl | (simp_all; done) | (simp_all; omega) | grind, rfl, Le.of rfl⟩
 refine RW.g XK 67 [.o 11,.p] rfl rfl rfl ?_
 exact ⟨_, by first | rfl | (simp_all; done) | (simp_all; omega) | grind, rfl, Le.of rfl⟩
 refine RW.g XK 67 [.o 17,.p] rfl rfl rfl ?_
 exact ⟨_, by first | rfl | (simp_all; done) | (simp_all; omega) | grind, rfl, Le.of rfl⟩
 intro v9 hv15
 refine CW.cond rfl (fun h16 => ?_) (fun h16 => ?_)
 refine CW.g XK 67 [.n 1,.e [2]] rfl rfl rfl ?_
 refine CW.ret ?_
 exact Post.one (RV.b rfl (by rw [← hr, hdi, pairs, ← hs, hdk, List.any_cons, show badOnce ei ek = true from by clear hr hs; first | (simp_all [badOnce]; done) | grind [badOnce]]; simp)) (AOs.r AOs.e)
 refine CW.g XK 67 [.p,.e [0,4,8,9,10,17,18,19],.p] rfl rfl rfl ?_
 refine RW.v rfl (V.inc rfl rfl rfl hkl (Nat.le_trans (Nat.le_of_lt hii) hl0)) ?_
 refine RW.g XK 67 [.o 1,.p] rfl rfl rfl ?_
 exact ⟨k + 1, by omega, ⟨by omega, by rw [← hs, hdk, List.any_cons, show badOnce ei ek = false from by clear hr hs; first | (simp_all [badOnce]; done) | grind [badOnce]]; simp⟩, rfl, Le.c rfl <| Le.c rfl <| Le.c rfl <| Le.c rfl <| Le.c rfl <| Le.c rfl <| Le.c rfl <| Le.c rfl <| Le.e⟩
 have hik : (a.take i).length ≤ k := by have := h3; simp at this; first | exact this | omega | (simp; done) | (simp; omega)
 have hdk : (a.take i).drop k = [] := List.drop_eq_nil_of_le hik
 refine CW.exit ?_
 refine CW.g XK 67 [.e [0,8,9,10],.p] rfl rfl rfl ?_
 refine RW.v rfl (V.inc rfl rfl rfl hii hl0) ?_
 refine RW.g XK 67 [.o 1,.p] rfl rfl rfl ?_
 exact ⟨i + 1, by omega, ⟨by omega, by rw [← hr, hdi, pairs, ← hs, hdk, take_snoc hei]; simp⟩, rfl, Le.c rfl <| Le.c rfl <| Le.c rfl <| Le.c rfl <| Le.e⟩
 have hii : a.length ≤ i := by have := h1; simp at this; first | exact this | omega | (simp; done) | (simp; omega)
 have hdi : a.drop i = [] := List.drop_eq_nil_of_le hii
 refine CW.exit ?_
 refine CW.g XK 67 [.e [],.n 1,.e [2]] rfl rfl rfl ?_
 refine CW.ret ?_
 exact Post.one (RV.b rfl q29) (AOs.r AOs.e)
set_option maxHeartbeats 4000000 in
theorem impl_InTime_fn (a : List Reply) : Eng.Fn E.P 58 [.one (.r (sl 10 Reply.c a))] (.one (.one (.w (.v (.bool (pairsW badTime a a)))))) [.one (.r (sl 10 Reply.c a))] := by
 refine Eng.Fn.intro (E := E) (rvs := [.tmp 2]) Tryz.func58 rfl rfl rfl (by simp [outSlots, moved, rvSlot, sl]) ?_
 intro B g bo
 refine CW.bound (x := .tmp 0) (n := a.length) (AsT.r) (fun hl0 => ?_)
 refine CW.g XK 33 [.e [0],.n 1,.e [0],.n 1,.e [0,7,8,9],.p] rfl rfl rfl ?_
 refine CW.loopI 33 (fun (i : Nat) => [(0, .r (sl 10 Reply.c a)), (7, .r (sl 10 Reply.c a)), (8, I (a.length : Int)), (9, I (i : Int))]) (fun (i : Nat) => i ≤ a.length ∧ pairsW badTime a (a.drop i) = pairsW badTime a a) (fun (i : Nat) => a.length - i) 0 rfl (Le.c rfl <| Le.c rfl <| Le.c rfl <| Le.c rfl <| Le.e) ⟨by omega, by simp⟩ ?_
 rintro i ⟨hb, hr⟩
 refine CW.g XK 33 [.n 1,.e [0,7,8,9,10],.p] rfl rfl rfl ?_
 refine CW.cond rfl (fun h1 => ?_) (fun h1 => ?_)
 have hii : i < a.length := by have := h1; simp at this; first | exact this | omega | (simp; done) | (simp; omega)
 obtain ⟨ei, hei⟩ : ∃ e, a[i]? = some e := ⟨_, List.getElem?_eq_getElem hii⟩
 have hdi := drop_get hei
 refine CW.g XK 33 [.p,.e [0,7,8,9],.p,.p,.p,.p] rfl rfl rfl ?_
 refine RW.v rfl (V.indexS rfl rfl rfl rfl rfl rfl Reply.len hei) ?_
 refine RW.h XK 33 [.o 3] rfl ?_;(conv=>whnf);intro b2;(conv=>whnf);refine ⟨rfl,?_⟩
 refine RW.freezeB (ts := (Reply.c ei)) 4 rfl (DRd.r (DRd.r (DRd.r (DRd.r (DRd.r (DRd.r (DRd.r (DRd.r (DRd.r (DRd.r DRd.e)))))))))) ?_
 refine RW.g XK 33 [.p,.e [0,4,7,8,9],.n 1,.e [0,4,7,8,9,13,14,15],.p] rfl rfl rfl ?_
 refine CW.loopI 33 (fun (k : Nat) => [(0, .r (sl 10 Reply.c a)), (4, .rp (Reply.c ei)), (7, .r (sl 10 Reply.c a)), (8, I (a.length : Int)), (9, I (i : Int)), (13, .r (sl 10 Reply.c a)), (14, I (a.length : Int)), (15, I (k : Int))]) (fun (k : Nat) => k ≤ a.length ∧ (a.drop k).any (badTime ei) = a.any (badTime ei)) (fun (k : Nat) => a.length - k) 0 rfl (Le.c rfl <| Le.c rfl <| Le.c rfl <| Le.c rfl <| Le.c rfl <| Le.c rfl <| Le.c rfl <| Le.c rfl <| Le.e) ⟨by omega, by simp⟩ ?_
 rintro k ⟨hc, hs⟩
 refine CW.g XK 33 [.n 1,.e [0,4,7,8,9,13,14,15,16],.p] rfl rfl rfl ?_
 refine CW.cond rfl (fun h3 => ?_) (fun h3 => ?_)
 have hik : k < a.length := by have := h3; simp at this; first | exact this | omega | (simp; done) | (simp; omega)
 obtain ⟨ek, hek⟩ : ∃ e, a[k]? = some e := ⟨_, List.getElem?_eq_getElem hik⟩
 have hdk := drop_get hek
 have hkl : k < a.length := by first | exact hik | (simp at hik; omega)
 refine CW.g XK 33 [.p,.e [0,4,7,8,9,13,14,15],.p,.p,.p,.p] rfl rfl rfl ?_
 refine RW.v rfl (V.indexS rfl rfl rfl rfl rfl rfl Reply.len hek) ?_
 refine RW.h XK 33 [.o 3] rfl ?_;(conv=>whnf);intro b4;(conv=>whnf);refine ⟨rfl,?_⟩
 refine RW.freezeB (ts := (Reply.c ek)) 6 rfl (DRd.r (DRd.r (DRd.r (DRd.r (DRd.r (DRd.r (DRd.r (DRd.r (DRd.r (DRd.r DRd.e)))))))))) ?_
 refine RW.g XK 33 [.p,.e [0,4,6,7,8,9,13,14,15]] rfl rfl rfl ?_
 refine CW.seqJ 33 (fun (v5 : Bool) => [(0, .r (sl 10 Reply.c a)), (4, .rp (Reply.c ei)), (7, .r (sl 10 Reply.c a)), (8, I (a.length : Int)), (9, I (i : Int)), (13, .r (sl 10 Reply.c a)), (14, I (a.length : Int)), (15, I (k : Int)), (30, Bo v5)]) (fun v5 => v5 = (decide (ei.call > ek.when_) && decide (ei.index ≤ ek.index))) ?_ ?_
 refine CW.g XK 33 [.o 6] rfl rfl rfl ?_
 refine RW.gv rfl rfl rfl rfl (fun h6 => V.fieldR rfl rfl rfl rfl (by decide) rfl (Nat.le_of_ble_eq_true rfl)) (fun h6 => ?_) (fun h6 => ?_)
 refine RW.g XK 33 [.o 5,.p] rfl rfl rfl ?_
 exact ⟨_, by first | rfl | (simp_all; done) | (simp_all; omega) | grind, rfl, Le.of rfl⟩
 refine RW.g XK 33 [.o 5,.p] rfl rfl rfl ?_
 exact ⟨_, by first | rfl | (simp_all; done) | (simp_all; omega) | grind, rfl, Le.of rfl⟩
 intro v5 hv7
 refine CW.cond rfl (fun h8 => ?_) (fun h8 => ?_)
 refine CW.g XK 33 [.n 1,.e [2]] rfl rfl rfl ?_
 refine CW.ret ?_
 exact Post.one (RV.b rfl (by rw [← hr, hdi, pairsW, ← hs, hdk, List.any_cons, show badTime ei ek = true from by clear hr hs; first | (simp_all [badTime]; done) | grind [badTime]]; simp)) (AOs.r AOs.e)
 refine CW.g XK 33 [.p,.e [0,4,7,8,9,13,14,15],.p] rfl rfl rfl ?_
 refine RW.v rfl (V.inc rfl rfl rfl hkl hl0) ?_
 refine RW.g XK 33 [.o 1,.p] rfl rfl rfl ?_
 exact ⟨k + 1, by omega, ⟨by omega, by rw [← hs, hdk, List.any_cons, show badTime ei ek = false from by clear hr hs; first | (simp_all [badTime]; done) | grind [badTime]]; simp⟩, rfl, Le.c rfl <| Le.c rfl <| Le.c rfl <| Le.c rfl <| Le.c rfl <| Le.c rfl <| Le.c rfl <| Le.c rfl <| Le.e⟩
 have hik : a.length ≤ k := by have := h3; simp at this; first | exact this | omega | (simp; done) | (simp; omega)
 have hdk : a.drop k = [] := List.drop_eq_nil_of_le hik
 refine CW.exit ?_
 refine CW.g XK 33 [.e [0,7,8,9],.p] rfl rfl rfl ?_
 refine RW.v rfl (V.inc rfl rfl rfl hii hl0) ?_
 refine RW.g XK 33 [.o 1,.p] rfl rfl rfl ?_
 exact ⟨i + 1, by omega, ⟨by omega, by rw [← hr, hdi, pairsW, ← hs, hdk]; simp⟩, rfl, Le.c rfl <| Le.c rfl <| Le.c rfl <| Le.c rfl <| Le.e⟩
 have hii : a.length ≤ i := by have := h1; simp at this; first | exact this | omega | (simp; done) | (simp; omega)
 have hdi : a.drop i = [] := List.drop_eq_nil_of_le hii
 refine CW.exit ?_
 refine CW.g XK 33 [.e [],.n 1,.e [2]] rfl rfl rfl ?_
 refine CW.ret ?_
 exact Post.one (RV.b rfl (by first | (simp_all [pairsW]; done) | grind [pairsW])) (AOs.r AOs.e)
set_option maxHeartbeats 4000000 in
theorem impl_Sound_fn (w : World) (hok : okToWorld w) : Eng.Fn E.P 14 [.agg ((World.c w).map .r)] (.one (.one (.w (.v (.bool (soundB w)))))) [.agg ((World.c w).map .r)] := by
 refine Eng.Fn.intro (E := E) (rvs := [.tmp 2]) Tryz.func14 rfl rfl rfl (by simp [outSlots, moved, rvSlot, sl]) ?_
 intro B g bo
 refine CW.g XK 38 [.e [0]] rfl rfl rfl ?_
 have hS : okSl okToServer w.servers := hok.2.1
 have hA : okSl okToApplied w.applied := hok.2.2.2.2.2.1
 have hEl : (ents w.applied).length ≤ 1048576 := Nat.le_trans (ents_len w.applied) hA.1
 have hLS : w.servers.length ≤ maxLen := by have := hS.1; simp only [maxLen]; omega
 refine CW.h XK 38 [.o 1] rfl ?_;(conv=>whnf);intro b1;(conv=>whnf);refine ⟨rfl,?_⟩
 refine RW.freezeB (ts := (World.c w)) 1 rfl (DRd.r (DRd.r (DRd.r (DRd.r (DRd.r (DRd.r (DRd.r DRd.e))))))) ?_
 refine RW.g XK 38 [.o 1,.p,.e [1],.n 1,.e [1,6,7],.p] rfl rfl rfl ?_
 refine CW.loopI 38 (fun (i : Nat) => [(1, .rp (World.c w)), (6, I (w.servers.length : Int)), (7, I (i : Int))]) (fun (i : Nat) => FdP w i) (fun (i : Nat) => w.servers.length - i) 0 rfl (Le.c rfl <| Le.c rfl <| Le.c rfl <| Le.e) (FdP.init w) ?_
 rintro i hP
 have hb := hP.1
 refine CW.g XK 38 [.n 1,.e [1,6,7,8],.p] rfl rfl rfl ?_
 refine CW.cond rfl (fun h2 => ?_) (fun h2 => ?_)
 have hii : i < w.servers.length := by have := h2; simp at this; first | exact this | omega | (simp; done) | (simp; omega)
 obtain ⟨ei, hei⟩ : ∃ e, w.servers[i]? = some e := ⟨_, List.getElem?_eq_getElem hii⟩
 have hdi := drop_get hei
 have hw1 : IntKind.i64.wrap ((i : Int) + 1) = (i : Int) + 1 := by have h9 := hS.1; rw [IntKind.wrap_i64]; omega
 refine CW.g XK 38 [.p,.e [1,6,7],.n 1,.e [1,3,6,7],.o 2] rfl rfl rfl ?_
 refine RW.v rfl (V.inc rfl rfl rfl hii hLS) ?_
 refine RW.call rfl (impl_Folded_fn w ((i + 1 : Nat) : Int) hok) rfl (.cons (.agg (.cons (.r .r) (.cons (.r .r) (.cons (.r .r) (.cons (.r .r) (.cons (.r .r) (.cons (.r .r) (.cons (.r .r) (.nil))))))))) (.cons (.one (.r .r)) (.nil))) fun g3 => ?_
 refine RW.g XK 38 [.o 1,.p,.e [1,6,7,14]] rfl rfl rfl ?_
 refine CW.cond rfl (fun h4 => ?_) (fun h4 => ?_)
 have hbad := nT h4
 refine CW.g XK 38 [.n 1,.e [2]] rfl rfl rfl ?_
 refine CW.ret ?_
 exact Post.one (RV.b rfl (by exact (FdP.no hii hbad).symm)) (AOs.a rfl AOs.e)
 have hgood := nF h4
 refine CW.g XK 38 [.p,.e [1,6,7],.p] rfl rfl rfl ?_
 refine RW.v rfl (V.inc rfl rfl rfl hii hLS) ?_
 refine RW.g XK 38 [.o 1,.p] rfl rfl rfl ?_
 exact ⟨i + 1, by omega, (hP.step hii hgood), rfl, Le.c rfl <| Le.c rfl <| Le.c rfl <| Le.e⟩
 have hge : ¬ i < w.servers.length := by have h9 := of_decide_eq_false h2; omega
 have hii : w.servers.length ≤ i := by have := h2; simp at this; first | exact this | omega | (simp; done) | (simp; omega)
 have hdi : w.servers.drop i = [] := List.drop_eq_nil_of_le hii
 refine CW.exit ?_
 refine CW.g XK 38 [.e [1]] rfl rfl rfl ?_
 refine CW.seqJ 38 (fun (v5 : Bool) => [(2, Bo v5)]) (fun v5 => v5 = (((((pairs badLeader [] w.leaders) && (pairs badApplied [] w.applied)) && (pairs badOnce [] w.replies)) && (pairsW badTime w.replies w.replies)) && (pairs badApplied [] w.applied))) ?_ ?_
 refine CW.g XK 38 [.o 2] rfl rfl rfl ?_
 refine RW.call rfl (impl_OneLeader_fn w.leaders) rfl (.cons (.one (.r .r)) (.nil)) fun g6 => ?_
 refine RW.g XK 38 [.o 1] rfl rfl rfl ?_
 refine RW.gv rfl rfl rfl rfl (fun h7 => V.fieldR rfl rfl rfl rfl (by decide) rfl (Nat.le_of_ble_eq_true rfl)) (fun h7 => ?_) (fun h7 => ?_)
 refine RW.g XK 38 [.o 1] rfl rfl rfl ?_
 refine RW.gcall rfl rfl rfl rfl (impl_SameApplied_fn w.applied) rfl (.cons (.one (.r .r)) (.nil)) fun g8 => ?_
 refine RW.g XK 38 [.o 2] rfl rfl rfl ?_
 refine RW.gv rfl rfl rfl rfl (fun h9 => V.fieldR rfl rfl rfl rfl (by decide) rfl (Nat.le_of_ble_eq_true rfl)) (fun h9 => ?_) (fun h9 => ?_)
 refine RW.g XK 38 [.o 1] rfl rfl rfl ?_
 refine RW.gcall rfl rfl rfl rfl (impl_Once_fn w.replies) rfl (.cons (.one (.r .r)) (.nil)) fun g10 => ?_
 refine RW.g XK 38 [.o 2] rfl rfl rfl ?_
 refine RW.gv rfl rfl rfl rfl (fun h11 => V.fieldR rfl rfl rfl rfl (by decide) rfl (Nat.le_of_ble_eq_true rfl)) (fun h11 => ?_) (fun h11 => ?_)
 refine RW.g XK 38 [.o 1] rfl rfl rfl ?_
 refine RW.gcall rfl rfl rfl rfl (impl_InTime_fn w.replies) rfl (.cons (.one (.r .r)) (.nil)) fun g12 => ?_
 refine RW.g XK 38 [.o 2] rfl rfl rfl ?_
 refine RW.gv rfl rfl rfl rfl (fun h13 => V.loadAggR rfl rfl rfl rfl (Nat.le_of_ble_eq_true rfl)) (fun h13 => ?_) (fun h13 => ?_)
 refine RW.gcall rfl rfl rfl rfl (impl_Versions_fn w hok) rfl (.cons (.agg (.cons (.r .r) (.cons (.r .r) (.cons (.r .r) (.cons (.r .r) (.cons (.r .r) (.cons (.r .r) (.cons (.r .r) (.nil))))))))) (.nil)) fun g14 => ?_
 refine RW.g XK 38 [.o 2,.p] rfl rfl rfl ?_
 exact ⟨_, by first | rfl | (simp_all; done) | (simp_all; omega) | grind, rfl, Le.of rfl⟩
 refine RW.g XK 38 [.o 3,.p] rfl rfl rfl ?_
 exact ⟨_, by first | rfl | (simp_all; done) | (simp_all; omega) | grind, rfl, Le.of rfl⟩
 refine RW.g XK 38 [.o 8,.p] rfl rfl rfl ?_
 exact ⟨_, by first | rfl | (simp_all; done) | (simp_all; omega) | grind, rfl, Le.of rfl⟩
 refine RW.g XK 38 [.o 13,.p] rfl rfl rfl ?_
 exact ⟨_, by first | rfl | (simp_all; done) | (simp_all; omega) | grind, rfl, Le.of rfl⟩
 refine RW.g XK 38 [.o 18,.p] rfl rfl rfl ?_
 exact ⟨_, by first | rfl | (simp_all; done) | (simp_all; omega) | grind, rfl, Le.of rfl⟩
 intro v5 hv15
 refine CW.ret ?_
 exact Post.one (RV.b rfl (by (simp only [soundB, FdP.all hP hge, Bool.true_and]; first | rfl | (simp_all; done) | grind))) (AOs.a rfl AOs.e)
end Go.Proofs.YtdipdkfbaehglaaGreatDoor.Y
