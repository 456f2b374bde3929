import Derived.Test.YtmhnehgpmndiiaaDoorWFormatDiskA
namespace Go.Proofs.YtmhnehgpmndiiaaDoor.Y
open Go Go.RowKit Go.Eng Go.Proofs
set_option maxRecDepth 10000
set_option maxHeartbeats 4000000 in
theorem impl_KeepOk_fn (k : Keep) (hok : okToKeep k) : Eng.Fn E.P 43 [.agg ((Keep.c k).map .r)] (.one (.one (.w (.v (.bool (keepOk k)))))) [.agg ((Keep.c k).map .r)] := by
 refine Eng.Fn.intro (E := E) (rvs := [.tmp 2]) Tryd.func43 rfl rfl rfl (by simp [outSlots, moved, rvSlot, sl]) ?_
 intro B g bo
 refine CW.keep 107 [0] rfl ?_;(conv=>whnf);refine ⟨?_⟩
 have hl1 : k.sessions.length ≤ maxLen := by have := hok.1.1; simp only [maxLen]; omega
 have hl2 : k.items.length ≤ maxLen := by have := hok.2.1; simp only [maxLen]; omega
 refine CW.seq ?_
 refine CW.region ?_
 refine RW.k XK 107 1 rfl ?_
 (conv=>whnf);intro b1;(conv=>whnf);refine ⟨rfl,?_⟩
 refine RW.freezeB (ts := (Keep.c k)) 1 rfl (DRd.r (DRd.r DRd.e)) ?_
 refine RW.k XK 107 1 rfl ?_
 (conv=>whnf);refine ⟨rfl,?_⟩
 refine RW.nil ?_
 refine CW.keep 107 [1] rfl ?_;(conv=>whnf);refine ⟨?_⟩
 refine CW.seq ?_
 refine CW.k XK 107 1 [1,8,9,10] rfl ?_
 (conv=>whnf);refine ⟨rfl,?_⟩
 refine CW.block ?_
 refine CW.loopI 107 (fun (i : Nat) => [(1, .rp (Keep.c k)), (8, .r (sl 3 Session.c k.sessions)), (9, I (k.sessions.length : Int)), (10, I (i : Int))]) (fun (i : Nat) => i ≤ k.sessions.length ∧ sessF (prevO Session.token Session.z k.sessions i) (k.sessions.drop i) = sessF none k.sessions) (fun (i : Nat) => k.sessions.length - i) 0 rfl (Le.c rfl <| Le.c rfl <| Le.c rfl <| Le.c rfl <| Le.e) ⟨by omega, rfl⟩ ?_
 rintro i ⟨hb, hr⟩
 refine CW.k XK 107 1 [1,8,9,10,11] rfl ?_
 (conv=>whnf);refine ⟨rfl,?_⟩
 refine CW.seq ?_
 refine CW.cond rfl (fun h2 => ?_) (fun h2 => ?_)
 ·skip
  have hii : i < k.sessions.length := by have := h2; simp at this; first | exact this | omega | (simp; done) | (simp; omega)
  obtain ⟨ei, hei⟩ : ∃ e, k.sessions[i]? = some e := ⟨_, List.getElem?_eq_getElem hii⟩
  have hdi := drop_get hei
  refine CW.skip ?_
  refine CW.keep 107 [1,8,9,10] rfl ?_;(conv=>whnf);refine ⟨?_⟩
  refine CW.seq ?_
  refine CW.block ?_
  refine CW.seq ?_
  refine CW.region ?_
  refine RW.k XK 107 1 rfl ?_
  (conv=>whnf);refine ⟨rfl,?_⟩
  refine RW.v rfl (V.indexS rfl rfl rfl rfl rfl rfl Session.len hei) ?_
  refine RW.k XK 107 4 rfl ?_
  (conv=>whnf);intro b3;(conv=>whnf);refine ⟨rfl,?_⟩
  refine RW.freezeB (ts := (Session.c ei)) 4 rfl (DRd.r (DRd.r (DRd.r DRd.e))) ?_
  refine RW.nil ?_
  refine CW.keep 107 [1,3,4,8,9,10] rfl ?_;(conv=>whnf);refine ⟨?_⟩
  refine CW.seq ?_
  refine CW.seqJ 107 (fun (v4 : Bool) => [(1, .rp (Keep.c k)), (3, I (i : Int)), (4, .rp (Session.c ei)), (8, .r (sl 3 Session.c k.sessions)), (9, I (k.sessions.length : Int)), (10, I (i : Int)), (40, Bo v4)]) (fun v4 => v4 = ((((!(inR ei.token 1 1000000)) || (!(inR ei.last 0 1000000))) || decide ((ei.reply.size : Int) > 40)) || ((ei.last == 0) && (!(ei.reply.toList == (⟨#[]⟩ : ByteArray).toList))))) ?_ ?_
  ·refine CW.region ?_
   refine RW.k XK 107 2 rfl ?_
   (conv=>whnf);refine ⟨rfl,?_⟩
   refine RW.call rfl (impl_within_fn ei.token 1 1000000) rfl (.cons (.one (.r .r)) (.cons (.one (.r .r)) (.cons (.one (.r .r)) (.nil)))) fun g5 => ?_
   refine RW.k XK 107 2 rfl ?_
   (conv=>whnf);refine ⟨rfl,?_⟩
   refine RW.gv rfl rfl rfl rfl (fun h6 => V.fieldR rfl rfl rfl rfl (by decide) rfl (Nat.le_of_ble_eq_true rfl)) (fun h6 => ?_) (fun h6 => ?_)
   ·skip
    refine RW.k XK 107 1 rfl ?_
    (conv=>whnf);refine ⟨rfl,?_⟩
    refine RW.gcall rfl rfl rfl rfl (impl_isIndex_fn ei.last) rfl (.cons (.one (.r .r)) (.nil)) fun g7 => ?_
    refine RW.k XK 107 3 rfl ?_
    (conv=>whnf);refine ⟨rfl,?_⟩
    refine RW.gv rfl rfl rfl rfl (fun h8 => V.fieldR rfl rfl rfl rfl (by decide) rfl (Nat.le_of_ble_eq_true rfl)) (fun h8 => ?_) (fun h8 => ?_)
    ·skip
     refine RW.k XK 107 5 rfl ?_
     (conv=>whnf);refine ⟨rfl,?_⟩
     refine RW.gv rfl rfl rfl rfl (fun h9 => V.fieldR rfl rfl rfl rfl (by decide) rfl (Nat.le_of_ble_eq_true rfl)) (fun h9 => ?_) (fun h9 => ?_)
     ·skip
      refine RW.k XK 107 3 rfl ?_
      (conv=>whnf);refine ⟨rfl,?_⟩
      refine RW.gv rfl rfl rfl rfl (fun h10 => V.fieldR rfl rfl rfl rfl (by decide) rfl (Nat.le_of_ble_eq_true rfl)) (fun h10 => ?_) (fun h10 => ?_)
      ·skip
       refine RW.k XK 107 4 rfl ?_
       (conv=>whnf);refine ⟨rfl,?_⟩
       refine RW.nil ?_
       exact ⟨_, by first | rfl | (simp_all; done) | (simp_all; omega) | grind, rfl, Le.of rfl⟩
      ·skip
       refine RW.k XK 107 4 rfl ?_
       (conv=>whnf);refine ⟨rfl,?_⟩
       refine RW.nil ?_
       exact ⟨_, by first | rfl | (simp_all; done) | (simp_all; omega) | grind, rfl, Le.of rfl⟩
     ·skip
      refine RW.k XK 107 8 rfl ?_
      (conv=>whnf);refine ⟨rfl,?_⟩
      refine RW.nil ?_
      exact ⟨_, by first | rfl | (simp_all; done) | (simp_all; omega) | grind, rfl, Le.of rfl⟩
    ·skip
     refine RW.k XK 107 14 rfl ?_
     (conv=>whnf);refine ⟨rfl,?_⟩
     refine RW.nil ?_
     exact ⟨_, by first | rfl | (simp_all; done) | (simp_all; omega) | grind, rfl, Le.of rfl⟩
   ·skip
    refine RW.k XK 107 20 rfl ?_
    (conv=>whnf);refine ⟨rfl,?_⟩
    refine RW.nil ?_
    exact ⟨_, by first | rfl | (simp_all; done) | (simp_all; omega) | grind, rfl, Le.of rfl⟩
  ·intro v4 hv11
   refine CW.cond rfl (fun h12 => ?_) (fun h12 => ?_)
   ·skip
    refine CW.k XK 107 1 [2] rfl ?_
    (conv=>whnf);refine ⟨rfl,?_⟩
    refine CW.ret ?_
    exact Post.one (RV.b rfl (by have ht : sessF none k.sessions = false := (by rw [← hr, hdi, sessF]; first | (simp_all [sessOk, emp, prevO, prevGe]; done) | grind [sessOk, emp, prevO, prevGe]); simp [keepOk, ht])) (AOs.a rfl AOs.e)
   ·skip
    refine CW.skip ?_
    refine CW.keep 107 [1,3,4,8,9,10] rfl ?_;(conv=>whnf);refine ⟨?_⟩
    refine CW.seqJ 107 (fun (v13 : Bool) => [(1, .rp (Keep.c k)), (8, .r (sl 3 Session.c k.sessions)), (9, I (k.sessions.length : Int)), (10, I (i : Int)), (54, Bo v13)]) (fun v13 => v13 = (decide ((i : Int) > 0) && decide ((k.sessions.getD (i - 1) Session.z).token ≥ ei.token))) ?_ ?_
    ·refine CW.drawn (by kernel_rfl) ?_
     refine RQ.k XK 107 3 rfl ?_
     (conv=>whnf);refine ⟨rfl,?_⟩
     refine RQ.gv rfl rfl rfl rfl (fun h14 => V.fieldR rfl rfl rfl rfl (by decide) rfl (Nat.le_of_ble_eq_true rfl)) (fun h14 => ?_) (fun h14 => ?_)
     ·skip
      refine RQ.k XK 107 2 rfl ?_
      (conv=>whnf);refine ⟨rfl,?_⟩
      refine RQ.gt rfl rfl rfl rfl (V.dec (m := i) rfl rfl rfl (by have := h14; simp at this; omega) (by omega)) ?_
      refine RQ.gt rfl rfl rfl rfl (V.indexS rfl rfl rfl rfl rfl rfl Session.len (getD_some (l := k.sessions) (j := i - 1) (z := Session.z) (by omega))) ?_
      refine RQ.k XK 107 6 rfl ?_
      (conv=>whnf);refine ⟨rfl,?_⟩
      refine RQ.nil ?_
      exact ⟨_, by first | rfl | (simp_all; done) | (simp_all; omega) | grind, rfl, Le.of rfl⟩
     ·skip
      refine RQ.k XK 107 10 rfl ?_
      (conv=>whnf);refine ⟨rfl,?_⟩
      refine RQ.nil ?_
      exact ⟨_, by first | rfl | (simp_all; done) | (simp_all; omega) | grind, rfl, Le.of rfl⟩
    ·intro v13 hv15
     refine CW.cond rfl (fun h16 => ?_) (fun h16 => ?_)
     ·skip
      refine CW.k XK 107 1 [2] rfl ?_
      (conv=>whnf);refine ⟨rfl,?_⟩
      refine CW.ret ?_
      exact Post.one (RV.b rfl (by have ht : sessF none k.sessions = false := (by rw [← hr, hdi, sessF]; first | (simp_all [sessOk, emp, prevO, prevGe]; done) | grind [sessOk, emp, prevO, prevGe]); simp [keepOk, ht])) (AOs.a rfl AOs.e)
     ·skip
      refine CW.skip ?_
      refine CW.keep 107 [1,8,9,10] rfl ?_;(conv=>whnf);refine ⟨?_⟩
      refine CW.region ?_
      refine RW.v rfl (V.inc rfl rfl rfl hii hl1) ?_
      refine RW.k XK 107 1 rfl ?_
      (conv=>whnf);refine ⟨rfl,?_⟩
      refine RW.nil ?_
      exact ⟨i + 1, by omega, ⟨by omega, by rw [← hr, hdi, sessF, prevO_succ hei]; first | (simp_all [sessOk, itemOk, emp, prevO, prevGe, prevS]; done) | grind [sessOk, itemOk, emp, prevO, prevGe, prevS]⟩, rfl, Le.c rfl <| Le.c rfl <| Le.c rfl <| Le.c rfl <| Le.e⟩
 ·skip
  have hii : k.sessions.length ≤ i := by have := h2; simp at this; first | exact this | omega | (simp; done) | (simp; omega)
  have hdi : k.sessions.drop i = [] := List.drop_eq_nil_of_le hii
  refine CW.exit ?_
  refine CW.keep 107 [1] rfl ?_;(conv=>whnf);refine ⟨?_⟩
  refine CW.seq ?_
  refine CW.k XK 107 1 [1,57,58,59] rfl ?_
  (conv=>whnf);refine ⟨rfl,?_⟩
  refine CW.block ?_
  refine CW.loopI 107 (fun (j : Nat) => [(1, .rp (Keep.c k)), (57, .r (sl 3 Item.c k.items)), (58, I (k.items.length : Int)), (59, I (j : Int))]) (fun (j : Nat) => j ≤ k.items.length ∧ itemF (prevO Item.key Item.z k.items j) (k.items.drop j) = itemF none k.items) (fun (j : Nat) => k.items.length - j) 0 rfl (Le.c rfl <| Le.c rfl <| Le.c rfl <| Le.c rfl <| Le.e) ⟨by omega, rfl⟩ ?_
  rintro j ⟨hc, hs⟩
  refine CW.k XK 107 1 [1,57,58,59,60] rfl ?_
  (conv=>whnf);refine ⟨rfl,?_⟩
  refine CW.seq ?_
  refine CW.cond rfl (fun h17 => ?_) (fun h17 => ?_)
  ·skip
   have hij : j < k.items.length := by have := h17; simp at this; first | exact this | omega | (simp; done) | (simp; omega)
   obtain ⟨ej, hej⟩ : ∃ e, k.items[j]? = some e := ⟨_, List.getElem?_eq_getElem hij⟩
   have hdj := drop_get hej
   refine CW.skip ?_
   refine CW.keep 107 [1,57,58,59] rfl ?_;(conv=>whnf);refine ⟨?_⟩
   refine CW.seq ?_
   refine CW.block ?_
   refine CW.seq ?_
   refine CW.region ?_
   refine RW.k XK 107 1 rfl ?_
   (conv=>whnf);refine ⟨rfl,?_⟩
   refine RW.v rfl (V.indexS rfl rfl rfl rfl rfl rfl Item.len hej) ?_
   refine RW.k XK 107 4 rfl ?_
   (conv=>whnf);intro b18;(conv=>whnf);refine ⟨rfl,?_⟩
   refine RW.freezeB (ts := (Item.c ej)) 6 rfl (DRd.r (DRd.r (DRd.r DRd.e))) ?_
   refine RW.nil ?_
   refine CW.keep 107 [1,5,6,57,58,59] rfl ?_;(conv=>whnf);refine ⟨?_⟩
   refine CW.seqJ 107 (fun (v19 : Bool) => [(1, .rp (Keep.c k)), (57, .r (sl 3 Item.c k.items)), (58, I (k.items.length : Int)), (59, I (j : Int)), (95, Bo v19)]) (fun v19 => v19 = ((((!(inR (ej.key.size : Int) 1 8)) || (!(decide ((ej.val.size : Int) ≤ 20)))) || (!(inR ej.ver 1 1000000000))) || (decide ((j : Int) > 0) && (!(Op.bytesLess ((k.items.getD (j - 1) Item.z).key).toList ej.key.toList))))) ?_ ?_
   ·refine CW.drawn (by kernel_rfl) ?_
    refine RQ.k XK 107 2 rfl ?_
    (conv=>whnf);refine ⟨rfl,?_⟩
    refine RQ.cons rfl (QOK.call (impl_keyOk_fn ej.key) rfl (.cons (.one (.r .r)) (.nil)) ?_)
    refine RQ.k XK 107 2 rfl ?_
    (conv=>whnf);refine ⟨rfl,?_⟩
    refine RQ.gv rfl rfl rfl rfl (fun h20 => V.fieldR rfl rfl rfl rfl (by decide) rfl (Nat.le_of_ble_eq_true rfl)) (fun h20 => ?_) (fun h20 => ?_)
    ·skip
     refine RQ.k XK 107 1 rfl ?_
     (conv=>whnf);refine ⟨rfl,?_⟩
     refine RQ.guardT rfl rfl rfl rfl (QOK.call (impl_valOk_fn ej.val) rfl (.cons (.one (.r .r)) (.nil)) ?_)
     refine RQ.k XK 107 3 rfl ?_
     (conv=>whnf);refine ⟨rfl,?_⟩
     refine RQ.gv rfl rfl rfl rfl (fun h21 => V.fieldR rfl rfl rfl rfl (by decide) rfl (Nat.le_of_ble_eq_true rfl)) (fun h21 => ?_) (fun h21 => ?_)
     ·skip
      refine RQ.k XK 107 1 rfl ?_
      (conv=>whnf);refine ⟨rfl,?_⟩
      refine RQ.guardT rfl rfl rfl rfl (QOK.call (impl_within_fn ej.ver 1 1000000000) rfl (.cons (.one (.r .r)) (.cons (.one (.r .r)) (.cons (.one (.r .r)) (.nil)))) ?_)
      refine RQ.k XK 107 3 rfl ?_
      (conv=>whnf);refine ⟨rfl,?_⟩
      refine RQ.gv rfl rfl rfl rfl (fun h22 => V.mv (d := I (j : Int)) rfl rfl) (fun h22 => ?_) (fun h22 => ?_)
      ·skip
       refine RQ.k XK 107 2 rfl ?_
       (conv=>whnf);refine ⟨rfl,?_⟩
       refine RQ.gv rfl rfl rfl rfl (fun h23 => V.fieldR rfl rfl rfl rfl (by decide) rfl (Nat.le_of_ble_eq_true rfl)) (fun h23 => ?_) (fun h23 => ?_)
       ·skip
        refine RQ.k XK 107 2 rfl ?_
        (conv=>whnf);refine ⟨rfl,?_⟩
        refine RQ.gt rfl rfl rfl rfl (V.dec (m := j) rfl rfl rfl (by have := h23; simp at this; omega) (by omega)) ?_
        refine RQ.gt rfl rfl rfl rfl (V.indexS rfl rfl rfl rfl rfl rfl Item.len (getD_some (l := k.items) (j := j - 1) (z := Item.z) (by omega))) ?_
        refine RQ.k XK 107 7 rfl ?_
        (conv=>whnf);refine ⟨rfl,?_⟩
        refine RQ.nil ?_
        exact ⟨_, by first | rfl | (simp_all; done) | (simp_all; omega) | grind, rfl, Le.of rfl⟩
       ·skip
        refine RQ.k XK 107 11 rfl ?_
        (conv=>whnf);refine ⟨rfl,?_⟩
        refine RQ.nil ?_
        exact ⟨_, by first | rfl | (simp_all; done) | (simp_all; omega) | grind, rfl, Le.of rfl⟩
      ·skip
       refine RQ.k XK 107 14 rfl ?_
       (conv=>whnf);refine ⟨rfl,?_⟩
       refine RQ.nil ?_
       exact ⟨_, by first | rfl | (simp_all; done) | (simp_all; omega) | grind, rfl, Le.of rfl⟩
     ·skip
      refine RQ.k XK 107 20 rfl ?_
      (conv=>whnf);refine ⟨rfl,?_⟩
      refine RQ.nil ?_
      exact ⟨_, by first | rfl | (simp_all; done) | (simp_all; omega) | grind, rfl, Le.of rfl⟩
    ·skip
     refine RQ.k XK 107 26 rfl ?_
     (conv=>whnf);refine ⟨rfl,?_⟩
     refine RQ.nil ?_
     exact ⟨_, by first | rfl | (simp_all; done) | (simp_all; omega) | grind, rfl, Le.of rfl⟩
   ·intro v19 hv24
    refine CW.cond rfl (fun h25 => ?_) (fun h25 => ?_)
    ·skip
     refine CW.k XK 107 1 [2] rfl ?_
     (conv=>whnf);refine ⟨rfl,?_⟩
     refine CW.ret ?_
     exact Post.one (RV.b rfl (by have ht : itemF none k.items = false := (by rw [← hs, hdj, itemF]; first | (simp_all [itemOk, prevO, prevS]; done) | grind [itemOk, prevO, prevS]); simp [keepOk, ht])) (AOs.a rfl AOs.e)
    ·skip
     refine CW.skip ?_
     refine CW.keep 107 [1,57,58,59] rfl ?_;(conv=>whnf);refine ⟨?_⟩
     refine CW.region ?_
     refine RW.v rfl (V.inc rfl rfl rfl hij hl2) ?_
     refine RW.k XK 107 1 rfl ?_
     (conv=>whnf);refine ⟨rfl,?_⟩
     refine RW.nil ?_
     exact ⟨j + 1, by omega, ⟨by omega, by rw [← hs, hdj, itemF, prevO_succ hej]; first | (simp_all [sessOk, itemOk, emp, prevO, prevGe, prevS]; done) | grind [sessOk, itemOk, emp, prevO, prevGe, prevS]⟩, rfl, Le.c rfl <| Le.c rfl <| Le.c rfl <| Le.c rfl <| Le.e⟩
  ·skip
   have hij : k.items.length ≤ j := by have := h17; simp at this; first | exact this | omega | (simp; done) | (simp; omega)
   have hdj : k.items.drop j = [] := List.drop_eq_nil_of_le hij
   refine CW.exit ?_
   refine CW.keep 107 [1] rfl ?_;(conv=>whnf);refine ⟨?_⟩
   refine CW.seqJ 107 (fun (v26 : Bool) => [(2, Bo v26)]) (fun v26 => v26 = (decide ((k.sessions.length : Int) ≤ 3) && decide ((k.items.length : Int) ≤ 8))) ?_ ?_
   ·refine CW.region ?_
    refine RW.k XK 107 5 rfl ?_
    (conv=>whnf);refine ⟨rfl,?_⟩
    refine RW.gv rfl rfl rfl rfl (fun h27 => V.fieldR rfl rfl rfl rfl (by decide) rfl (Nat.le_of_ble_eq_true rfl)) (fun h27 => ?_) (fun h27 => ?_)
    ·skip
     refine RW.k XK 107 5 rfl ?_
     (conv=>whnf);refine ⟨rfl,?_⟩
     refine RW.nil ?_
     exact ⟨_, by first | rfl | (simp_all; done) | (simp_all; omega) | grind, rfl, Le.of rfl⟩
    ·skip
     refine RW.k XK 107 5 rfl ?_
     (conv=>whnf);refine ⟨rfl,?_⟩
     refine RW.nil ?_
     exact ⟨_, by first | rfl | (simp_all; done) | (simp_all; omega) | grind, rfl, Le.of rfl⟩
   ·intro v26 hv28
    refine CW.ret ?_
    exact Post.one (RV.b rfl (by have ht : sessF none k.sessions = true := (by rw [← hr, hdi]; rfl); have hu : itemF none k.items = true := (by rw [← hs, hdj]; rfl); clear hr hs hdi hdj; first | (simp_all [keepOk]; done) | grind [keepOk])) (AOs.a rfl AOs.e)
set_option maxHeartbeats 4000000 in
theorem spec_KeepOk_fn (k : Keep) (hok : okToKeep k) : Eng.Fn E.P 59 [.agg ((Keep.c k).map .r)] (.one (.one (.w (.v (.bool (keepOk k)))))) [.agg ((Keep.c k).map .r)] := by
 refine Eng.Fn.intro (E := E) (rvs := [.tmp 2]) Tryd.func59 rfl rfl rfl (by simp [outSlots, moved, rvSlot, sl]) ?_
 intro B g bo
 refine CW.keep 59 [0] rfl ?_;(conv=>whnf);refine ⟨?_⟩
 have hl1 : k.sessions.length ≤ maxLen := by have := hok.1.1; simp only [maxLen]; omega
 have hl2 : k.items.length ≤ maxLen := by have := hok.2.1; simp only [maxLen]; omega
 refine CW.seq ?_
 refine CW.region ?_
 refine RW.k XK 59 1 rfl ?_
 (conv=>whnf);intro b1;(conv=>whnf);refine ⟨rfl,?_⟩
 refine RW.freezeB (ts := (Keep.c k)) 1 rfl (DRd.r (DRd.r DRd.e)) ?_
 refine RW.k XK 59 1 rfl ?_
 (conv=>whnf);refine ⟨rfl,?_⟩
 refine RW.nil ?_
 refine CW.keep 59 [1] rfl ?_;(conv=>whnf);refine ⟨?_⟩
 refine CW.seq ?_
 refine CW.k XK 59 1 [1,3] rfl ?_
 (conv=>whnf);refine ⟨rfl,?_⟩
 refine CW.block ?_
 refine CW.loopI 59 (fun (i : Nat) => [(1, .rp (Keep.c k)), (3, I (i : Int))]) (fun (i : Nat) => i ≤ k.items.length ∧ itemF (prevO Item.key Item.z k.items i) (k.items.drop i) = itemF none k.items) (fun (i : Nat) => k.items.length - i) 0 rfl (Le.c rfl <| Le.c rfl <| Le.e) ⟨by omega, rfl⟩ ?_
 rintro i ⟨hb, hr⟩
 refine CW.seq ?_
 refine CW.k XK 59 1 [1,3,9] rfl ?_
 (conv=>whnf);refine ⟨rfl,?_⟩
 refine CW.cond rfl (fun h2 => ?_) (fun h2 => ?_)
 ·skip
  have hii : i < k.items.length := by have := h2; simp at this; first | exact this | omega | (simp; done) | (simp; omega)
  obtain ⟨ei, hei⟩ : ∃ e, k.items[i]? = some e := ⟨_, List.getElem?_eq_getElem hii⟩
  have hdi := drop_get hei
  refine CW.skip ?_
  refine CW.keep 59 [1,3] rfl ?_;(conv=>whnf);refine ⟨?_⟩
  refine CW.seq ?_
  refine CW.block ?_
  refine CW.seq ?_
  refine CW.region ?_
  refine RW.k XK 59 3 rfl ?_
  (conv=>whnf);refine ⟨rfl,?_⟩
  refine RW.v rfl (V.indexS rfl rfl rfl rfl rfl rfl Item.len hei) ?_
  refine RW.k XK 59 3 rfl ?_
  (conv=>whnf);intro b3;(conv=>whnf);refine ⟨rfl,?_⟩
  refine RW.freezeB (ts := (Item.c ei)) 4 rfl (DRd.r (DRd.r (DRd.r DRd.e))) ?_
  refine RW.nil ?_
  refine CW.keep 59 [1,3,4] rfl ?_;(conv=>whnf);refine ⟨?_⟩
  refine CW.seqJ 59 (fun (v4 : Bool) => [(1, .rp (Keep.c k)), (3, I (i : Int)), (49, Bo v4)]) (fun v4 => v4 = ((((!(inR (ei.key.size : Int) 1 8)) || (decide ((i : Int) > 0) && (!(Op.bytesLess ((k.items.getD (i - 1) Item.z).key).toList ei.key.toList)))) || decide ((ei.val.size : Int) > 20)) || (!(inR ei.ver 1 1000000000)))) ?_ ?_
  ·refine CW.drawn (by kernel_rfl) ?_
   refine RQ.k XK 59 3 rfl ?_
   (conv=>whnf);refine ⟨rfl,?_⟩
   refine RQ.cons rfl (QOK.call (spec_l01In_fn (ei.key.size : Int) 1 8) rfl (.cons (.one (.r .r)) (.cons (.one (.r .r)) (.cons (.one (.r .r)) (.nil)))) ?_)
   refine RQ.k XK 59 2 rfl ?_
   (conv=>whnf);refine ⟨rfl,?_⟩
   refine RQ.gv rfl rfl rfl rfl (fun h5 => V.mv (d := I (i : Int)) rfl rfl) (fun h5 => ?_) (fun h5 => ?_)
   ·skip
    refine RQ.k XK 59 2 rfl ?_
    (conv=>whnf);refine ⟨rfl,?_⟩
    refine RQ.gv rfl rfl rfl rfl (fun h6 => V.fieldR rfl rfl rfl rfl (by decide) rfl (Nat.le_of_ble_eq_true rfl)) (fun h6 => ?_) (fun h6 => ?_)
    ·skip
     refine RQ.k XK 59 2 rfl ?_
     (conv=>whnf);refine ⟨rfl,?_⟩
     refine RQ.gt rfl rfl rfl rfl (V.dec (m := i) rfl rfl rfl (by have := h6; simp at this; omega) (by omega)) ?_
     refine RQ.gt rfl rfl rfl rfl (V.indexS rfl rfl rfl rfl rfl rfl Item.len (getD_some (l := k.items) (j := i - 1) (z := Item.z) (by omega))) ?_
     refine RQ.k XK 59 8 rfl ?_
     (conv=>whnf);refine ⟨rfl,?_⟩
     refine RQ.gv rfl rfl rfl rfl (fun h7 => V.fieldR rfl rfl rfl rfl (by decide) rfl (Nat.le_of_ble_eq_true rfl)) (fun h7 => ?_) (fun h7 => ?_)
     ·skip
      refine RQ.k XK 59 5 rfl ?_
      (conv=>whnf);refine ⟨rfl,?_⟩
      refine RQ.gv rfl rfl rfl rfl (fun h8 => V.fieldR rfl rfl rfl rfl (by decide) rfl (Nat.le_of_ble_eq_true rfl)) (fun h8 => ?_) (fun h8 => ?_)
      ·skip
       refine RQ.k XK 59 1 rfl ?_
       (conv=>whnf);refine ⟨rfl,?_⟩
       refine RQ.guardT rfl rfl rfl rfl (QOK.call (spec_l01In_fn ei.ver 1 1000000000) rfl (.cons (.one (.r .r)) (.cons (.one (.r .r)) (.cons (.one (.r .r)) (.nil)))) ?_)
       refine RQ.k XK 59 2 rfl ?_
       (conv=>whnf);refine ⟨rfl,?_⟩
       refine RQ.nil ?_
       exact ⟨_, by (try clear hr hdi); first | rfl | (simp_all; done) | (simp_all; omega) | grind, rfl, Le.of rfl⟩
      ·skip
       refine RQ.k XK 59 4 rfl ?_
       (conv=>whnf);refine ⟨rfl,?_⟩
       refine RQ.nil ?_
       exact ⟨_, by (try clear hr hdi); first | rfl | (simp_all; done) | (simp_all; omega) | grind, rfl, Le.of rfl⟩
     ·skip
      refine RQ.k XK 59 10 rfl ?_
      (conv=>whnf);refine ⟨rfl,?_⟩
      refine RQ.nil ?_
      exact ⟨_, by (try clear hr hdi); first | rfl | (simp_all; done) | (simp_all; omega) | grind, rfl, Le.of rfl⟩
    ·skip
     refine RQ.k XK 59 18 rfl ?_
     (conv=>whnf);refine ⟨rfl,?_⟩
     refine RQ.gv rfl rfl rfl rfl (fun h9 => V.fieldR rfl rfl rfl rfl (by decide) rfl (Nat.le_of_ble_eq_true rfl)) (fun h9 => ?_) (fun h9 => ?_)
     ·skip
      refine RQ.k XK 59 1 rfl ?_
      (conv=>whnf);refine ⟨rfl,?_⟩
      refine RQ.guardT rfl rfl rfl rfl (QOK.call (spec_l01In_fn ei.ver 1 1000000000) rfl (.cons (.one (.r .r)) (.cons (.one (.r .r)) (.cons (.one (.r .r)) (.nil)))) ?_)
      refine RQ.k XK 59 2 rfl ?_
      (conv=>whnf);refine ⟨rfl,?_⟩
      refine RQ.nil ?_
      exact ⟨_, by (try clear hr hdi); first | rfl | (simp_all; done) | (simp_all; omega) | grind, rfl, Le.of rfl⟩
     ·skip
      refine RQ.k XK 59 4 rfl ?_
      (conv=>whnf);refine ⟨rfl,?_⟩
      refine RQ.nil ?_
      exact ⟨_, by (try clear hr hdi); first | rfl | (simp_all; done) | (simp_all; omega) | grind, rfl, Le.of rfl⟩
   ·skip
    refine RQ.k XK 59 26 rfl ?_
    (conv=>whnf);refine ⟨rfl,?_⟩
    refine RQ.nil ?_
    exact ⟨_, by (try clear hr hdi); first | rfl | (simp_all; done) | (simp_all; omega) | grind, rfl, Le.of rfl⟩
  ·intro v4 hv10
   refine CW.cond rfl (fun h11 => ?_) (fun h11 => ?_)
   ·skip
    refine CW.k XK 59 1 [2] rfl ?_
    (conv=>whnf);refine ⟨rfl,?_⟩
    refine CW.ret ?_
    exact Post.one (RV.b rfl (by have ht : itemF none k.items = false := (by rw [← hr, hdi, itemF]; first | (simp_all [itemOk, prevO, prevS]; done) | grind [itemOk, prevO, prevS]); simp [keepOk, ht])) (AOs.a rfl AOs.e)
   ·skip
    refine CW.skip ?_
    refine CW.keep 59 [1,3] rfl ?_;(conv=>whnf);refine ⟨?_⟩
    refine CW.region ?_
    refine RW.k XK 59 1 rfl ?_
    (conv=>whnf);refine ⟨rfl,?_⟩
    refine RW.v rfl (V.inc rfl rfl rfl hii hl2) ?_
    refine RW.k XK 59 1 rfl ?_
    (conv=>whnf);refine ⟨rfl,?_⟩
    refine RW.nil ?_
    exact ⟨i + 1, by omega, ⟨by omega, by rw [← hr, hdi, itemF, prevO_succ hei]; first | (simp_all [sessOk, itemOk, emp, prevO, prevGe, prevS]; done) | grind [sessOk, itemOk, emp, prevO, prevGe, prevS]⟩, rfl, Le.c rfl <| Le.c rfl <| Le.e⟩
 ·skip
  have hii : k.items.length ≤ i := by have := h2; simp at this; first | exact this | omega | (simp; done) | (simp; omega)
  have hdi : k.items.drop i = [] := List.drop_eq_nil_of_le hii
  refine CW.exit ?_
  refine CW.keep 59 [1] rfl ?_;(conv=>whnf);refine ⟨?_⟩
  refine CW.seqJ 59 (fun (v12 : Bool) => [(2, Bo v12)]) (fun v12 => v12 = ((sessF none k.sessions && decide ((k.sessions.length : Int) ≤ 3)) && decide ((k.items.length : Int) ≤ 8))) ?_ ?_
  ·refine CW.region ?_
   refine RW.k XK 59 2 rfl ?_
   (conv=>whnf);refine ⟨rfl,?_⟩
   refine RW.call rfl (spec_l15Sessions_fn k.sessions) rfl (.cons (.one (.r .r)) (.nil)) fun g13 => ?_
   refine RW.k XK 59 1 rfl ?_
   (conv=>whnf);refine ⟨rfl,?_⟩
   refine RW.gv rfl rfl rfl rfl (fun h14 => V.fieldR rfl rfl rfl rfl (by decide) rfl (Nat.le_of_ble_eq_true rfl)) (fun h14 => ?_) (fun h14 => ?_)
   ·skip
    refine RW.k XK 59 5 rfl ?_
    (conv=>whnf);refine ⟨rfl,?_⟩
    refine RW.nil ?_
    exact ⟨_, by (try clear hr hdi); first | rfl | (simp_all; done) | (simp_all; omega) | grind, rfl, Le.of rfl⟩
   ·skip
    refine RW.k XK 59 5 rfl ?_
    (conv=>whnf);refine ⟨rfl,?_⟩
    refine RW.nil ?_
    exact ⟨_, by (try clear hr hdi); first | rfl | (simp_all; done) | (simp_all; omega) | grind, rfl, Le.of rfl⟩
  ·intro v12 hv15
   refine CW.ret ?_
   exact Post.one (RV.b rfl (by have hu : itemF none k.items = true := (by rw [← hr, hdi]; rfl); clear hr hdi; first | (simp_all [keepOk]; done) | grind [keepOk])) (AOs.a rfl AOs.e)
set_option maxHeartbeats 4000000 in
theorem impl_KeepNew_fn  : Eng.Fn E.P 19 [] (.one (.agg ((Keep.c keepNew).map .w))) [] := by
 refine Eng.Fn.intro (E := E) (rvs := [.cell 0 52]) Tryd.func19 rfl rfl rfl (by simp [outSlots, moved, rvSlot, sl]) ?_
 intro B g bo
 refine CW.keep 4 [] rfl ?_;(conv=>whnf);refine ⟨?_⟩
 refine CW.k XK 4 1 [0] rfl ?_
 (conv=>whnf);intro b1;(conv=>whnf);refine ⟨rfl,?_⟩
 refine CW.seq ?_
 refine CW.region ?_
 refine RW.k XK 4 1 rfl ?_
 (conv=>whnf);refine ⟨rfl,?_⟩
 refine RW.build1 (c := Item.c) (v := (⟨(⟨#[114, 111, 111, 116]⟩ : ByteArray), ⟨#[]⟩, 1⟩ : Item)) rfl rfl rfl rfl rfl rfl (DW.v (DW.v (DW.v DW.e))) Item.len (by decide) (by decide) fun X2 => ?_
 refine RW.k XK 4 2 rfl ?_
 (conv=>whnf);refine ⟨rfl,?_⟩
 refine RW.keep 4 [0,2] rfl ?_;(conv=>whnf);refine ⟨?_⟩
 refine RW.pullT (k := 0) (l := 2) (j := 1) 0 2 1 rfl rfl rfl (by decide) rfl rfl rfl ?_
 refine RW.keep 4 [0] rfl ?_;(conv=>whnf);refine ⟨?_⟩
 refine RW.nil ?_
 refine CW.keep 4 [0] rfl ?_;(conv=>whnf);refine ⟨?_⟩
 refine CW.ret ?_
 exact Post.one (RV.c (f := fun e => (Keep.c e).map .w) (e' := (⟨[], [(⟨(⟨#[114, 111, 111, 116]⟩ : ByteArray), ⟨#[]⟩, 1⟩ : Item)]⟩ : Keep)) rfl rfl rfl rfl (DT.n (DT.w DT.e)) (by rfl)) AOs.e
set_option maxHeartbeats 4000000 in
theorem spec_KeepNew_fn  : Eng.Fn E.P 36 [] (.one (.agg ((Keep.c keepNew).map .w))) [] := by
 refine Eng.Fn.intro (E := E) (rvs := [.cell 0 52]) Tryd.func36 rfl rfl rfl (by simp [outSlots, moved, rvSlot, sl]) ?_
 intro B g bo
 refine CW.keep 4 [] rfl ?_;(conv=>whnf);refine ⟨?_⟩
 refine CW.k XK 4 1 [0] rfl ?_
 (conv=>whnf);intro b1;(conv=>whnf);refine ⟨rfl,?_⟩
 refine CW.seq ?_
 refine CW.region ?_
 refine RW.k XK 4 1 rfl ?_
 (conv=>whnf);refine ⟨rfl,?_⟩
 refine RW.build1 (c := Item.c) (v := (⟨(⟨#[114, 111, 111, 116]⟩ : ByteArray), ⟨#[]⟩, 1⟩ : Item)) rfl rfl rfl rfl rfl rfl (DW.v (DW.v (DW.v DW.e))) Item.len (by decide) (by decide) fun X2 => ?_
 refine RW.k XK 4 2 rfl ?_
 (conv=>whnf);refine ⟨rfl,?_⟩
 refine RW.keep 4 [0,2] rfl ?_;(conv=>whnf);refine ⟨?_⟩
 refine RW.pullT (k := 0) (l := 2) (j := 1) 0 2 1 rfl rfl rfl (by decide) rfl rfl rfl ?_
 refine RW.keep 4 [0] rfl ?_;(conv=>whnf);refine ⟨?_⟩
 refine RW.nil ?_
 refine CW.keep 4 [0] rfl ?_;(conv=>whnf);refine ⟨?_⟩
 refine CW.ret ?_
 exact Post.one (RV.c (f := fun e => (Keep.c e).map .w) (e' := (⟨[], [(⟨(⟨#[114, 111, 111, 116]⟩ : ByteArray), ⟨#[]⟩, 1⟩ : Item)]⟩ : Keep)) rfl rfl rfl rfl (DT.n (DT.w DT.e)) (by rfl)) AOs.e
set_option maxHeartbeats 4000000 in
theorem spec_l01Figure_fn (d : Int) (hd : d < 10) : Eng.Fn E.P 61 [.one (.r (.v (.int .i64 d)))] (.one (.one (.w (.v (.int .u8 (IntKind.u8.wrap (IntKind.i64.wrap (48 + d)))))))) [.one (.r (.v (.int .i64 d)))] := by
 refine Eng.Fn.intro (E := E) (rvs := [.tmp 2]) Tryd.func61 rfl rfl rfl (by simp [outSlots, moved, rvSlot, sl]) ?_
 intro B g bo
 refine CW.keep 12 [0] rfl ?_;(conv=>whnf);refine ⟨?_⟩
 refine CW.k XK 12 1 [0] rfl ?_
 (conv=>whnf);refine ⟨rfl,?_⟩
 refine CW.seq ?_
 refine CW.k XK 12 1 [0,4] rfl ?_
 (conv=>whnf);refine ⟨rfl,?_⟩
 refine CW.cond rfl (fun h1 => ?_) (fun h1 => ?_)
 ·skip
  refine CW.k XK 12 1 [2] rfl ?_
  (conv=>whnf);refine ⟨rfl,?_⟩
  refine CW.ret ?_
  exact Post.one (RV.v rfl (by rfl)) (AOs.r AOs.e)
 ·skip
  refine CW.skip ?_
  refine CW.keep 12 [0] rfl ?_;(conv=>whnf);refine ⟨?_⟩
  refine CW.k XK 12 1 [2] rfl ?_
  (conv=>whnf);refine ⟨rfl,?_⟩
  refine CW.ret ?_
  exact Post.one (RV.v rfl (by exfalso; simp at h1; omega)) (AOs.r AOs.e)
set_option maxHeartbeats 4000000 in
theorem spec_Decimal_fn (n : Int) (hn : 0 ≤ n ∧ n ≤ 9223372036854775807) : Eng.Fn E.P 37 [.one (.r (.v (.int .i64 n)))] (.one (.one (.w (.v (.string (itoaB n)))))) [.one (.r (.v (.int .i64 n)))] := by
 refine Eng.Fn.intro (E := E) (rvs := [.tmp 2]) Tryd.func37 rfl rfl rfl (by simp [outSlots, moved, rvSlot, sl]) ?_
 intro B g bo
 refine CW.keep 30 [0] rfl ?_;(conv=>whnf);refine ⟨?_⟩
 refine CW.k XK 30 1 [0] rfl ?_
 (conv=>whnf);refine ⟨rfl,?_⟩
 refine CW.seq ?_
 refine CW.k XK 30 1 [0,7] rfl ?_
 (conv=>whnf);refine ⟨rfl,?_⟩
 refine CW.cond rfl (fun h1 => ?_) (fun h1 => ?_)
 ·skip
  refine CW.k XK 30 1 [2] rfl ?_
  (conv=>whnf);refine ⟨rfl,?_⟩
  refine CW.ret ?_
  exact Post.one (RV.s rfl (by rw [show n = 0 by simpa using h1]; exact itoa_zero.symm)) (AOs.r AOs.e)
 ·skip
  refine CW.skip ?_
  refine CW.keep 30 [0] rfl ?_;(conv=>whnf);refine ⟨?_⟩
  refine CW.k XK 30 2 [0,3,4] rfl ?_
  (conv=>whnf);refine ⟨rfl,?_⟩
  refine CW.seq ?_
  refine CW.block ?_
  refine CW.loopI 30 (fun (zz : Int × ByteArray) => match zz with | (m, s) => [(0, I m), (3, Bo (decide (n < 0))), (4, S s)]) (fun (zz : Int × ByteArray) => match zz with | (m, s) => 0 ≤ m ∧ s.size ≤ 60 ∧ m * 10 ^ s.size ≤ 9223372036854775807 ∧ dgs m.toNat s = dgs n.toNat ⟨#[]⟩) (fun (zz : Int × ByteArray) => match zz with | (m, s) => m.toNat) (_, _) rfl (Le.c rfl <| Le.c rfl <| Le.c rfl <| Le.e) ⟨hn.1, by decide, by show n * 10 ^ 0 ≤ _; omega, rfl⟩ ?_
  rintro ⟨m, s⟩ ⟨h0, hs, hp, hr⟩
  refine CW.seq ?_
  refine CW.k XK 30 1 [0,3,4,11] rfl ?_
  (conv=>whnf);refine ⟨rfl,?_⟩
  refine CW.cond rfl (fun h2 => ?_) (fun h2 => ?_)
  ·skip
   have h2p : decide (m > 0) = true := by simp at h2 ⊢; omega
   refine CW.skip ?_
   refine CW.keep 30 [0,3,4] rfl ?_;(conv=>whnf);refine ⟨?_⟩
   refine CW.block ?_
   refine CW.k XK 30 1 [0,3,4,5] rfl ?_
   (conv=>whnf);refine ⟨rfl,?_⟩
   refine CW.seq ?_
   refine CW.k XK 30 1 [0,3,4,5,15] rfl ?_
   (conv=>whnf);refine ⟨rfl,?_⟩
   refine CW.cond rfl (fun h3 => ?_) (fun h3 => ?_)
   ·skip
    exact absurd (Int.tmod_nonneg 10 h0) (by simpa using h3)
   ·skip
    refine CW.skip ?_
    refine CW.keep 30 [0,3,4,5] rfl ?_;(conv=>whnf);refine ⟨?_⟩
    refine CW.seq ?_
    refine CW.region ?_
    refine RW.k XK 30 1 rfl ?_
    (conv=>whnf);refine ⟨rfl,?_⟩
    refine RW.call rfl (spec_l01Figure_fn (Int.tmod m 10) (Int.tmod_lt_of_pos m (by omega))) rfl (.cons (.one (.r .r)) (.nil)) fun g4 => ?_
    refine RW.build1c (c := cU) (v := (IntKind.u8.wrap (IntKind.i64.wrap (48 + (Int.tmod m 10))))) (u := .v (.int .u8 (IntKind.u8.wrap (IntKind.i64.wrap (48 + (Int.tmod m 10)))))) rfl rfl rfl rfl rfl rfl (.inl rfl) rfl rfl fun X5 => ?_
    refine RW.v rfl (V.bytesStr (l := [(IntKind.u8.wrap (IntKind.i64.wrap (48 + (Int.tmod m 10))))]) rfl rfl rfl (by kernel_rfl) (by kernel_rfl) (.al (k := none) (i := 20) (sz := 1) (V := X5) rfl rfl nofun)) ?_
    refine RW.k XK 30 1 rfl ?_
    (conv=>whnf);refine ⟨rfl,?_⟩
    refine RW.v rfl (V.cat rfl rfl rfl (by simp only [bytesOf_one, maxLen]; first | omega | (show 1 + s.size ≤ _; omega))) ?_
    refine RW.k XK 30 1 rfl ?_
    (conv=>whnf);refine ⟨rfl,?_⟩
    refine RW.nil ?_
    refine CW.keep 30 [0,3,4] rfl ?_;(conv=>whnf);refine ⟨?_⟩
    refine CW.region ?_
    refine RW.k XK 30 3 rfl ?_
    (conv=>whnf);refine ⟨rfl,?_⟩
    refine RW.nil ?_
    exact ⟨(_, _), by have := mt_dec h0 hp h2p; simp only []; omega, mt_step h0 hp hr h2p, rfl, Le.c rfl <| Le.c rfl <| Le.c rfl <| Le.e⟩
  ·skip
   refine CW.exit ?_
   refine CW.keep 30 [3,4] rfl ?_;(conv=>whnf);refine ⟨?_⟩
   refine CW.seq ?_
   refine CW.k XK 30 1 [4,26] rfl ?_
   (conv=>whnf);refine ⟨rfl,?_⟩
   refine CW.cond rfl (fun h6 => ?_) (fun h6 => ?_)
   ·skip
    refine CW.seq ?_
    refine CW.region ?_
    refine RW.k XK 30 1 rfl ?_
    (conv=>whnf);refine ⟨rfl,?_⟩
    refine RW.v rfl (V.cat rfl rfl rfl (by simp only [bytesOf_one, maxLen]; first | omega | (show 1 + s.size ≤ _; omega))) ?_
    refine RW.k XK 30 1 rfl ?_
    (conv=>whnf);refine ⟨rfl,?_⟩
    refine RW.nil ?_
    refine CW.keep 30 [2] rfl ?_;(conv=>whnf);refine ⟨?_⟩
    refine CW.ret ?_
    exact Post.one (RV.s rfl (by exfalso; simp_all; omega)) (AOs.r AOs.e)
   ·skip
    refine CW.skip ?_
    refine CW.keep 30 [4] rfl ?_;(conv=>whnf);refine ⟨?_⟩
    refine CW.k XK 30 1 [2] rfl ?_
    (conv=>whnf);refine ⟨rfl,?_⟩
    refine CW.ret ?_
    exact Post.one (RV.s rfl (by rw [itoa_pos (by simp at h1; omega), ← hr, dgs, dif_pos (by simp at h2; omega)])) (AOs.r AOs.e)
set_option maxHeartbeats 4000000 in
theorem impl_Decimal_fn (n : Int) (hn : okI n) : Eng.Fn E.P 51 [.one (.r (.v (.int .i64 n)))] (.one (.one (.w (.v (.string (itoaB n)))))) [.one (.r (.v (.int .i64 n)))] := by
 refine Eng.Fn.intro (E := E) (rvs := [.tmp 2]) Tryd.func51 rfl rfl rfl (by simp [outSlots, moved, rvSlot, sl]) ?_
 intro B g bo
 refine CW.keep 5 [0] rfl ?_;(conv=>whnf);refine ⟨?_⟩
 refine CW.k XK 5 1 [0] rfl ?_
 (conv=>whnf);refine ⟨rfl,?_⟩
 refine CW.seq ?_
 refine CW.region ?_
 refine RW.k XK 5 1 rfl ?_
 (conv=>whnf);refine ⟨rfl,?_⟩
 refine RW.call rfl (strconv_Itoa_fn n hn) rfl (.cons (.one (.r .r)) (.nil)) fun g1 => ?_
 refine RW.k XK 5 1 rfl ?_
 (conv=>whnf);refine ⟨rfl,?_⟩
 refine RW.nil ?_
 refine CW.keep 5 [2] rfl ?_;(conv=>whnf);refine ⟨?_⟩
 refine CW.ret ?_
 exact Post.one (RV.s rfl (by rfl)) (AOs.r AOs.e)
set_option maxHeartbeats 4000000 in
theorem spec_l16Short_fn (s : ByteArray) (hs : s.size ≤ 1048576) : Eng.Fn E.P 60 [.one (.r (.v (.string s)))] (.one (.one (.w (.v (.string (shB s)))))) [.one (.r (.v (.string s)))] := by
 refine Eng.Fn.intro (E := E) (rvs := [.tmp 2]) Tryd.func60 rfl rfl rfl (by simp [outSlots, moved, rvSlot, sl]) ?_
 intro B g bo
 refine CW.keep 8 [0] rfl ?_;(conv=>whnf);refine ⟨?_⟩
 refine CW.k XK 8 1 [0] rfl ?_
 (conv=>whnf);refine ⟨rfl,?_⟩
 refine CW.seq ?_
 refine CW.region ?_
 refine RW.k XK 8 2 rfl ?_
 (conv=>whnf);refine ⟨rfl,?_⟩
 refine RW.call rfl (spec_l01Var_fn (s.size : Int) ⟨by omega, by omega⟩) rfl (.cons (.one (.r .r)) (.nil)) fun g1 => ?_
 refine RW.k XK 8 1 rfl ?_
 (conv=>whnf);refine ⟨rfl,?_⟩
 refine RW.v rfl (V.cat rfl rfl rfl (by have h9 := varB_len9 (n := s.size) (by omega); simp only [maxLen, Int.toNat_natCast]; omega)) ?_
 refine RW.k XK 8 1 rfl ?_
 (conv=>whnf);refine ⟨rfl,?_⟩
 refine RW.nil ?_
 refine CW.keep 8 [2] rfl ?_;(conv=>whnf);refine ⟨?_⟩
 refine CW.ret ?_
 exact Post.one (RV.s rfl (by rfl)) (AOs.r AOs.e)
set_option maxHeartbeats 4000000 in
theorem spec_KeepText_fn (k : Keep) (hk : k = keepNew) : Eng.Fn E.P 35 [.agg ((Keep.c k).map .r)] (.tup [.one (.w (.v (.string kT))), .one (.w (.v (.bool true)))]) [.agg ((Keep.c k).map .r)] := by
 refine Eng.Fn.intro (E := E) (rvs := [.tmp 2, .tmp 3]) Tryd.func35 rfl rfl rfl (by simp [outSlots, moved, rvSlot, sl]) ?_
 intro B g bo
 refine CW.keep 73 [0] rfl ?_;(conv=>whnf);refine ⟨?_⟩
 have hs0 : k.sessions = [] := by rw [hk]; rfl
 have hsl : k.sessions.length = 0 := by rw [hk]; rfl
 have hil : k.items.length = 1 := by rw [hk]; rfl
 have hkk : keepOk k = true := by rw [hk]; exact keepNew_k
 refine CW.seq ?_
 refine CW.region ?_
 refine RW.k XK 73 1 rfl ?_
 (conv=>whnf);intro b1;(conv=>whnf);refine ⟨rfl,?_⟩
 refine RW.freezeB (ts := (Keep.c k)) 1 rfl (DRd.r (DRd.r DRd.e)) ?_
 refine RW.k XK 73 2 rfl ?_
 (conv=>whnf);refine ⟨rfl,?_⟩
 refine RW.nil ?_
 refine CW.keep 73 [1] rfl ?_;(conv=>whnf);refine ⟨?_⟩
 refine CW.seq ?_
 refine CW.seq ?_
 refine CW.region ?_
 refine RW.k XK 73 1 rfl ?_
 (conv=>whnf);refine ⟨rfl,?_⟩
 refine RW.call rfl (spec_KeepOk_fn k (by rw [hk]; exact keepNew_to)) rfl (.cons (.agg (.cons (.r .r) (.cons (.r .r) (.nil)))) (.nil)) fun g2 => ?_
 refine RW.k XK 73 1 rfl ?_
 (conv=>whnf);refine ⟨rfl,?_⟩
 refine RW.nil ?_
 refine CW.keep 73 [1,11] rfl ?_;(conv=>whnf);refine ⟨?_⟩
 refine CW.cond rfl (fun h3 => ?_) (fun h3 => ?_)
 ·skip
  exact absurd h3 (by rw [hkk]; simp)
 ·skip
  refine CW.skip ?_
  refine CW.keep 73 [1] rfl ?_;(conv=>whnf);refine ⟨?_⟩
  refine CW.seq ?_
  refine CW.region ?_
  refine RW.k XK 73 3 rfl ?_
  (conv=>whnf);refine ⟨rfl,?_⟩
  refine RW.call rfl (spec_l01Var_fn (k.sessions.length : Int) (by first | omega | (have h9 := kver hk hej; omega))) rfl (.cons (.one (.r .r)) (.nil)) fun g4 => ?_
  refine RW.k XK 73 1 rfl ?_
  (conv=>whnf);refine ⟨rfl,?_⟩
  refine RW.nil ?_
  refine CW.keep 73 [1,4] rfl ?_;(conv=>whnf);refine ⟨?_⟩
  refine CW.seq ?_
  refine CW.k XK 73 1 [1,4,5] rfl ?_
  (conv=>whnf);refine ⟨rfl,?_⟩
  refine CW.block ?_
  refine CW.loopI 73 (fun (i : Nat) => [(1, .rp (Keep.c k)), (4, S (varB (k.sessions.length : Int).toNat)), (5, I (i : Int))]) (fun (i : Nat) => i = 0) (fun (i : Nat) => 0) 0 rfl (Le.c rfl <| Le.c rfl <| Le.c rfl <| Le.e) rfl ?_
  rintro i hi0
  refine CW.seq ?_
  refine CW.k XK 73 1 [1,4,5,20] rfl ?_
  (conv=>whnf);refine ⟨rfl,?_⟩
  refine CW.cond rfl (fun h5 => ?_) (fun h5 => ?_)
  ·skip
   exact absurd (of_decide_eq_true h5) (by rw [hs0]; show ¬ (i : Int) < ((0 : Nat) : Int); omega)
  ·skip
   refine CW.exit ?_
   refine CW.keep 73 [1,4] rfl ?_;(conv=>whnf);refine ⟨?_⟩
   refine CW.seq ?_
   refine CW.region ?_
   refine RW.k XK 73 4 rfl ?_
   (conv=>whnf);refine ⟨rfl,?_⟩
   refine RW.call rfl (spec_l01Var_fn (k.items.length : Int) (by first | omega | (have h9 := kver hk hej; omega))) rfl (.cons (.one (.r .r)) (.nil)) fun g6 => ?_
   refine RW.v rfl (V.cat rfl rfl rfl (by first | (have h1 := varB_len9 (n := ((k.sessions.length : Int)).toNat) (by omega); have h2 := varB_len9 (n := ((k.items.length : Int)).toNat) (by omega); simp only [ByteArray.size_append, maxLen]; omega) | (have h9 := kver hk hej; have h8 := hP.size; have h7 := varB_len9 (n := ej.key.size) (by omega); have h6 := varB_len9 (n := ej.val.size) (by omega); have h5 := varB_len9 (n := ej.ver.toNat) (by omega); simp only [shB, ByteArray.size_append, maxLen]; omega))) ?_
   refine RW.k XK 73 1 rfl ?_
   (conv=>whnf);refine ⟨rfl,?_⟩
   refine RW.nil ?_
   refine CW.keep 73 [1,4] rfl ?_;(conv=>whnf);refine ⟨?_⟩
   refine CW.seq ?_
   refine CW.k XK 73 1 [1,4,7] rfl ?_
   (conv=>whnf);refine ⟨rfl,?_⟩
   refine CW.block ?_
   refine CW.loopI 73 (fun (zz : Nat × ByteArray) => match zz with | (j, s) => [(1, .rp (Keep.c k)), (4, S s), (7, I (j : Int))]) (fun (zz : Nat × ByteArray) => match zz with | (j, s) => j ≤ 1 ∧ KtP j s) (fun (zz : Nat × ByteArray) => match zz with | (j, s) => 1 - j) (0, _) rfl (Le.c rfl <| Le.c rfl <| Le.c rfl <| Le.e) ⟨by omega, .inl ⟨rfl, by rw [hk]; rfl⟩⟩ ?_
   rintro ⟨j, s⟩ ⟨hj1, hP⟩
   refine CW.seq ?_
   refine CW.k XK 73 1 [1,4,7,51] rfl ?_
   (conv=>whnf);refine ⟨rfl,?_⟩
   refine CW.cond rfl (fun h7 => ?_) (fun h7 => ?_)
   ·skip
    have hlt := of_decide_eq_true h7
    obtain ⟨ej, hej⟩ : ∃ e, k.items[j]? = some e := ⟨_, List.getElem?_eq_getElem (by omega)⟩
    refine CW.skip ?_
    refine CW.keep 73 [1,4,7] rfl ?_;(conv=>whnf);refine ⟨?_⟩
    refine CW.seq ?_
    refine CW.block ?_
    refine CW.seq ?_
    refine CW.region ?_
    refine RW.k XK 73 3 rfl ?_
    (conv=>whnf);refine ⟨rfl,?_⟩
    refine RW.v rfl (V.indexS rfl rfl rfl rfl rfl rfl Item.len hej) ?_
    refine RW.k XK 73 3 rfl ?_
    (conv=>whnf);intro b8;(conv=>whnf);refine ⟨rfl,?_⟩
    refine RW.freezeB (ts := (Item.c ej)) 8 rfl (DRd.r (DRd.r (DRd.r DRd.e))) ?_
    refine RW.nil ?_
    refine CW.keep 73 [1,4,7,8] rfl ?_;(conv=>whnf);refine ⟨?_⟩
    refine CW.anyR2 (fc := []) (L0 := [(1, .rp (Keep.c k)), (7, I (j : Int))]) 73 (fun (zz : (Nat → Nat → Value) × (Nat → Nat → Value) × (Nat → Nat → Value)) => match zz with | (go9_11_1, go9_3_1, go9_7_1) => [(4, S (((s ++ (shB ej.key)) ++ (shB ej.val)) ++ (varB ej.ver.toNat)))]) (fun all hall f hf b0 hb K hK => ?_) ?_
    ·skip
     have ro9_3 : ∀ B, ∀ (go9_11_1 : Nat → Nat → Value), ∀ (go9_3_1 : Nat → Nat → Value), ∀ (go9_7_1 : Nat → Nat → Value), RA f E B all 0 (bt 14 16383) ⟨73, [(4, S (((s ++ (shB ej.key)) ++ (shB ej.val)) ++ (varB ej.ver.toNat)))] ++ b0⟩ K := by
      intro B go9_11_1 go9_3_1 go9_7_1
      exact RA.of2 hall hf hb (RA.finH (Tell.of rfl) (by kernel_rfl) (hK (go9_11_1, go9_3_1, go9_7_1) _ rfl (Le.of rfl)))
     have ro9_2 : ∀ B, ∀ (go9_3_1 : Nat → Nat → Value), ∀ (go9_7_1 : Nat → Nat → Value), RA f E B all 3 (bt 14 2047) ⟨73, [(4, S s), (67, S ((s ++ (shB ej.key)) ++ (shB ej.val))), (69, I ej.ver)] ++ b0⟩ K := by
      intro B go9_3_1 go9_7_1
      refine RA.of2 hall hf hb (RA.stepH (L := [11]) (Tell.of rfl) (by kernel_rfl) (by simp) (RA.each ?_ (RA.each0)))
      ·skip
       refine RO.call rfl rfl (spec_l01Var_fn ej.ver (by first | omega | (have h9 := kver hk hej; omega))) rfl (.cons (.one (.r .r)) (.nil)) rfl fun go9_11_1 => ?_
       refine RA.first (i := 12) (ls' := (bt 14 8191)) (Tell.of rfl) (by kernel_rfl) rfl rfl rfl (VF.p (V.cat rfl rfl rfl (by first | (have h1 := varB_len9 (n := ((k.sessions.length : Int)).toNat) (by omega); have h2 := varB_len9 (n := ((k.items.length : Int)).toNat) (by omega); simp only [ByteArray.size_append, maxLen]; omega) | (have h9 := kver hk hej; have h8 := hP.size; have h7 := varB_len9 (n := ej.key.size) (by omega); have h6 := varB_len9 (n := ej.val.size) (by omega); have h5 := varB_len9 (n := ej.ver.toNat) (by omega); simp only [shB, ByteArray.size_append, maxLen]; omega)))) ?_
       refine RA.fr XK 73 0 [13] (bt 14 16383) rfl rfl (by kernel_rfl) (Tell.of rfl) ?_
       (conv=>whnf);refine ⟨rfl,fun B=>?_⟩
       exact RA.to2 hall hf hb (ro9_3 B go9_11_1 go9_3_1 go9_7_1) rfl rfl (by kernel_rfl)
     have ro9_1 : ∀ B, ∀ (go9_3_1 : Nat → Nat → Value), RA f E B all 5 (bt 14 1663) ⟨73, [(4, S s), (63, S (s ++ (shB ej.key))), (65, S ej.val), (69, I ej.ver)] ++ b0⟩ K := by
      intro B go9_3_1
      refine RA.of2 hall hf hb (RA.stepH (L := [7]) (Tell.of rfl) (by kernel_rfl) (by simp) (RA.each ?_ (RA.each0)))
      ·skip
       refine RO.call rfl rfl (spec_l16Short_fn ej.val (by have h9 := kver hk hej; omega)) rfl (.cons (.one (.r .r)) (.nil)) rfl fun go9_7_1 => ?_
       refine RA.first (i := 8) (ls' := (bt 14 2047)) (Tell.of rfl) (by kernel_rfl) rfl rfl rfl (VF.p (V.cat rfl rfl rfl (by first | (have h1 := varB_len9 (n := ((k.sessions.length : Int)).toNat) (by omega); have h2 := varB_len9 (n := ((k.items.length : Int)).toNat) (by omega); simp only [ByteArray.size_append, maxLen]; omega) | (have h9 := kver hk hej; have h8 := hP.size; have h7 := varB_len9 (n := ej.key.size) (by omega); have h6 := varB_len9 (n := ej.val.size) (by omega); have h5 := varB_len9 (n := ej.ver.toNat) (by omega); simp only [shB, ByteArray.size_append, maxLen]; omega)))) ?_
       exact RA.to2 hall hf hb (ro9_2 B go9_3_1 go9_7_1) rfl rfl (by kernel_rfl)
     have ro9_0 : ∀ B, RA f E B all 7 (bt 14 1639) ⟨73, [(4, S s), (59, S s), (61, S ej.key), (65, S ej.val), (69, I ej.ver)] ++ b0⟩ K := by
      intro B
      refine RA.of2 hall hf hb (RA.stepH (L := [3]) (Tell.of rfl) (by kernel_rfl) (by simp) (RA.each ?_ (RA.each0)))
      ·skip
       refine RO.call rfl rfl (spec_l16Short_fn ej.key (by have h9 := kver hk hej; omega)) rfl (.cons (.one (.r .r)) (.nil)) rfl fun go9_3_1 => ?_
       refine RA.first (i := 4) (ls' := (bt 14 1663)) (Tell.of rfl) (by kernel_rfl) rfl rfl rfl (VF.p (V.cat rfl rfl rfl (by first | (have h1 := varB_len9 (n := ((k.sessions.length : Int)).toNat) (by omega); have h2 := varB_len9 (n := ((k.items.length : Int)).toNat) (by omega); simp only [ByteArray.size_append, maxLen]; omega) | (have h9 := kver hk hej; have h8 := hP.size; have h7 := varB_len9 (n := ej.key.size) (by omega); have h6 := varB_len9 (n := ej.val.size) (by omega); have h5 := varB_len9 (n := ej.ver.toNat) (by omega); simp only [shB, ByteArray.size_append, maxLen]; omega)))) ?_
       exact RA.to2 hall hf hb (ro9_1 B go9_3_1) rfl rfl (by kernel_rfl)
     refine RA.start (by kernel_rfl) (by kernel_rfl) (m := 14) (ls' := (bt 14 0)) ?_
     refine RA.fr XK 73 7 [0,1,2,5,6,9,10] (bt 14 1639) rfl rfl (by kernel_rfl) (Tell.of rfl) ?_
     (conv=>whnf);refine ⟨rfl,fun B=>?_⟩
     exact RA.to2 hall hf hb (ro9_0 B) rfl rfl (by kernel_rfl)
    ·rintro ⟨go9_11_1, go9_3_1, go9_7_1⟩
     refine CW.keep 73 [1,4,7] rfl ?_;(conv=>whnf);refine ⟨?_⟩
     refine CW.region ?_
     refine RW.k XK 73 1 rfl ?_
     (conv=>whnf);refine ⟨rfl,?_⟩
     refine RW.v rfl (V.inc rfl rfl rfl (show j < 1 by omega) (by simp only [maxLen]; omega)) ?_
     refine RW.k XK 73 1 rfl ?_
     (conv=>whnf);refine ⟨rfl,?_⟩
     refine RW.nil ?_
     exact ⟨(j + 1, _), by simp only []; omega, ⟨by omega, hP.step (by rw [← hk]; exact hej)⟩, rfl, Le.c rfl <| Le.c rfl <| Le.c rfl <| Le.e⟩
   ·skip
    have hge := of_decide_eq_false h7
    refine CW.exit ?_
    refine CW.keep 73 [4] rfl ?_;(conv=>whnf);refine ⟨?_⟩
    refine CW.k XK 73 1 [2,3] rfl ?_
    (conv=>whnf);refine ⟨rfl,?_⟩
    refine CW.ret ?_
    exact Post.tup (by decide) (RVs.c (RV.s rfl (by exact hP.fin (by omega))) (RVs.c (RV.b rfl (by rfl)) RVs.e)) (AOs.a rfl AOs.e)
set_option maxHeartbeats 4000000 in
theorem impl_ShortText_fn (t : ByteArray) : Eng.Fn E.P 46 [.one (.r (.v (.string t)))] (.tup [.one (.w (.v (.string (shT t)))), .one (.w (.v (.bool (decide ((t.size : Int) ≤ 20000)))))]) [.one (.r (.v (.string t)))] := by
 refine Eng.Fn.intro (E := E) (rvs := [.tmp 2, .tmp 3]) Tryd.func46 rfl rfl rfl (by simp [outSlots, moved, rvSlot, sl]) ?_
 intro B g bo
 refine CW.keep 18 [0] rfl ?_;(conv=>whnf);refine ⟨?_⟩
 refine CW.k XK 18 1 [0] rfl ?_
 (conv=>whnf);refine ⟨rfl,?_⟩
 refine CW.seq ?_
 refine CW.k XK 18 1 [0,8] rfl ?_
 (conv=>whnf);refine ⟨rfl,?_⟩
 refine CW.cond rfl (fun h1 => ?_) (fun h1 => ?_)
 ·skip
  refine CW.k XK 18 1 [2,3] rfl ?_
  (conv=>whnf);refine ⟨rfl,?_⟩
  refine CW.ret ?_
  exact Post.tup (by decide) (RVs.c (RV.s rfl (by have h8 : ¬ (t.size : Int) ≤ 20000 := (by have h9 := of_decide_eq_true h1; omega); rw [shT, if_neg h8])) (RVs.c (RV.b rfl (by have h9 := of_decide_eq_true h1; simp; omega)) RVs.e)) (AOs.r AOs.e)
 ·skip
  refine CW.skip ?_
  refine CW.keep 18 [0] rfl ?_;(conv=>whnf);refine ⟨?_⟩
  refine CW.seq ?_
  refine CW.region ?_
  refine RW.k XK 18 2 rfl ?_
  (conv=>whnf);refine ⟨rfl,?_⟩
  refine RW.call rfl (impl_VarText_fn (t.size : Int)) rfl (.cons (.one (.r .r)) (.nil)) fun g2 => ?_
  refine RW.k XK 18 5 rfl ?_
  (conv=>whnf);refine ⟨rfl,?_⟩
  refine RW.nil ?_
  refine CW.keep 18 [0,4] rfl ?_;(conv=>whnf);refine ⟨?_⟩
  refine CW.seq ?_
  refine CW.region ?_
  refine RW.k XK 18 2 rfl ?_
  (conv=>whnf);refine ⟨rfl,?_⟩
  refine RW.v rfl (V.cat rfl rfl rfl (by have h9 := of_decide_eq_false h1; have h7 := vT_size t.size; simp only [vT] at h7; simp only [maxLen]; omega)) ?_
  refine RW.k XK 18 2 rfl ?_
  (conv=>whnf);refine ⟨rfl,?_⟩
  refine RW.nil ?_
  refine CW.keep 18 [2,3] rfl ?_;(conv=>whnf);refine ⟨?_⟩
  refine CW.ret ?_
  exact Post.tup (by decide) (RVs.c (RV.s rfl (by have h8 : (t.size : Int) ≤ 20000 := (by have h9 := of_decide_eq_false h1; omega); rw [shT, if_pos h8]; rfl)) (RVs.c (RV.b rfl (by have h9 := of_decide_eq_false h1; simp; omega)) RVs.e)) (AOs.r AOs.e)
set_option maxHeartbeats 4000000 in
theorem impl_shortTexts_fn (l : List ByteArray) (hl : l.length ≤ 10) : Eng.Fn E.P 44 [.one (.r (sl 1 cS l))] (.one (.one (.w (.v (.string (shTs l)))))) [.one (.r (sl 1 cS l))] := by
 refine Eng.Fn.intro (E := E) (rvs := [.tmp 2]) Tryd.func44 rfl rfl rfl (by simp [outSlots, moved, rvSlot, sl]) ?_
 intro B g bo
 refine CW.bound (x := .tmp 0) (n := l.length) (AsT.r) (fun hl0 => ?_)
 refine CW.keep 24 [0] rfl ?_;(conv=>whnf);refine ⟨?_⟩
 refine CW.k XK 24 2 [0,3] rfl ?_
 (conv=>whnf);refine ⟨rfl,?_⟩
 refine CW.seq ?_
 refine CW.k XK 24 1 [3,8,9,10] rfl ?_
 (conv=>whnf);refine ⟨rfl,?_⟩
 refine CW.block ?_
 refine CW.loopI 24 (fun (zz : Nat × ByteArray) => match zz with | (i, s) => [(3, S s), (8, .r (sl 1 cS l)), (9, I (l.length : Int)), (10, I (i : Int))]) (fun (zz : Nat × ByteArray) => match zz with | (i, s) => i ≤ l.length ∧ s = shTs (l.take i)) (fun (zz : Nat × ByteArray) => match zz with | (i, s) => l.length - i) (0, _) rfl (Le.c rfl <| Le.c rfl <| Le.c rfl <| Le.c rfl <| Le.e) ⟨by omega, rfl⟩ ?_
 rintro ⟨i, s⟩ ⟨hb, hs⟩
 refine CW.k XK 24 1 [3,8,9,10,11] rfl ?_
 (conv=>whnf);refine ⟨rfl,?_⟩
 refine CW.seq ?_
 refine CW.cond rfl (fun h1 => ?_) (fun h1 => ?_)
 ·skip
  have hii : i < l.length := by have := h1; simp at this; first | exact this | omega | (simp; done) | (simp; omega)
  obtain ⟨ei, hei⟩ : ∃ e, l[i]? = some e := ⟨_, List.getElem?_eq_getElem hii⟩
  have hdi := drop_get hei
  refine CW.skip ?_
  refine CW.keep 24 [3,8,9,10] rfl ?_;(conv=>whnf);refine ⟨?_⟩
  refine CW.seq ?_
  refine CW.block ?_
  refine CW.seq ?_
  refine CW.region ?_
  refine RW.v rfl (V.indexS rfl rfl rfl rfl rfl rfl cS.len hei) ?_
  refine RW.k XK 24 2 rfl ?_
  (conv=>whnf);refine ⟨rfl,?_⟩
  refine RW.nil ?_
  refine CW.keep 24 [3,5,8,9,10] rfl ?_;(conv=>whnf);refine ⟨?_⟩
  refine CW.seq ?_
  refine CW.region ?_
  refine RW.k XK 24 1 rfl ?_
  (conv=>whnf);refine ⟨rfl,?_⟩
  refine RW.call rfl (impl_ShortText_fn ei) rfl (.cons (.one (.r .r)) (.nil)) fun g2 => ?_
  refine RW.k XK 24 5 rfl ?_
  (conv=>whnf);refine ⟨rfl,?_⟩
  refine RW.nil ?_
  refine CW.keep 24 [3,6,8,9,10] rfl ?_;(conv=>whnf);refine ⟨?_⟩
  refine CW.region ?_
  refine RW.k XK 24 2 rfl ?_
  (conv=>whnf);refine ⟨rfl,?_⟩
  refine RW.v rfl (V.cat rfl rfl rfl (by have h9 := shTs_size (l.take i); rw [← hs] at h9; have h8 := take_len l i; have h7 := shT_size ei; simp only [maxLen]; omega)) ?_
  refine RW.k XK 24 1 rfl ?_
  (conv=>whnf);refine ⟨rfl,?_⟩
  refine RW.nil ?_
  refine CW.keep 24 [3,8,9,10] rfl ?_;(conv=>whnf);refine ⟨?_⟩
  refine CW.region ?_
  refine RW.v rfl (V.inc rfl rfl rfl hii hl0) ?_
  refine RW.k XK 24 1 rfl ?_
  (conv=>whnf);refine ⟨rfl,?_⟩
  refine RW.nil ?_
  exact ⟨(i + 1, _), by simp only []; omega, ⟨by omega, by rw [shTs_snoc hei, ← hs]⟩, rfl, Le.c rfl <| Le.c rfl <| Le.c rfl <| Le.c rfl <| Le.e⟩
 ·skip
  have hii : l.length ≤ i := by have := h1; simp at this; first | exact this | omega | (simp; done) | (simp; omega)
  have hdi : l.drop i = [] := List.drop_eq_nil_of_le hii
  refine CW.exit ?_
  refine CW.keep 24 [3] rfl ?_;(conv=>whnf);refine ⟨?_⟩
  refine CW.k XK 24 1 [2] rfl ?_
  (conv=>whnf);refine ⟨rfl,?_⟩
  refine CW.ret ?_
  exact Post.one (RV.s rfl (by rw [hs, List.take_of_length_le hii])) (AOs.r AOs.e)
set_option maxHeartbeats 4000000 in
theorem impl_KeepText_fn (k : Keep) (hk : k = keepNew) : Eng.Fn E.P 18 [.agg ((Keep.c k).map .r)] (.tup [.one (.w (.v (.string kT))), .one (.w (.v (.bool true)))]) [.agg ((Keep.c k).map .r)] := by
 refine Eng.Fn.intro (E := E) (rvs := [.tmp 2, .tmp 3]) Tryd.func18 rfl rfl rfl (by simp [outSlots, moved, rvSlot, sl]) ?_
 intro B g bo
 refine CW.keep 70 [0] rfl ?_;(conv=>whnf);refine ⟨?_⟩
 have hs0 : k.sessions = [] := by rw [hk]; rfl
 have hsl : k.sessions.length = 0 := by rw [hk]; rfl
 have hil : k.items.length = 1 := by rw [hk]; rfl
 have hkk : keepOk k = true := by rw [hk]; exact keepNew_k
 refine CW.seq ?_
 refine CW.region ?_
 refine RW.k XK 70 1 rfl ?_
 (conv=>whnf);intro b1;(conv=>whnf);refine ⟨rfl,?_⟩
 refine RW.freezeB (ts := (Keep.c k)) 1 rfl (DRd.r (DRd.r DRd.e)) ?_
 refine RW.k XK 70 2 rfl ?_
 (conv=>whnf);refine ⟨rfl,?_⟩
 refine RW.nil ?_
 refine CW.keep 70 [1] rfl ?_;(conv=>whnf);refine ⟨?_⟩
 refine CW.seq ?_
 refine CW.seq ?_
 refine CW.region ?_
 refine RW.k XK 70 1 rfl ?_
 (conv=>whnf);refine ⟨rfl,?_⟩
 refine RW.call rfl (impl_KeepOk_fn k (by rw [hk]; exact keepNew_to)) rfl (.cons (.agg (.cons (.r .r) (.cons (.r .r) (.nil)))) (.nil)) fun g2 => ?_
 refine RW.k XK 70 1 rfl ?_
 (conv=>whnf);refine ⟨rfl,?_⟩
 refine RW.nil ?_
 refine CW.keep 70 [1,11] rfl ?_;(conv=>whnf);refine ⟨?_⟩
 refine CW.cond rfl (fun h3 => ?_) (fun h3 => ?_)
 ·skip
  exact absurd h3 (by rw [hkk]; simp)
 ·skip
  refine CW.skip ?_
  refine CW.keep 70 [1] rfl ?_;(conv=>whnf);refine ⟨?_⟩
  refine CW.seq ?_
  refine CW.region ?_
  refine RW.k XK 70 3 rfl ?_
  (conv=>whnf);refine ⟨rfl,?_⟩
  refine RW.build1c (c := cI) (v := (k.sessions.length : Int)) (u := .v (.int .i64 (k.sessions.length : Int))) rfl rfl rfl rfl rfl rfl (.inl rfl) rfl rfl fun X4 => ?_
  refine RW.callOwn rfl (impl_varTexts_fn ([(k.sessions.length : Int)]) (Nat.le_of_ble_eq_true rfl)) rfl (.cons (.one (.r (.al (k := none) (i := 15) (sz := 1) (V := X4) rfl rfl nofun))) (.nil)) rfl fun g5 => ?_
  refine RW.k XK 70 1 rfl ?_
  (conv=>whnf);refine ⟨rfl,?_⟩
  refine RW.nil ?_
  refine CW.keep 70 [1,4] rfl ?_;(conv=>whnf);refine ⟨?_⟩
  refine CW.seq ?_
  refine CW.k XK 70 1 [1,4,18,19,20] rfl ?_
  (conv=>whnf);refine ⟨rfl,?_⟩
  refine CW.block ?_
  refine CW.loopI 70 (fun (i : Nat) => [(1, .rp (Keep.c k)), (4, S (varTs ([(k.sessions.length : Int)]))), (18, .r (sl 3 Session.c k.sessions)), (19, I (k.sessions.length : Int)), (20, I (i : Int))]) (fun (i : Nat) => i = 0) (fun (i : Nat) => 0) 0 rfl (Le.c rfl <| Le.c rfl <| Le.c rfl <| Le.c rfl <| Le.c rfl <| Le.e) rfl ?_
  rintro i hi0
  refine CW.k XK 70 1 [1,4,18,19,20,21] rfl ?_
  (conv=>whnf);refine ⟨rfl,?_⟩
  refine CW.seq ?_
  refine CW.cond rfl (fun h6 => ?_) (fun h6 => ?_)
  ·skip
   exact absurd (of_decide_eq_true h6) (by rw [hs0]; show ¬ (i : Int) < ((0 : Nat) : Int); omega)
  ·skip
   refine CW.exit ?_
   refine CW.keep 70 [1,4] rfl ?_;(conv=>whnf);refine ⟨?_⟩
   refine CW.seq ?_
   refine CW.region ?_
   refine RW.k XK 70 4 rfl ?_
   (conv=>whnf);refine ⟨rfl,?_⟩
   refine RW.build1c (c := cI) (v := (k.items.length : Int)) (u := .v (.int .i64 (k.items.length : Int))) rfl rfl rfl rfl rfl rfl (.inl rfl) rfl rfl fun X7 => ?_
   refine RW.callOwn rfl (impl_varTexts_fn ([(k.items.length : Int)]) (Nat.le_of_ble_eq_true rfl)) rfl (.cons (.one (.r (.al (k := none) (i := 42) (sz := 1) (V := X7) rfl rfl nofun))) (.nil)) rfl fun g8 => ?_
   refine RW.v rfl (V.cat rfl rfl rfl (by first | (have h1 := varTs_size [((k.sessions.length : Nat) : Int)]; have h2 := varTs_size [((k.items.length : Nat) : Int)]; simp only [List.length_cons, List.length_nil] at h1 h2; simp only [ByteArray.size_append, maxLen]; omega) | (have h8 := hP.size; have h1 := shTs_size [ej.key, ej.val]; have h2 := varTs_size [ej.ver]; simp only [List.length_cons, List.length_nil] at h1 h2; simp only [ByteArray.size_append, maxLen]; omega))) ?_
   refine RW.k XK 70 1 rfl ?_
   (conv=>whnf);refine ⟨rfl,?_⟩
   refine RW.nil ?_
   refine CW.keep 70 [1,4] rfl ?_;(conv=>whnf);refine ⟨?_⟩
   refine CW.seq ?_
   refine CW.k XK 70 1 [4,46,47,48] rfl ?_
   (conv=>whnf);refine ⟨rfl,?_⟩
   refine CW.block ?_
   refine CW.loopI 70 (fun (zz : Nat × ByteArray) => match zz with | (j, s) => [(4, S s), (46, .r (sl 3 Item.c k.items)), (47, I (k.items.length : Int)), (48, I (j : Int))]) (fun (zz : Nat × ByteArray) => match zz with | (j, s) => j ≤ 1 ∧ KtP j s) (fun (zz : Nat × ByteArray) => match zz with | (j, s) => 1 - j) (0, _) rfl (Le.c rfl <| Le.c rfl <| Le.c rfl <| Le.c rfl <| Le.e) ⟨by omega, .inl ⟨rfl, by rw [hk]; exact kT0_I⟩⟩ ?_
   rintro ⟨j, s⟩ ⟨hj1, hP⟩
   refine CW.k XK 70 1 [4,46,47,48,49] rfl ?_
   (conv=>whnf);refine ⟨rfl,?_⟩
   refine CW.seq ?_
   refine CW.cond rfl (fun h9 => ?_) (fun h9 => ?_)
   ·skip
    have hlt := of_decide_eq_true h9
    obtain ⟨ej, hej⟩ : ∃ e, k.items[j]? = some e := ⟨_, List.getElem?_eq_getElem (by omega)⟩
    refine CW.skip ?_
    refine CW.keep 70 [4,46,47,48] rfl ?_;(conv=>whnf);refine ⟨?_⟩
    refine CW.seq ?_
    refine CW.block ?_
    refine CW.seq ?_
    refine CW.region ?_
    refine RW.v rfl (V.indexS rfl rfl rfl rfl rfl rfl Item.len hej) ?_
    refine RW.k XK 70 3 rfl ?_
    (conv=>whnf);intro b10;(conv=>whnf);refine ⟨rfl,?_⟩
    refine RW.freezeB (ts := (Item.c ej)) 8 rfl (DRd.r (DRd.r (DRd.r DRd.e))) ?_
    refine RW.nil ?_
    refine CW.keep 70 [4,8,46,47,48] rfl ?_;(conv=>whnf);refine ⟨?_⟩
    refine CW.anyR2 (fc := []) (L0 := [(46, .r (sl 3 Item.c k.items)), (47, I (k.items.length : Int)), (48, I (j : Int))]) 70 (fun (zz : Value × Value × (Nat → Nat → Value) × (Nat → Nat → Value)) => match zz with | (Xo11_5_1, Xo11_9_1, go11_10_1, go11_6_1) => [(4, S (s ++ ((shTs ([ej.key, ej.val] : List ByteArray)) ++ (varTs ([ej.ver])))))]) (fun all hall f hf b0 hb K hK => ?_) ?_
    ·skip
     have ro11_6 : ∀ B, ∀ (Xo11_5_1 : Value), ∀ (Xo11_9_1 : Value), ∀ (go11_10_1 : Nat → Nat → Value), ∀ (go11_6_1 : Nat → Nat → Value), RA f E B all 0 (bt 14 16383) ⟨70, [(4, S (s ++ ((shTs ([ej.key, ej.val] : List ByteArray)) ++ (varTs ([ej.ver])))))] ++ b0⟩ K := by
      intro B Xo11_5_1 Xo11_9_1 go11_10_1 go11_6_1
      exact RA.of2 hall hf hb (RA.finH (Tell.of rfl) (by kernel_rfl) (hK (Xo11_5_1, Xo11_9_1, go11_10_1, go11_6_1) _ rfl (Le.of rfl)))
     have ro11_5 : ∀ B, ∀ (Xo11_5_1 : Value), ∀ (Xo11_9_1 : Value), ∀ (go11_6_1 : Nat → Nat → Value), RA f E B all 4 (bt 14 1023) ⟨70, [(4, S s), (52, S s), (58, S (shTs ([ej.key, ej.val] : List ByteArray))), (61, .w (sl 1 cI ([ej.ver])) Xo11_9_1)] ++ b0⟩ K := by
      intro B Xo11_5_1 Xo11_9_1 go11_6_1
      refine RA.of2 hall hf hb (RA.stepH (L := [10]) (Tell.of rfl) (by kernel_rfl) (by simp) (RA.each ?_ (RA.each0)))
      ·skip
       refine RO.callOwn rfl rfl (impl_varTexts_fn ([ej.ver]) (Nat.le_of_ble_eq_true rfl)) rfl (.cons (.one (.r (.al (k := none) (i := 61) (sz := 1) (V := Xo11_9_1) rfl rfl nofun))) (.nil)) rfl rfl fun go11_10_1 => ?_
       refine RA.first (i := 11) (ls' := (bt 14 4095)) (Tell.of rfl) (by kernel_rfl) rfl rfl rfl (VF.p (V.cat rfl rfl rfl (by first | (have h1 := varTs_size [((k.sessions.length : Nat) : Int)]; have h2 := varTs_size [((k.items.length : Nat) : Int)]; simp only [List.length_cons, List.length_nil] at h1 h2; simp only [ByteArray.size_append, maxLen]; omega) | (have h8 := hP.size; have h1 := shTs_size [ej.key, ej.val]; have h2 := varTs_size [ej.ver]; simp only [List.length_cons, List.length_nil] at h1 h2; simp only [ByteArray.size_append, maxLen]; omega)))) ?_
       refine RA.first (i := 12) (ls' := (bt 14 8191)) (Tell.of rfl) (by kernel_rfl) rfl rfl rfl (VF.p (V.cat rfl rfl rfl (by first | (have h1 := varTs_size [((k.sessions.length : Nat) : Int)]; have h2 := varTs_size [((k.items.length : Nat) : Int)]; simp only [List.length_cons, List.length_nil] at h1 h2; simp only [ByteArray.size_append, maxLen]; omega) | (have h8 := hP.size; have h1 := shTs_size [ej.key, ej.val]; have h2 := varTs_size [ej.ver]; simp only [List.length_cons, List.length_nil] at h1 h2; simp only [ByteArray.size_append, maxLen]; omega)))) ?_
       refine RA.fr XK 70 0 [13] (bt 14 16383) rfl rfl (by kernel_rfl) (Tell.of rfl) ?_
       (conv=>whnf);refine ⟨rfl,fun B=>?_⟩
       exact RA.to2 hall hf hb (ro11_6 B Xo11_5_1 Xo11_9_1 go11_10_1 go11_6_1) rfl rfl (by kernel_rfl)
     have ro11_4 : ∀ B, ∀ (Xo11_5_1 : Value), ∀ (Xo11_9_1 : Value), RA f E B all 5 (bt 14 959) ⟨70, [(4, S s), (52, S s), (57, .w (sl 1 cS ([ej.key, ej.val] : List ByteArray)) Xo11_5_1), (61, .w (sl 1 cI ([ej.ver])) Xo11_9_1)] ++ b0⟩ K := by
      intro B Xo11_5_1 Xo11_9_1
      refine RA.of2 hall hf hb (RA.stepH (L := [6]) (Tell.of rfl) (by kernel_rfl) (by simp) (RA.each ?_ (RA.each0)))
      ·skip
       refine RO.callOwn rfl rfl (impl_shortTexts_fn ([ej.key, ej.val] : List ByteArray) (Nat.le_of_ble_eq_true rfl)) rfl (.cons (.one (.r (.al (k := none) (i := 57) (sz := 1) (V := Xo11_5_1) rfl rfl nofun))) (.nil)) rfl rfl fun go11_6_1 => ?_
       exact RA.to2 hall hf hb (ro11_5 B Xo11_5_1 Xo11_9_1 go11_6_1) rfl rfl (by kernel_rfl)
     have ro11_3 : ∀ B, ∀ (Xo11_5_1 : Value), ∀ (go11_6_1 : Nat → Nat → Value), RA f E B all 5 (bt 14 511) ⟨70, [(4, S s), (52, S s), (58, S (shTs ([ej.key, ej.val] : List ByteArray))), (60, I ej.ver)] ++ b0⟩ K := by
      intro B Xo11_5_1 go11_6_1
      refine RA.of2 hall hf hb (RA.stepH (L := [9]) (Tell.of rfl) (by kernel_rfl) (by simp) (RA.each ?_ (RA.each0)))
      ·skip
       refine RO.build1c (c := cI) (v := ej.ver) (u := .v (.int .i64 ej.ver)) rfl rfl rfl rfl rfl rfl rfl rfl (.inl rfl) rfl rfl fun Xo11_9_1 => ?_
       exact RA.to2 hall hf hb (ro11_5 B Xo11_5_1 Xo11_9_1 go11_6_1) rfl rfl (by kernel_rfl)
     have ro11_2 : ∀ B, ∀ (Xo11_9_1 : Value), RA f E B all 6 (bt 14 927) ⟨70, [(4, S s), (52, S s), (54, S ej.key), (56, S ej.val), (61, .w (sl 1 cI ([ej.ver])) Xo11_9_1)] ++ b0⟩ K := by
      intro B Xo11_9_1
      refine RA.of2 hall hf hb (RA.stepH (L := [5]) (Tell.of rfl) (by kernel_rfl) (by simp) (RA.each ?_ (RA.each0)))
      ·skip
       refine RO.buildV (c := cS) (L := [ej.key, ej.val]) (vs := [(.string ej.key), (.string ej.val)]) [.tmp 54, .tmp 56] rfl rfl rfl rfl rfl rfl rfl rfl rfl rfl rfl rfl (by decide) (by decide) rfl rfl fun Xo11_5_1 => ?_
       exact RA.to2 hall hf hb (ro11_4 B Xo11_5_1 Xo11_9_1) rfl rfl (by kernel_rfl)
     have ro11_1 : ∀ B, ∀ (Xo11_5_1 : Value), RA f E B all 6 (bt 14 447) ⟨70, [(4, S s), (52, S s), (57, .w (sl 1 cS ([ej.key, ej.val] : List ByteArray)) Xo11_5_1), (60, I ej.ver)] ++ b0⟩ K := by
      intro B Xo11_5_1
      refine RA.of2 hall hf hb (RA.stepH (L := [6, 9]) (Tell.of rfl) (by kernel_rfl) (by simp) (RA.each ?_ (RA.each ?_ (RA.each0))))
      ·skip
       refine RO.callOwn rfl rfl (impl_shortTexts_fn ([ej.key, ej.val] : List ByteArray) (Nat.le_of_ble_eq_true rfl)) rfl (.cons (.one (.r (.al (k := none) (i := 57) (sz := 1) (V := Xo11_5_1) rfl rfl nofun))) (.nil)) rfl rfl fun go11_6_1 => ?_
       exact RA.to2 hall hf hb (ro11_3 B Xo11_5_1 go11_6_1) rfl rfl (by kernel_rfl)
      ·skip
       refine RO.build1c (c := cI) (v := ej.ver) (u := .v (.int .i64 ej.ver)) rfl rfl rfl rfl rfl rfl rfl rfl (.inl rfl) rfl rfl fun Xo11_9_1 => ?_
       exact RA.to2 hall hf hb (ro11_4 B Xo11_5_1 Xo11_9_1) rfl rfl (by kernel_rfl)
     have ro11_0 : ∀ B, RA f E B all 7 (bt 14 415) ⟨70, [(4, S s), (52, S s), (54, S ej.key), (56, S ej.val), (60, I ej.ver)] ++ b0⟩ K := by
      intro B
      refine RA.of2 hall hf hb (RA.stepH (L := [5, 9]) (Tell.of rfl) (by kernel_rfl) (by simp) (RA.each ?_ (RA.each ?_ (RA.each0))))
      ·skip
       refine RO.buildV (c := cS) (L := [ej.key, ej.val]) (vs := [(.string ej.key), (.string ej.val)]) [.tmp 54, .tmp 56] rfl rfl rfl rfl rfl rfl rfl rfl rfl rfl rfl rfl (by decide) (by decide) rfl rfl fun Xo11_5_1 => ?_
       exact RA.to2 hall hf hb (ro11_1 B Xo11_5_1) rfl rfl (by kernel_rfl)
      ·skip
       refine RO.build1c (c := cI) (v := ej.ver) (u := .v (.int .i64 ej.ver)) rfl rfl rfl rfl rfl rfl rfl rfl (.inl rfl) rfl rfl fun Xo11_9_1 => ?_
       exact RA.to2 hall hf hb (ro11_2 B Xo11_9_1) rfl rfl (by kernel_rfl)
     refine RA.start (by kernel_rfl) (by kernel_rfl) (m := 14) (ls' := (bt 14 0)) ?_
     refine RA.fr XK 70 7 [0,1,2,3,4,7,8] (bt 14 415) rfl rfl (by kernel_rfl) (Tell.of rfl) ?_
     (conv=>whnf);refine ⟨rfl,fun B=>?_⟩
     exact RA.to2 hall hf hb (ro11_0 B) rfl rfl (by kernel_rfl)
    ·rintro ⟨Xo11_5_1, Xo11_9_1, go11_10_1, go11_6_1⟩
     refine CW.keep 70 [4,46,47,48] rfl ?_;(conv=>whnf);refine ⟨?_⟩
     refine CW.region ?_
     refine RW.v rfl (V.inc rfl rfl rfl (show j < 1 by omega) (by simp only [maxLen]; omega)) ?_
     refine RW.k XK 70 1 rfl ?_
     (conv=>whnf);refine ⟨rfl,?_⟩
     refine RW.nil ?_
     exact ⟨(j + 1, _), by simp only []; omega, ⟨by omega, hP.stepI (by rw [← hk]; exact hej)⟩, rfl, Le.c rfl <| Le.c rfl <| Le.c rfl <| Le.c rfl <| Le.e⟩
   ·skip
    have hge := of_decide_eq_false h9
    refine CW.exit ?_
    refine CW.keep 70 [4] rfl ?_;(conv=>whnf);refine ⟨?_⟩
    refine CW.seq ?_
    refine CW.k XK 70 1 [4,68] rfl ?_
    (conv=>whnf);refine ⟨rfl,?_⟩
    refine CW.cond rfl (fun h12 => ?_) (fun h12 => ?_)
    ·skip
     exact absurd (of_decide_eq_true h12) (by have h9 := hP.size; omega)
    ·skip
     refine CW.skip ?_
     refine CW.keep 70 [4] rfl ?_;(conv=>whnf);refine ⟨?_⟩
     refine CW.k XK 70 1 [2,3] rfl ?_
     (conv=>whnf);refine ⟨rfl,?_⟩
     refine CW.ret ?_
     exact Post.tup (by decide) (RVs.c (RV.s rfl (by exact hP.fin (by omega))) (RVs.c (RV.b rfl (by rfl)) RVs.e)) (AOs.a rfl AOs.e)
set_option maxHeartbeats 4000000 in
theorem spec_l05Rise_fn (a : List Int) (lo : Int) (hi : Int) : Eng.Fn E.P 76 [.one (.r (sl 1 cI a)), .one (.r (.v (.int .i64 lo))), .one (.r (.v (.int .i64 hi)))] (.one (.one (.w (.v (.bool (riseOk lo hi none a)))))) [.one (.r (sl 1 cI a)), .one (.r (.v (.int .i64 lo))), .one (.r (.v (.int .i64 hi)))] := by
 refine Eng.Fn.intro (E := E) (rvs := [.tmp 6]) Tryd.func76 rfl rfl rfl (by simp [outSlots, moved, rvSlot, sl]) ?_
 intro B g bo
 refine CW.bound (x := .tmp 0) (n := a.length) (AsT.r) (fun hl0 => ?_)
 refine CW.keep 38 [0,1,2] rfl ?_;(conv=>whnf);refine ⟨?_⟩
 refine CW.k XK 38 1 [0,1,2] rfl ?_
 (conv=>whnf);refine ⟨rfl,?_⟩
 refine CW.seq ?_
 refine CW.k XK 38 1 [0,1,2,7] rfl ?_
 (conv=>whnf);refine ⟨rfl,?_⟩
 refine CW.block ?_
 refine CW.loopI 38 (fun (i : Nat) => [(0, .r (sl 1 cI a)), (1, I lo), (2, I hi), (7, I (i : Int))]) (fun (i : Nat) => i ≤ a.length ∧ riseOk lo hi (prevI a i) (a.drop i) = riseOk lo hi none a) (fun (i : Nat) => a.length - i) 0 rfl (Le.c rfl <| Le.c rfl <| Le.c rfl <| Le.c rfl <| Le.e) ⟨by omega, by simp [prevI]⟩ ?_
 rintro i ⟨hb, hr⟩
 refine CW.seq ?_
 refine CW.k XK 38 1 [0,1,2,7,11] rfl ?_
 (conv=>whnf);refine ⟨rfl,?_⟩
 refine CW.cond rfl (fun h1 => ?_) (fun h1 => ?_)
 ·skip
  have hii : i < a.length := by have := h1; simp at this; first | exact this | omega | (simp; done) | (simp; omega)
  obtain ⟨ei, hei⟩ : ∃ e, a[i]? = some e := ⟨_, List.getElem?_eq_getElem hii⟩
  have hdi := drop_get hei
  refine CW.skip ?_
  refine CW.keep 38 [0,1,2,7] rfl ?_;(conv=>whnf);refine ⟨?_⟩
  refine CW.seq ?_
  refine CW.block ?_
  refine CW.seqJ 38 (fun (v2 : Bool) => [(0, .r (sl 1 cI a)), (1, I lo), (2, I hi), (7, I (i : Int)), (37, Bo v2)]) (fun v2 => v2 = ((!(inR ei lo hi)) || (decide ((i : Int) > 0) && decide ((a.getD (i - 1) 0) ≥ ei)))) ?_ ?_
  ·refine CW.drawn (by kernel_rfl) ?_
   refine RQ.k XK 38 2 rfl ?_
   (conv=>whnf);refine ⟨rfl,?_⟩
   refine RQ.v rfl (V.indexS rfl rfl rfl rfl rfl rfl cI.len hei) ?_
   refine RQ.k XK 38 3 rfl ?_
   (conv=>whnf);refine ⟨rfl,?_⟩
   refine RQ.cons rfl (QOK.call (spec_l01In_fn ei lo hi) rfl (.cons (.one (.r .r)) (.cons (.one (.r .r)) (.cons (.one (.r .r)) (.nil)))) ?_)
   refine RQ.k XK 38 2 rfl ?_
   (conv=>whnf);refine ⟨rfl,?_⟩
   refine RQ.gv rfl rfl rfl rfl (fun h3 => V.mv (d := I (i : Int)) rfl rfl) (fun h3 => ?_) (fun h3 => ?_)
   ·skip
    refine RQ.k XK 38 2 rfl ?_
    (conv=>whnf);refine ⟨rfl,?_⟩
    refine RQ.gv rfl rfl rfl rfl (fun h4 => V.mv (d := .r (sl 1 cI a)) rfl rfl) (fun h4 => ?_) (fun h4 => ?_)
    ·skip
     refine RQ.k XK 38 1 rfl ?_
     (conv=>whnf);refine ⟨rfl,?_⟩
     refine RQ.gt rfl rfl rfl rfl (V.dec (m := i) rfl rfl rfl (by have := h4; simp at this; omega) (by omega)) ?_
     refine RQ.gt rfl rfl rfl rfl (V.indexS rfl rfl rfl rfl rfl rfl cI.len (getD_some (l := a) (j := i - 1) (z := 0) (by omega))) ?_
     refine RQ.k XK 38 3 rfl ?_
     (conv=>whnf);refine ⟨rfl,?_⟩
     refine RQ.gt rfl rfl rfl rfl (V.indexS rfl rfl rfl rfl rfl rfl cI.len hei) ?_
     refine RQ.k XK 38 4 rfl ?_
     (conv=>whnf);refine ⟨rfl,?_⟩
     refine RQ.nil ?_
     exact ⟨_, by first | rfl | (simp_all; done) | (simp_all; omega) | grind, rfl, Le.of rfl⟩
    ·skip
     refine RQ.k XK 38 11 rfl ?_
     (conv=>whnf);refine ⟨rfl,?_⟩
     refine RQ.nil ?_
     exact ⟨_, by first | rfl | (simp_all; done) | (simp_all; omega) | grind, rfl, Le.of rfl⟩
   ·skip
    refine RQ.k XK 38 14 rfl ?_
    (conv=>whnf);refine ⟨rfl,?_⟩
    refine RQ.nil ?_
    exact ⟨_, by first | rfl | (simp_all; done) | (simp_all; omega) | grind, rfl, Le.of rfl⟩
  ·intro v2 hv5
   refine CW.cond rfl (fun h6 => ?_) (fun h6 => ?_)
   ·skip
    refine CW.k XK 38 1 [6] rfl ?_
    (conv=>whnf);refine ⟨rfl,?_⟩
    refine CW.ret ?_
    exact Post.one (RV.b rfl (by rw [← hr, hdi, riseOk_cons]; grind [prevI])) (AOs.r (AOs.r (AOs.r AOs.e)))
   ·skip
    refine CW.skip ?_
    refine CW.keep 38 [0,1,2,7] rfl ?_;(conv=>whnf);refine ⟨?_⟩
    refine CW.region ?_
    refine RW.k XK 38 1 rfl ?_
    (conv=>whnf);refine ⟨rfl,?_⟩
    refine RW.v rfl (V.inc rfl rfl rfl hii hl0) ?_
    refine RW.k XK 38 1 rfl ?_
    (conv=>whnf);refine ⟨rfl,?_⟩
    refine RW.nil ?_
    exact ⟨i + 1, by omega, ⟨by omega, by rw [← hr, hdi, riseOk_cons, prevI_succ hei]; grind [prevI]⟩, rfl, Le.c rfl <| Le.c rfl <| Le.c rfl <| Le.c rfl <| Le.e⟩
 ·skip
  have hii : a.length ≤ i := by have := h1; simp at this; first | exact this | omega | (simp; done) | (simp; omega)
  have hdi : a.drop i = [] := List.drop_eq_nil_of_le hii
  refine CW.exit ?_
  refine CW.keep 38 [] rfl ?_;(conv=>whnf);refine ⟨?_⟩
  refine CW.k XK 38 1 [6] rfl ?_
  (conv=>whnf);refine ⟨rfl,?_⟩
  refine CW.ret ?_
  exact Post.one (RV.b rfl (by rw [← hr, hdi, riseOk_nil])) (AOs.r (AOs.r (AOs.r AOs.e)))
set_option maxHeartbeats 4000000 in
theorem spec_ConfOk_fn (a : List Int) : Eng.Fn E.P 58 [.one (.r (sl 1 cI a))] (.one (.one (.w (.v (.bool (confOk a)))))) [.one (.r (sl 1 cI a))] := by
 refine Eng.Fn.intro (E := E) (rvs := [.tmp 2]) Tryd.func58 rfl rfl rfl (by simp [outSlots, moved, rvSlot, sl]) ?_
 intro B g bo
 refine CW.bound (x := .tmp 0) (n := a.length) (AsT.r) (fun hl0 => ?_)
 refine CW.keep 10 [0] rfl ?_;(conv=>whnf);refine ⟨?_⟩
 refine CW.k XK 10 1 [0] rfl ?_
 (conv=>whnf);refine ⟨rfl,?_⟩
 refine CW.seqJ 10 (fun (v1 : Bool) => [(2, Bo v1)]) (fun v1 => v1 = ((inR (a.length : Int) 1 4) && (riseOk 1 4 none a))) ?_ ?_
 ·refine CW.region ?_
  refine RW.k XK 10 2 rfl ?_
  (conv=>whnf);refine ⟨rfl,?_⟩
  refine RW.call rfl (spec_l01In_fn (a.length : Int) 1 4) rfl (.cons (.one (.r .r)) (.cons (.one (.r .r)) (.cons (.one (.r .r)) (.nil)))) fun g2 => ?_
  refine RW.k XK 10 1 rfl ?_
  (conv=>whnf);refine ⟨rfl,?_⟩
  refine RW.gv rfl rfl rfl rfl (fun h3 => V.mv (d := .r (sl 1 cI a)) rfl rfl) (fun h3 => ?_) (fun h3 => ?_)
  ·skip
   refine RW.gcall rfl rfl rfl rfl (spec_l05Rise_fn a 1 4) rfl (.cons (.one (.r .r)) (.cons (.one (.r .r)) (.cons (.one (.r .r)) (.nil)))) fun g4 => ?_
   refine RW.k XK 10 2 rfl ?_
   (conv=>whnf);refine ⟨rfl,?_⟩
   refine RW.nil ?_
   exact ⟨_, by first | rfl | (simp_all; done) | (simp_all; omega) | grind, rfl, Le.of rfl⟩
  ·skip
   refine RW.k XK 10 3 rfl ?_
   (conv=>whnf);refine ⟨rfl,?_⟩
   refine RW.nil ?_
   exact ⟨_, by first | rfl | (simp_all; done) | (simp_all; omega) | grind, rfl, Le.of rfl⟩
 ·intro v1 hv5
  refine CW.ret ?_
  exact Post.one (RV.b rfl (by simp_all [confOk])) (AOs.r AOs.e)
set_option maxHeartbeats 4000000 in
theorem impl_isNode_fn (n : Int) : Eng.Fn E.P 84 [.one (.r (.v (.int .i64 n)))] (.one (.one (.w (.v (.bool (inR n 1 4)))))) [.one (.r (.v (.int .i64 n)))] := by
 refine Eng.Fn.intro (E := E) (rvs := [.tmp 2]) Tryd.func84 rfl rfl rfl (by simp [outSlots, moved, rvSlot, sl]) ?_
 intro B g bo
 refine CW.keep 5 [0] rfl ?_;(conv=>whnf);refine ⟨?_⟩
 refine CW.k XK 5 1 [0] rfl ?_
 (conv=>whnf);refine ⟨rfl,?_⟩
 refine CW.seq ?_
 refine CW.region ?_
 refine RW.k XK 5 1 rfl ?_
 (conv=>whnf);refine ⟨rfl,?_⟩
 refine RW.call rfl (impl_within_fn n 1 4) rfl (.cons (.one (.r .r)) (.cons (.one (.r .r)) (.cons (.one (.r .r)) (.nil)))) fun g1 => ?_
 refine RW.k XK 5 1 rfl ?_
 (conv=>whnf);refine ⟨rfl,?_⟩
 refine RW.nil ?_
 refine CW.keep 5 [2] rfl ?_;(conv=>whnf);refine ⟨?_⟩
 refine CW.ret ?_
 exact Post.one (RV.b rfl (by rfl)) (AOs.r AOs.e)
set_option maxHeartbeats 4000000 in
theorem impl_nodesOk_fn (a : List Int) : Eng.Fn E.P 79 [.one (.r (sl 1 cI a))] (.one (.one (.w (.v (.bool (riseOk 1 4 none a)))))) [.one (.r (sl 1 cI a))] := by
 refine Eng.Fn.intro (E := E) (rvs := [.tmp 2]) Tryd.func79 rfl rfl rfl (by simp [outSlots, moved, rvSlot, sl]) ?_
 intro B g bo
 refine CW.bound (x := .tmp 0) (n := a.length) (AsT.r) (fun hl0 => ?_)
 refine CW.keep 29 [0] rfl ?_;(conv=>whnf);refine ⟨?_⟩
 refine CW.k XK 29 1 [0] rfl ?_
 (conv=>whnf);refine ⟨rfl,?_⟩
 refine CW.seq ?_
 refine CW.k XK 29 1 [0,5,6,7] rfl ?_
 (conv=>whnf);refine ⟨rfl,?_⟩
 refine CW.block ?_
 refine CW.loopI 29 (fun (i : Nat) => [(0, .r (sl 1 cI a)), (5, .r (sl 1 cI a)), (6, I (a.length : Int)), (7, I (i : Int))]) (fun (i : Nat) => i ≤ a.length ∧ riseOk 1 4 (prevI a i) (a.drop i) = riseOk 1 4 none a) (fun (i : Nat) => a.length - i) 0 rfl (Le.c rfl <| Le.c rfl <| Le.c rfl <| Le.c rfl <| Le.e) ⟨by omega, by simp [prevI]⟩ ?_
 rintro i ⟨hb, hr⟩
 refine CW.k XK 29 1 [0,5,6,7,8] rfl ?_
 (conv=>whnf);refine ⟨rfl,?_⟩
 refine CW.seq ?_
 refine CW.cond rfl (fun h1 => ?_) (fun h1 => ?_)
 ·skip
  have hii : i < a.length := by have := h1; simp at this; first | exact this | omega | (simp; done) | (simp; omega)
  obtain ⟨ei, hei⟩ : ∃ e, a[i]? = some e := ⟨_, List.getElem?_eq_getElem hii⟩
  have hdi := drop_get hei
  refine CW.skip ?_
  refine CW.keep 29 [0,5,6,7] rfl ?_;(conv=>whnf);refine ⟨?_⟩
  refine CW.seq ?_
  refine CW.block ?_
  refine CW.seq ?_
  refine CW.region ?_
  refine RW.k XK 29 1 rfl ?_
  (conv=>whnf);refine ⟨rfl,?_⟩
  refine RW.v rfl (V.indexS rfl rfl rfl rfl rfl rfl cI.len hei) ?_
  refine RW.k XK 29 3 rfl ?_
  (conv=>whnf);refine ⟨rfl,?_⟩
  refine RW.nil ?_
  refine CW.keep 29 [0,3,4,5,6,7] rfl ?_;(conv=>whnf);refine ⟨?_⟩
  refine CW.seqJ 29 (fun (v2 : Bool) => [(0, .r (sl 1 cI a)), (5, .r (sl 1 cI a)), (6, I (a.length : Int)), (7, I (i : Int)), (27, Bo v2)]) (fun v2 => v2 = ((!(inR ei 1 4)) || (decide ((i : Int) > 0) && decide ((a.getD (i - 1) 0) ≥ ei)))) ?_ ?_
  ·refine CW.region ?_
   refine RW.k XK 29 1 rfl ?_
   (conv=>whnf);refine ⟨rfl,?_⟩
   refine RW.call rfl (impl_isNode_fn ei) rfl (.cons (.one (.r .r)) (.nil)) fun g3 => ?_
   refine RW.k XK 29 2 rfl ?_
   (conv=>whnf);refine ⟨rfl,?_⟩
   refine RW.gv rfl rfl rfl rfl (fun h4 => V.mv (d := I (i : Int)) rfl rfl) (fun h4 => ?_) (fun h4 => ?_)
   ·skip
    refine RW.k XK 29 2 rfl ?_
    (conv=>whnf);refine ⟨rfl,?_⟩
    refine RW.gv rfl rfl rfl rfl (fun h5 => V.mv (d := .r (sl 1 cI a)) rfl rfl) (fun h5 => ?_) (fun h5 => ?_)
    ·skip
     refine RW.k XK 29 1 rfl ?_
     (conv=>whnf);refine ⟨rfl,?_⟩
     refine RW.gt rfl rfl rfl rfl (V.dec (m := i) rfl rfl rfl (by have := h5; simp at this; omega) (by omega)) ?_
     refine RW.gt rfl rfl rfl rfl (V.indexS rfl rfl rfl rfl rfl rfl cI.len (getD_some (l := a) (j := i - 1) (z := 0) (by omega))) ?_
     refine RW.k XK 29 5 rfl ?_
     (conv=>whnf);refine ⟨rfl,?_⟩
     refine RW.nil ?_
     exact ⟨_, by first | rfl | (simp_all; done) | (simp_all; omega) | grind, rfl, Le.of rfl⟩
    ·skip
     refine RW.k XK 29 8 rfl ?_
     (conv=>whnf);refine ⟨rfl,?_⟩
     refine RW.nil ?_
     exact ⟨_, by first | rfl | (simp_all; done) | (simp_all; omega) | grind, rfl, Le.of rfl⟩
   ·skip
    refine RW.k XK 29 11 rfl ?_
    (conv=>whnf);refine ⟨rfl,?_⟩
    refine RW.nil ?_
    exact ⟨_, by first | rfl | (simp_all; done) | (simp_all; omega) | grind, rfl, Le.of rfl⟩
  ·intro v2 hv6
   refine CW.cond rfl (fun h7 => ?_) (fun h7 => ?_)
   ·skip
    refine CW.k XK 29 1 [2] rfl ?_
    (conv=>whnf);refine ⟨rfl,?_⟩
    refine CW.ret ?_
    exact Post.one (RV.b rfl (by rw [← hr, hdi, riseOk_cons]; grind [prevI])) (AOs.r AOs.e)
   ·skip
    refine CW.skip ?_
    refine CW.keep 29 [0,5,6,7] rfl ?_;(conv=>whnf);refine ⟨?_⟩
    refine CW.region ?_
    refine RW.v rfl (V.inc rfl rfl rfl hii hl0) ?_
    refine RW.k XK 29 1 rfl ?_
    (conv=>whnf);refine ⟨rfl,?_⟩
    refine RW.nil ?_
    exact ⟨i + 1, by omega, ⟨by omega, by rw [← hr, hdi, riseOk_cons, prevI_succ hei]; grind [prevI]⟩, rfl, Le.c rfl <| Le.c rfl <| Le.c rfl <| Le.c rfl <| Le.e⟩
 ·skip
  have hii : a.length ≤ i := by have := h1; simp at this; first | exact this | omega | (simp; done) | (simp; omega)
  have hdi : a.drop i = [] := List.drop_eq_nil_of_le hii
  refine CW.exit ?_
  refine CW.keep 29 [] rfl ?_;(conv=>whnf);refine ⟨?_⟩
  refine CW.k XK 29 1 [2] rfl ?_
  (conv=>whnf);refine ⟨rfl,?_⟩
  refine CW.ret ?_
  exact Post.one (RV.b rfl (by rw [← hr, hdi, riseOk_nil])) (AOs.r AOs.e)
set_option maxHeartbeats 4000000 in
theorem impl_ConfOk_fn (a : List Int) : Eng.Fn E.P 69 [.one (.r (sl 1 cI a))] (.one (.one (.w (.v (.bool (confOk a)))))) [.one (.r (sl 1 cI a))] := by
 refine Eng.Fn.intro (E := E) (rvs := [.tmp 2]) Tryd.func69 rfl rfl rfl (by simp [outSlots, moved, rvSlot, sl]) ?_
 intro B g bo
 refine CW.bound (x := .tmp 0) (n := a.length) (AsT.r) (fun hl0 => ?_)
 refine CW.keep 10 [0] rfl ?_;(conv=>whnf);refine ⟨?_⟩
 refine CW.k XK 10 1 [0] rfl ?_
 (conv=>whnf);refine ⟨rfl,?_⟩
 refine CW.seqJ 10 (fun (v1 : Bool) => [(2, Bo v1)]) (fun v1 => v1 = (decide ((a.length : Int) > 0) && (riseOk 1 4 none a))) ?_ ?_
 ·refine CW.region ?_
  refine RW.k XK 10 4 rfl ?_
  (conv=>whnf);refine ⟨rfl,?_⟩
  refine RW.gv rfl rfl rfl rfl (fun h2 => V.mv (d := .r (sl 1 cI a)) rfl rfl) (fun h2 => ?_) (fun h2 => ?_)
  ·skip
   refine RW.gcall rfl rfl rfl rfl (impl_nodesOk_fn a) rfl (.cons (.one (.r .r)) (.nil)) fun g3 => ?_
   refine RW.k XK 10 2 rfl ?_
   (conv=>whnf);refine ⟨rfl,?_⟩
   refine RW.nil ?_
   exact ⟨_, by first | rfl | (simp_all; done) | (simp_all; omega) | grind, rfl, Le.of rfl⟩
  ·skip
   refine RW.k XK 10 3 rfl ?_
   (conv=>whnf);refine ⟨rfl,?_⟩
   refine RW.nil ?_
   exact ⟨_, by first | rfl | (simp_all; done) | (simp_all; omega) | grind, rfl, Le.of rfl⟩
 ·intro v1 hv4
  refine CW.ret ?_
  exact Post.one (RV.b rfl (by (subst_vars; exact confOk_impl a))) (AOs.r AOs.e)
set_option maxHeartbeats 4000000 in
theorem spec_ConfText_fn (a : List Int) (hm : a.length ≤ 1048576) : Eng.Fn E.P 31 [.one (.r (sl 1 cI a))] (.tup [.one (.w (.v (.string ((confText a).1)))), .one (.w (.v (.bool ((confText a).2))))]) [.one (.r (sl 1 cI a))] := by
 refine Eng.Fn.intro (E := E) (rvs := [.tmp 2, .tmp 3]) Tryd.func31 rfl rfl rfl (by simp [outSlots, moved, rvSlot, sl]) ?_
 intro B g bo
 refine CW.bound (x := .tmp 0) (n := a.length) (AsT.r) (fun hl0 => ?_)
 refine CW.keep 26 [0] rfl ?_;(conv=>whnf);refine ⟨?_⟩
 refine CW.k XK 26 1 [0] rfl ?_
 (conv=>whnf);refine ⟨rfl,?_⟩
 refine CW.seq ?_
 refine CW.seq ?_
 refine CW.region ?_
 refine RW.k XK 26 1 rfl ?_
 (conv=>whnf);refine ⟨rfl,?_⟩
 refine RW.call rfl (spec_ConfOk_fn a) rfl (.cons (.one (.r .r)) (.nil)) fun g1 => ?_
 refine RW.k XK 26 1 rfl ?_
 (conv=>whnf);refine ⟨rfl,?_⟩
 refine RW.nil ?_
 refine CW.keep 26 [0,8] rfl ?_;(conv=>whnf);refine ⟨?_⟩
 refine CW.cond rfl (fun h2 => ?_) (fun h2 => ?_)
 ·skip
  refine CW.k XK 26 1 [2,3] rfl ?_
  (conv=>whnf);refine ⟨rfl,?_⟩
  refine CW.ret ?_
  exact Post.tup (by decide) (RVs.c (RV.s rfl (by rw [confText, if_neg (by simp_all)])) (RVs.c (RV.b rfl (by rw [confText, if_neg (by simp_all)])) RVs.e)) (AOs.r AOs.e)
 ·skip
  refine CW.skip ?_
  refine CW.keep 26 [0] rfl ?_;(conv=>whnf);refine ⟨?_⟩
  refine CW.seq ?_
  refine CW.region ?_
  refine RW.build0 cU rfl rfl rfl rfl rfl fun X3 => ?_
  refine RW.assignMove rfl rfl rfl (by decide) (Nat.le_of_ble_eq_true rfl) (Nat.le_of_ble_eq_true rfl) ?_
  refine RW.nil ?_
  refine CW.keep 26 [0,4] rfl ?_;(conv=>whnf);refine ⟨?_⟩
  refine CW.seq ?_
  refine CW.k XK 26 1 [0,4,5] rfl ?_
  (conv=>whnf);refine ⟨rfl,?_⟩
  refine CW.block ?_
  refine CW.loopI 26 (fun (zz : Nat × Value) => match zz with | (i, X) => [(0, .r (sl 1 cI a)), (4, .w (sl 1 cU ((a.take i).map fun x => IntKind.u8.wrap x)) X), (5, I (i : Int))]) (fun (zz : Nat × Value) => match zz with | (i, X) => i ≤ a.length) (fun (zz : Nat × Value) => match zz with | (i, X) => a.length - i) (0, _) rfl (Le.c rfl <| Le.c rfl <| Le.c rfl <| Le.e) (by omega) ?_
  rintro ⟨i, X⟩ hb
  refine CW.seq ?_
  refine CW.k XK 26 1 [0,4,5,13] rfl ?_
  (conv=>whnf);refine ⟨rfl,?_⟩
  refine CW.cond rfl (fun h4 => ?_) (fun h4 => ?_)
  ·skip
   have hii : i < a.length := by have := h4; simp at this; first | exact this | omega | (simp; done) | (simp; omega)
   obtain ⟨ei, hei⟩ : ∃ e, a[i]? = some e := ⟨_, List.getElem?_eq_getElem hii⟩
   have hdi := drop_get hei
   refine CW.skip ?_
   refine CW.keep 26 [0,4,5] rfl ?_;(conv=>whnf);refine ⟨?_⟩
   refine CW.seq ?_
   refine CW.block ?_
   refine CW.region ?_
   refine RW.k XK 26 3 rfl ?_
   (conv=>whnf);refine ⟨rfl,?_⟩
   refine RW.v rfl (V.indexS rfl rfl rfl rfl rfl rfl cI.len hei) ?_
   refine RW.k XK 26 2 rfl ?_
   (conv=>whnf);refine ⟨rfl,?_⟩
   refine RW.build1c (c := cU) (v := (IntKind.u8.wrap ei)) (u := .v (.int .u8 (IntKind.u8.wrap ei))) rfl rfl rfl rfl rfl rfl (.inl rfl) rfl rfl fun X5 => ?_
   refine RW.appendSR (c := cU) (l1 := ((a.take i).map fun x => IntKind.u8.wrap x)) (l2 := [(IntKind.u8.wrap ei)]) rfl rfl rfl rfl rfl rfl rfl rfl (.al (k := none) (i := 22) (sz := 1) (V := X5) rfl rfl nofun) (by decide) (Nat.le_of_ble_eq_true rfl) cU.len (fun _ => rfl) rfl (by simp only [maxLen, List.length_map, List.length_take, List.length_singleton]; omega) (by simp only [maxLen, List.length_map, List.length_take, List.length_singleton]; omega) fun X6 => ?_
   refine RW.assignMove rfl rfl rfl (by decide) (Nat.le_of_ble_eq_true rfl) (Nat.le_of_ble_eq_true rfl) ?_
   refine RW.nil ?_
   refine CW.keep 26 [0,4,5] rfl ?_;(conv=>whnf);refine ⟨?_⟩
   refine CW.region ?_
   refine RW.k XK 26 1 rfl ?_
   (conv=>whnf);refine ⟨rfl,?_⟩
   refine RW.v rfl (V.inc rfl rfl rfl hii hl0) ?_
   refine RW.k XK 26 1 rfl ?_
   (conv=>whnf);refine ⟨rfl,?_⟩
   refine RW.nil ?_
   exact ⟨(i + 1, _), by simp only []; omega, (by omega), rfl, Le.c rfl <| Le.c (Dw_congr (by rw [take_snoc hei, List.map_append]; rfl)) <| Le.c rfl <| Le.e⟩
  ·skip
   have hii : a.length ≤ i := by have := h4; simp at this; first | exact this | omega | (simp; done) | (simp; omega)
   have hdi : a.drop i = [] := List.drop_eq_nil_of_le hii
   refine CW.exit ?_
   refine CW.keep 26 [4] rfl ?_;(conv=>whnf);refine ⟨?_⟩
   refine CW.seq ?_
   refine CW.region ?_
   refine RW.k XK 26 1 rfl ?_
   (conv=>whnf);refine ⟨rfl,?_⟩
   refine RW.v rfl (V.bytesStr (l := ((a.take i).map fun x => IntKind.u8.wrap x)) rfl rfl rfl (by kernel_rfl) (by kernel_rfl) (.al (k := none) (i := 4) (sz := 1) (V := X) rfl rfl nofun)) ?_
   refine RW.k XK 26 2 rfl ?_
   (conv=>whnf);refine ⟨rfl,?_⟩
   refine RW.nil ?_
   refine CW.keep 26 [2,3] rfl ?_;(conv=>whnf);refine ⟨?_⟩
   refine CW.ret ?_
   exact Post.tup (by decide) (RVs.c (RV.s rfl (by rw [confText, if_pos (by simp_all), List.take_of_length_le hii])) (RVs.c (RV.b rfl (by rw [confText, if_pos (by simp_all)])) RVs.e)) (AOs.r AOs.e)
set_option maxHeartbeats 4000000 in
theorem impl_byteTexts_fn (l : List Int) (hm : l.length ≤ 1048576) : Eng.Fn E.P 70 [.one (.r (sl 1 cI l))] (.one (.one (.w (.v (.string (byT l)))))) [.one (.r (sl 1 cI l))] := by
 refine Eng.Fn.intro (E := E) (rvs := [.tmp 2]) Tryd.func70 rfl rfl rfl (by simp [outSlots, moved, rvSlot, sl]) ?_
 intro B g bo
 refine CW.bound (x := .tmp 0) (n := l.length) (AsT.r) (fun hl0 => ?_)
 refine CW.keep 21 [0] rfl ?_;(conv=>whnf);refine ⟨?_⟩
 refine CW.k XK 21 1 [0] rfl ?_
 (conv=>whnf);refine ⟨rfl,?_⟩
 refine CW.seq ?_
 refine CW.region ?_
 refine RW.build0 cU rfl rfl rfl rfl rfl fun X1 => ?_
 refine RW.assignMove rfl rfl rfl (by decide) (Nat.le_of_ble_eq_true rfl) (Nat.le_of_ble_eq_true rfl) ?_
 refine RW.nil ?_
 refine CW.keep 21 [0,3] rfl ?_;(conv=>whnf);refine ⟨?_⟩
 refine CW.seq ?_
 refine CW.k XK 21 1 [3,7,8,9] rfl ?_
 (conv=>whnf);refine ⟨rfl,?_⟩
 refine CW.block ?_
 refine CW.loopI 21 (fun (zz : Nat × Value) => match zz with | (i, X) => [(3, .w (sl 1 cU ((l.take i).map fun x => IntKind.u8.wrap x)) X), (7, .r (sl 1 cI l)), (8, I (l.length : Int)), (9, I (i : Int))]) (fun (zz : Nat × Value) => match zz with | (i, X) => i ≤ l.length) (fun (zz : Nat × Value) => match zz with | (i, X) => l.length - i) (0, _) rfl (Le.c rfl <| Le.c rfl <| Le.c rfl <| Le.c rfl <| Le.e) (by omega) ?_
 rintro ⟨i, X⟩ hb
 refine CW.k XK 21 1 [3,7,8,9,10] rfl ?_
 (conv=>whnf);refine ⟨rfl,?_⟩
 refine CW.seq ?_
 refine CW.cond rfl (fun h2 => ?_) (fun h2 => ?_)
 ·skip
  have hii : i < l.length := by have := h2; simp at this; first | exact this | omega | (simp; done) | (simp; omega)
  obtain ⟨ei, hei⟩ : ∃ e, l[i]? = some e := ⟨_, List.getElem?_eq_getElem hii⟩
  have hdi := drop_get hei
  refine CW.skip ?_
  refine CW.keep 21 [3,7,8,9] rfl ?_;(conv=>whnf);refine ⟨?_⟩
  refine CW.seq ?_
  refine CW.block ?_
  refine CW.seq ?_
  refine CW.region ?_
  refine RW.v rfl (V.indexS rfl rfl rfl rfl rfl rfl cI.len hei) ?_
  refine RW.k XK 21 2 rfl ?_
  (conv=>whnf);refine ⟨rfl,?_⟩
  refine RW.nil ?_
  refine CW.keep 21 [3,5,7,8,9] rfl ?_;(conv=>whnf);refine ⟨?_⟩
  refine CW.region ?_
  refine RW.k XK 21 3 rfl ?_
  (conv=>whnf);refine ⟨rfl,?_⟩
  refine RW.build1c (c := cU) (v := (IntKind.u8.wrap ei)) (u := .v (.int .u8 (IntKind.u8.wrap ei))) rfl rfl rfl rfl rfl rfl (.inl rfl) rfl rfl fun X3 => ?_
  refine RW.appendSR (c := cU) (l1 := ((l.take i).map fun x => IntKind.u8.wrap x)) (l2 := [(IntKind.u8.wrap ei)]) rfl rfl rfl rfl rfl rfl rfl rfl (.al (k := none) (i := 16) (sz := 1) (V := X3) rfl rfl nofun) (by decide) (Nat.le_of_ble_eq_true rfl) cU.len (fun _ => rfl) rfl (by simp only [maxLen, List.length_map, List.length_take, List.length_singleton]; omega) (by simp only [maxLen, List.length_map, List.length_take, List.length_singleton]; omega) fun X4 => ?_
  refine RW.assignMove rfl rfl rfl (by decide) (Nat.le_of_ble_eq_true rfl) (Nat.le_of_ble_eq_true rfl) ?_
  refine RW.nil ?_
  refine CW.keep 21 [3,7,8,9] rfl ?_;(conv=>whnf);refine ⟨?_⟩
  refine CW.region ?_
  refine RW.v rfl (V.inc rfl rfl rfl hii hl0) ?_
  refine RW.k XK 21 1 rfl ?_
  (conv=>whnf);refine ⟨rfl,?_⟩
  refine RW.nil ?_
  exact ⟨(i + 1, _), by simp only []; omega, (by omega), rfl, Le.c (Dw_congr (by rw [take_snoc hei, List.map_append]; rfl)) <| Le.c rfl <| Le.c rfl <| Le.c rfl <| Le.e⟩
 ·skip
  have hii : l.length ≤ i := by have := h2; simp at this; first | exact this | omega | (simp; done) | (simp; omega)
  have hdi : l.drop i = [] := List.drop_eq_nil_of_le hii
  refine CW.exit ?_
  refine CW.keep 21 [3] rfl ?_;(conv=>whnf);refine ⟨?_⟩
  refine CW.seq ?_
  refine CW.region ?_
  refine RW.k XK 21 1 rfl ?_
  (conv=>whnf);refine ⟨rfl,?_⟩
  refine RW.v rfl (V.bytesStr (l := ((l.take i).map fun x => IntKind.u8.wrap x)) rfl rfl rfl (by kernel_rfl) (by kernel_rfl) (.al (k := none) (i := 3) (sz := 1) (V := X) rfl rfl nofun)) ?_
  refine RW.k XK 21 1 rfl ?_
  (conv=>whnf);refine ⟨rfl,?_⟩
  refine RW.nil ?_
  refine CW.keep 21 [2] rfl ?_;(conv=>whnf);refine ⟨?_⟩
  refine CW.ret ?_
  exact Post.one (RV.s rfl (by rw [List.take_of_length_le hii]; rfl)) (AOs.r AOs.e)
set_option maxHeartbeats 4000000 in
theorem impl_ConfText_fn (a : List Int) (hm : a.length ≤ 1048576) : Eng.Fn E.P 45 [.one (.r (sl 1 cI a))] (.tup [.one (.w (.v (.string ((confText a).1)))), .one (.w (.v (.bool ((confText a).2))))]) [.one (.r (sl 1 cI a))] := by
 refine Eng.Fn.intro (E := E) (rvs := [.tmp 2, .tmp 3]) Tryd.func45 rfl rfl rfl (by simp [outSlots, moved, rvSlot, sl]) ?_
 intro B g bo
 refine CW.bound (x := .tmp 0) (n := a.length) (AsT.r) (fun hl0 => ?_)
 refine CW.keep 9 [0] rfl ?_;(conv=>whnf);refine ⟨?_⟩
 refine CW.k XK 9 1 [0] rfl ?_
 (conv=>whnf);refine ⟨rfl,?_⟩
 refine CW.seq ?_
 refine CW.seq ?_
 refine CW.region ?_
 refine RW.k XK 9 1 rfl ?_
 (conv=>whnf);refine ⟨rfl,?_⟩
 refine RW.call rfl (impl_ConfOk_fn a) rfl (.cons (.one (.r .r)) (.nil)) fun g1 => ?_
 refine RW.k XK 9 1 rfl ?_
 (conv=>whnf);refine ⟨rfl,?_⟩
 refine RW.nil ?_
 refine CW.keep 9 [0,6] rfl ?_;(conv=>whnf);refine ⟨?_⟩
 refine CW.cond rfl (fun h2 => ?_) (fun h2 => ?_)
 ·skip
  have hno := nT h2
  refine CW.k XK 9 1 [2,3] rfl ?_
  (conv=>whnf);refine ⟨rfl,?_⟩
  refine CW.ret ?_
  exact Post.tup (by decide) (RVs.c (RV.s rfl (by rw [confText, if_neg (by rw [hno]; simp)])) (RVs.c (RV.b rfl (by rw [confText, if_neg (by rw [hno]; simp)])) RVs.e)) (AOs.r AOs.e)
 ·skip
  have hyes := nF h2
  refine CW.skip ?_
  refine CW.keep 9 [0] rfl ?_;(conv=>whnf);refine ⟨?_⟩
  refine CW.seq ?_
  refine CW.region ?_
  refine RW.k XK 9 1 rfl ?_
  (conv=>whnf);refine ⟨rfl,?_⟩
  refine RW.call rfl (impl_byteTexts_fn a hm) rfl (.cons (.one (.r .r)) (.nil)) fun g3 => ?_
  refine RW.k XK 9 2 rfl ?_
  (conv=>whnf);refine ⟨rfl,?_⟩
  refine RW.nil ?_
  refine CW.keep 9 [2,3] rfl ?_;(conv=>whnf);refine ⟨?_⟩
  refine CW.ret ?_
  exact Post.tup (by decide) (RVs.c (RV.s rfl (by rw [confText, if_pos hyes]; rfl)) (RVs.c (RV.b rfl (by rw [confText, if_pos hyes])) RVs.e)) (AOs.r AOs.e)
set_option maxHeartbeats 4000000 in
theorem spec_l05Short_fn (s : ByteArray) (hs : s.size ≤ 1048576) : Eng.Fn E.P 33 [.one (.r (.v (.string s)))] (.one (.one (.w (.v (.string (shB s)))))) [.one (.r (.v (.string s)))] := by
 refine Eng.Fn.intro (E := E) (rvs := [.tmp 2]) Tryd.func33 rfl rfl rfl (by simp [outSlots, moved, rvSlot, sl]) ?_
 intro B g bo
 refine CW.keep 8 [0] rfl ?_;(conv=>whnf);refine ⟨?_⟩
 refine CW.k XK 8 1 [0] rfl ?_
 (conv=>whnf);refine ⟨rfl,?_⟩
 refine CW.seq ?_
 refine CW.region ?_
 refine RW.k XK 8 2 rfl ?_
 (conv=>whnf);refine ⟨rfl,?_⟩
 refine RW.call rfl (spec_l01Var_fn (s.size : Int) ⟨by omega, by omega⟩) rfl (.cons (.one (.r .r)) (.nil)) fun g1 => ?_
 refine RW.k XK 8 1 rfl ?_
 (conv=>whnf);refine ⟨rfl,?_⟩
 refine RW.v rfl (V.cat rfl rfl rfl (by have h9 := varB_len9 (n := s.size) (by omega); simp only [maxLen, Int.toNat_natCast]; omega)) ?_
 refine RW.k XK 8 1 rfl ?_
 (conv=>whnf);refine ⟨rfl,?_⟩
 refine RW.nil ?_
 refine CW.keep 8 [2] rfl ?_;(conv=>whnf);refine ⟨?_⟩
 refine CW.ret ?_
 exact Post.one (RV.s rfl (by rfl)) (AOs.r AOs.e)
set_option maxHeartbeats 4000000 in
theorem spec_l19Empty_fn  : Eng.Fn E.P 14 [] (.one (.one (.w (.v (.string kT))))) [] := by
 refine Eng.Fn.intro (E := E) (rvs := [.tmp 0]) Tryd.func14 rfl rfl rfl (by simp [outSlots, moved, rvSlot, sl]) ?_
 intro B g bo
 refine CW.keep 9 [] rfl ?_;(conv=>whnf);refine ⟨?_⟩
 refine CW.k XK 9 1 [] rfl ?_
 (conv=>whnf);refine ⟨rfl,?_⟩
 refine CW.seq ?_
 refine CW.region ?_
 refine RW.call rfl (spec_KeepNew_fn ) rfl (.nil) fun g1 => ?_
 refine RW.callOwn rfl (spec_KeepText_fn keepNew rfl) rfl (.cons (.agg (.cons (.r (.ala (k := none) (i := 4) (j := 0) (sz := 3) (V := (g1 0 0)) rfl rfl rfl nofun)) (.cons (.r (.ala (k := none) (i := 4) (j := 1) (sz := 3) (V := (g1 0 1)) rfl rfl rfl nofun)) (.nil)))) (.nil)) rfl fun g2 => ?_
 refine RW.k XK 9 5 rfl ?_
 (conv=>whnf);refine ⟨rfl,?_⟩
 refine RW.nil ?_
 refine CW.keep 9 [1] rfl ?_;(conv=>whnf);refine ⟨?_⟩
 refine CW.k XK 9 1 [0] rfl ?_
 (conv=>whnf);refine ⟨rfl,?_⟩
 refine CW.ret ?_
 exact Post.one (RV.s rfl (by rfl)) AOs.e
set_option maxHeartbeats 4000000 in
theorem spec_SnapText_fn (s : Snap) (h0 : s.index = 0) (ht : s.term_ = 0) (hb : s.body = kT) (hm : s.conf.length ≤ 1048576) : Eng.Fn E.P 13 [.agg ((Snap.c s).map .r)] (.tup [.one (.w (.v (.string ((snT s.conf).1)))), .one (.w (.v (.bool ((snT s.conf).2))))]) [.agg ((Snap.c s).map .r)] := by
 refine Eng.Fn.intro (E := E) (rvs := [.tmp 2, .tmp 3]) Tryd.func13 rfl rfl rfl (by simp [outSlots, moved, rvSlot, sl]) ?_
 intro B g bo
 refine CW.keep 55 [0] rfl ?_;(conv=>whnf);refine ⟨?_⟩
 have e1 : s.index = 0 := h0
 have e2 : s.term_ = 0 := ht
 have e3 : s.body = kT := hb
 have hk1 := kT_size
 have hk2 := confText_size s.conf
 refine CW.seq ?_
 refine CW.region ?_
 refine RW.k XK 55 1 rfl ?_
 (conv=>whnf);intro b1;(conv=>whnf);refine ⟨rfl,?_⟩
 refine RW.freezeB (ts := (Snap.c s)) 1 rfl (DRd.r (DRd.r (DRd.r (DRd.r DRd.e)))) ?_
 refine RW.k XK 55 2 rfl ?_
 (conv=>whnf);refine ⟨rfl,?_⟩
 refine RW.nil ?_
 refine CW.keep 55 [1] rfl ?_;(conv=>whnf);refine ⟨?_⟩
 refine CW.seq ?_
 refine CW.region ?_
 refine RW.k XK 55 2 rfl ?_
 (conv=>whnf);refine ⟨rfl,?_⟩
 refine RW.call rfl (spec_ConfText_fn s.conf hm) rfl (.cons (.one (.r .r)) (.nil)) fun g2 => ?_
 refine RW.k XK 55 5 rfl ?_
 (conv=>whnf);refine ⟨rfl,?_⟩
 refine RW.nil ?_
 refine CW.keep 55 [1,4,5] rfl ?_;(conv=>whnf);refine ⟨?_⟩
 refine CW.seq ?_
 refine CW.seqJ 55 (fun (v3 : Bool) => [(1, .rp (Snap.c s)), (4, S ((confText s.conf).1)), (32, Bo v3)]) (fun v3 => v3 = ((((!((confText s.conf).2)) || (!(inR s.index 0 1000000))) || (!(inR s.term_ 0 100000))) || decide ((s.body.size : Int) > 20000))) ?_ ?_
 ·refine CW.region ?_
  refine RW.k XK 55 3 rfl ?_
  (conv=>whnf);refine ⟨rfl,?_⟩
  refine RW.gv rfl rfl rfl rfl (fun h4 => V.fieldR rfl rfl rfl rfl (by decide) rfl (Nat.le_of_ble_eq_true rfl)) (fun h4 => ?_) (fun h4 => ?_)
  ·skip
   refine RW.k XK 55 1 rfl ?_
   (conv=>whnf);refine ⟨rfl,?_⟩
   refine RW.gcall rfl rfl rfl rfl (spec_l01In_fn s.index 0 1000000) rfl (.cons (.one (.r .r)) (.cons (.one (.r .r)) (.cons (.one (.r .r)) (.nil)))) fun g5 => ?_
   refine RW.k XK 55 3 rfl ?_
   (conv=>whnf);refine ⟨rfl,?_⟩
   refine RW.gv rfl rfl rfl rfl (fun h6 => V.fieldR rfl rfl rfl rfl (by decide) rfl (Nat.le_of_ble_eq_true rfl)) (fun h6 => ?_) (fun h6 => ?_)
   ·skip
    refine RW.k XK 55 1 rfl ?_
    (conv=>whnf);refine ⟨rfl,?_⟩
    refine RW.gcall rfl rfl rfl rfl (spec_l01In_fn s.term_ 0 100000) rfl (.cons (.one (.r .r)) (.cons (.one (.r .r)) (.cons (.one (.r .r)) (.nil)))) fun g7 => ?_
    refine RW.k XK 55 3 rfl ?_
    (conv=>whnf);refine ⟨rfl,?_⟩
    refine RW.gv rfl rfl rfl rfl (fun h8 => V.fieldR rfl rfl rfl rfl (by decide) rfl (Nat.le_of_ble_eq_true rfl)) (fun h8 => ?_) (fun h8 => ?_)
    ·skip
     refine RW.k XK 55 4 rfl ?_
     (conv=>whnf);refine ⟨rfl,?_⟩
     refine RW.nil ?_
     exact ⟨_, by first | rfl | (simp_all; done) | (simp_all; omega) | grind, rfl, Le.of rfl⟩
    ·skip
     refine RW.k XK 55 4 rfl ?_
     (conv=>whnf);refine ⟨rfl,?_⟩
     refine RW.nil ?_
     exact ⟨_, by first | rfl | (simp_all; done) | (simp_all; omega) | grind, rfl, Le.of rfl⟩
   ·skip
    refine RW.k XK 55 10 rfl ?_
    (conv=>whnf);refine ⟨rfl,?_⟩
    refine RW.nil ?_
    exact ⟨_, by first | rfl | (simp_all; done) | (simp_all; omega) | grind, rfl, Le.of rfl⟩
  ·skip
   refine RW.k XK 55 16 rfl ?_
   (conv=>whnf);refine ⟨rfl,?_⟩
   refine RW.nil ?_
   exact ⟨_, by first | rfl | (simp_all; done) | (simp_all; omega) | grind, rfl, Le.of rfl⟩
 ·intro v3 hv9
  refine CW.cond rfl (fun h10 => ?_) (fun h10 => ?_)
  ·skip
   have hvv := hv9.symm.trans h10
   refine CW.k XK 55 1 [2,3] rfl ?_
   (conv=>whnf);refine ⟨rfl,?_⟩
   refine CW.ret ?_
   exact Post.tup (by decide) (RVs.c (RV.s rfl (by rw [snT_no (nT ((sn_gd e1 e2 e3).symm.trans hvv))])) (RVs.c (RV.b rfl (by rw [snT_no (nT ((sn_gd e1 e2 e3).symm.trans hvv))])) RVs.e)) (AOs.a rfl AOs.e)
  ·skip
   have hvv := hv9.symm.trans h10
   refine CW.skip ?_
   refine CW.keep 55 [1,4] rfl ?_;(conv=>whnf);refine ⟨?_⟩
   refine CW.anyJ2 (fc := []) (L0 := []) 55 (fun (zz : (Nat → Nat → Value) × (Nat → Nat → Value) × (Nat → Nat → Value) × (Nat → Nat → Value)) => match zz with | (go11_12_1, go11_2_1, go11_5_1, go11_8_1) => [(6, S ((((varB s.index.toNat) ++ (varB s.term_.toNat)) ++ (shB ((confText s.conf).1))) ++ (shB s.body)))]) (fun all hall f hf b0 hb K hK => ?_) ?_
   ·skip
    have ro11_4 : ∀ B, ∀ (go11_12_1 : Nat → Nat → Value), ∀ (go11_2_1 : Nat → Nat → Value), ∀ (go11_5_1 : Nat → Nat → Value), ∀ (go11_8_1 : Nat → Nat → Value), RA f E B all 0 (bt 15 32767) ⟨55, [(6, S ((((varB s.index.toNat) ++ (varB s.term_.toNat)) ++ (shB ((confText s.conf).1))) ++ (shB s.body)))] ++ b0⟩ K := by
     intro B go11_12_1 go11_2_1 go11_5_1 go11_8_1
     exact RA.of2 hall hf hb (RA.finH (Tell.of rfl) (by kernel_rfl) (hK (go11_12_1, go11_2_1, go11_5_1, go11_8_1) _ rfl (Le.of rfl)))
    have ro11_3 : ∀ B, ∀ (go11_2_1 : Nat → Nat → Value), ∀ (go11_5_1 : Nat → Nat → Value), ∀ (go11_8_1 : Nat → Nat → Value), RA f E B all 3 (bt 15 4095) ⟨55, [(42, S (((varB s.index.toNat) ++ (varB s.term_.toNat)) ++ (shB ((confText s.conf).1)))), (44, S s.body)] ++ b0⟩ K := by
     intro B go11_2_1 go11_5_1 go11_8_1
     refine RA.of2 hall hf hb (RA.stepH (L := [12]) (Tell.of rfl) (by kernel_rfl) (by simp) (RA.each ?_ (RA.each0)))
     ·skip
      refine RO.call rfl rfl (spec_l05Short_fn s.body (by first | omega | (rw [e3]; omega))) rfl (.cons (.one (.r .r)) (.nil)) rfl fun go11_12_1 => ?_
      refine RA.first (i := 13) (ls' := (bt 15 16383)) (Tell.of rfl) (by kernel_rfl) rfl rfl rfl (VF.p (V.cat rfl rfl rfl (by have h7 := varB_len9 (n := s.index.toNat) (by omega); have h6 := varB_len9 (n := s.term_.toNat) (by omega); have h5 := varB_len9 (n := (confText s.conf).1.size) (by omega); have h4 := varB_len9 (n := s.body.size) (by rw [e3]; omega); have h3 := congrArg ByteArray.size e3; simp only [shB, ByteArray.size_append, maxLen]; omega))) ?_
      refine RA.fr XK 55 0 [14] (bt 15 32767) rfl rfl (by kernel_rfl) (Tell.of rfl) ?_
      (conv=>whnf);refine ⟨rfl,fun B=>?_⟩
      exact RA.to2 hall hf hb (ro11_4 B go11_12_1 go11_2_1 go11_5_1 go11_8_1) rfl rfl (by kernel_rfl)
    have ro11_2 : ∀ B, ∀ (go11_2_1 : Nat → Nat → Value), ∀ (go11_5_1 : Nat → Nat → Value), RA f E B all 5 (bt 15 3327) ⟨55, [(39, S ((varB s.index.toNat) ++ (varB s.term_.toNat))), (40, S ((confText s.conf).1)), (44, S s.body)] ++ b0⟩ K := by
     intro B go11_2_1 go11_5_1
     refine RA.of2 hall hf hb (RA.stepH (L := [8]) (Tell.of rfl) (by kernel_rfl) (by simp) (RA.each ?_ (RA.each0)))
     ·skip
      refine RO.call rfl rfl (spec_l05Short_fn ((confText s.conf).1) (by first | omega | (rw [e3]; omega))) rfl (.cons (.one (.r .r)) (.nil)) rfl fun go11_8_1 => ?_
      refine RA.first (i := 9) (ls' := (bt 15 4095)) (Tell.of rfl) (by kernel_rfl) rfl rfl rfl (VF.p (V.cat rfl rfl rfl (by have h7 := varB_len9 (n := s.index.toNat) (by omega); have h6 := varB_len9 (n := s.term_.toNat) (by omega); have h5 := varB_len9 (n := (confText s.conf).1.size) (by omega); have h4 := varB_len9 (n := s.body.size) (by rw [e3]; omega); have h3 := congrArg ByteArray.size e3; simp only [shB, ByteArray.size_append, maxLen]; omega))) ?_
      exact RA.to2 hall hf hb (ro11_3 B go11_2_1 go11_5_1 go11_8_1) rfl rfl (by kernel_rfl)
    have ro11_1 : ∀ B, ∀ (go11_2_1 : Nat → Nat → Value), RA f E B all 7 (bt 15 3231) ⟨55, [(35, S (varB s.index.toNat)), (37, I s.term_), (40, S ((confText s.conf).1)), (44, S s.body)] ++ b0⟩ K := by
     intro B go11_2_1
     refine RA.of2 hall hf hb (RA.stepH (L := [5]) (Tell.of rfl) (by kernel_rfl) (by simp) (RA.each ?_ (RA.each0)))
     ·skip
      refine RO.call rfl rfl (spec_l01Var_fn s.term_ (by omega)) rfl (.cons (.one (.r .r)) (.nil)) rfl fun go11_5_1 => ?_
      refine RA.first (i := 6) (ls' := (bt 15 3327)) (Tell.of rfl) (by kernel_rfl) rfl rfl rfl (VF.p (V.cat rfl rfl rfl (by have h7 := varB_len9 (n := s.index.toNat) (by omega); have h6 := varB_len9 (n := s.term_.toNat) (by omega); have h5 := varB_len9 (n := (confText s.conf).1.size) (by omega); have h4 := varB_len9 (n := s.body.size) (by rw [e3]; omega); have h3 := congrArg ByteArray.size e3; simp only [shB, ByteArray.size_append, maxLen]; omega))) ?_
      exact RA.to2 hall hf hb (ro11_2 B go11_2_1 go11_5_1) rfl rfl (by kernel_rfl)
    have ro11_0 : ∀ B, RA f E B all 8 (bt 15 3227) ⟨55, [(34, I s.index), (37, I s.term_), (40, S ((confText s.conf).1)), (44, S s.body)] ++ b0⟩ K := by
     intro B
     refine RA.of2 hall hf hb (RA.stepH (L := [2]) (Tell.of rfl) (by kernel_rfl) (by simp) (RA.each ?_ (RA.each0)))
     ·skip
      refine RO.call rfl rfl (spec_l01Var_fn s.index (by omega)) rfl (.cons (.one (.r .r)) (.nil)) rfl fun go11_2_1 => ?_
      exact RA.to2 hall hf hb (ro11_1 B go11_2_1) rfl rfl (by kernel_rfl)
    refine RA.start (by kernel_rfl) (by kernel_rfl) (m := 15) (ls' := (bt 15 0)) ?_
    refine RA.fr XK 55 8 [0,1,3,4,7,10,11] (bt 15 3227) rfl rfl (by kernel_rfl) (Tell.of rfl) ?_
    (conv=>whnf);refine ⟨rfl,fun B=>?_⟩
    exact RA.to2 hall hf hb (ro11_0 B) rfl rfl (by kernel_rfl)
   ·rintro ⟨go11_12_1, go11_2_1, go11_5_1, go11_8_1⟩
    refine CW.seq ?_
    refine CW.k XK 55 1 [6,50] rfl ?_
    (conv=>whnf);refine ⟨rfl,?_⟩
    refine CW.cond rfl (fun h12 => ?_) (fun h12 => ?_)
    ·skip
     exact absurd (of_decide_eq_true h12) (by have h9 := snB_size s.conf; rw [← snB_eq e1 e2 e3] at h9; rw [wrap_small (by omega) (by omega)]; omega)
    ·skip
     refine CW.skip ?_
     refine CW.keep 55 [6] rfl ?_;(conv=>whnf);refine ⟨?_⟩
     refine CW.seq ?_
     refine CW.region ?_
     refine RW.k XK 55 1 rfl ?_
     (conv=>whnf);refine ⟨rfl,?_⟩
     refine RW.call rfl (spec_Sealed_fn ((((varB s.index.toNat) ++ (varB s.term_.toNat)) ++ (shB ((confText s.conf).1))) ++ (shB s.body))) rfl (.cons (.one (.r .r)) (.nil)) fun g13 => ?_
     refine RW.k XK 55 4 rfl ?_
     (conv=>whnf);refine ⟨rfl,?_⟩
     refine RW.nil ?_
     refine CW.keep 55 [2,3] rfl ?_;(conv=>whnf);refine ⟨?_⟩
     refine CW.ret ?_
     exact Post.tup (by decide) (RVs.c (RV.s rfl (by rw [snT_yes (nF ((sn_gd e1 e2 e3).symm.trans hvv)), ← snB_eq e1 e2 e3])) (RVs.c (RV.b rfl (by rw [snT_yes (nF ((sn_gd e1 e2 e3).symm.trans hvv)), ← snB_eq e1 e2 e3])) RVs.e)) (AOs.a rfl AOs.e)
set_option maxHeartbeats 4000000 in
theorem impl_SnapText_fn (s : Snap) (h0 : s.index = 0) (ht : s.term_ = 0) (hb : s.body = kT) (hm : s.conf.length ≤ 1048576) : Eng.Fn E.P 20 [.agg ((Snap.c s).map .r)] (.tup [.one (.w (.v (.string ((snT s.conf).1)))), .one (.w (.v (.bool ((snT s.conf).2))))]) [.agg ((Snap.c s).map .r)] := by
 refine Eng.Fn.intro (E := E) (rvs := [.tmp 2, .tmp 3]) Tryd.func20 rfl rfl rfl (by simp [outSlots, moved, rvSlot, sl]) ?_
 intro B g bo
 refine CW.keep 63 [0] rfl ?_;(conv=>whnf);refine ⟨?_⟩
 have e1 : s.index = 0 := h0
 have e2 : s.term_ = 0 := ht
 have e3 : s.body = kT := hb
 have hk1 := kT_size
 have hk2 := confText_size s.conf
 refine CW.seq ?_
 refine CW.region ?_
 refine RW.k XK 63 1 rfl ?_
 (conv=>whnf);intro b1;(conv=>whnf);refine ⟨rfl,?_⟩
 refine RW.freezeB (ts := (Snap.c s)) 1 rfl (DRd.r (DRd.r (DRd.r (DRd.r DRd.e)))) ?_
 refine RW.k XK 63 2 rfl ?_
 (conv=>whnf);refine ⟨rfl,?_⟩
 refine RW.nil ?_
 refine CW.keep 63 [1] rfl ?_;(conv=>whnf);refine ⟨?_⟩
 refine CW.seq ?_
 refine CW.region ?_
 refine RW.k XK 63 2 rfl ?_
 (conv=>whnf);refine ⟨rfl,?_⟩
 refine RW.call rfl (impl_ConfText_fn s.conf hm) rfl (.cons (.one (.r .r)) (.nil)) fun g2 => ?_
 refine RW.k XK 63 5 rfl ?_
 (conv=>whnf);refine ⟨rfl,?_⟩
 refine RW.nil ?_
 refine CW.keep 63 [1,4,5] rfl ?_;(conv=>whnf);refine ⟨?_⟩
 refine CW.seq ?_
 refine CW.region ?_
 refine RW.k XK 63 2 rfl ?_
 (conv=>whnf);refine ⟨rfl,?_⟩
 refine RW.call rfl (impl_ShortText_fn s.body) rfl (.cons (.one (.r .r)) (.nil)) fun g3 => ?_
 refine RW.k XK 63 5 rfl ?_
 (conv=>whnf);refine ⟨rfl,?_⟩
 refine RW.nil ?_
 refine CW.keep 63 [1,4,5,6,7] rfl ?_;(conv=>whnf);refine ⟨?_⟩
 refine CW.seq ?_
 refine CW.seqJ 63 (fun (v4 : Bool) => [(1, .rp (Snap.c s)), (4, S ((confText s.conf).1)), (6, S (shT s.body)), (38, Bo v4)]) (fun v4 => v4 = ((((!((confText s.conf).2)) || (!(decide ((s.body.size : Int) ≤ 20000)))) || (!(inR s.index 0 1000000))) || (!(inR s.term_ 0 100000)))) ?_ ?_
 ·refine CW.region ?_
  refine RW.k XK 63 3 rfl ?_
  (conv=>whnf);refine ⟨rfl,?_⟩
  refine RW.gv rfl rfl rfl rfl (fun h5 => V.mv (d := Bo (decide ((s.body.size : Int) ≤ 20000))) rfl rfl) (fun h5 => ?_) (fun h5 => ?_)
  ·skip
   refine RW.k XK 63 3 rfl ?_
   (conv=>whnf);refine ⟨rfl,?_⟩
   refine RW.gv rfl rfl rfl rfl (fun h6 => V.fieldR rfl rfl rfl rfl (by decide) rfl (Nat.le_of_ble_eq_true rfl)) (fun h6 => ?_) (fun h6 => ?_)
   ·skip
    refine RW.k XK 63 1 rfl ?_
    (conv=>whnf);refine ⟨rfl,?_⟩
    refine RW.gcall rfl rfl rfl rfl (impl_isIndex_fn s.index) rfl (.cons (.one (.r .r)) (.nil)) fun g7 => ?_
    refine RW.k XK 63 3 rfl ?_
    (conv=>whnf);refine ⟨rfl,?_⟩
    refine RW.gv rfl rfl rfl rfl (fun h8 => V.fieldR rfl rfl rfl rfl (by decide) rfl (Nat.le_of_ble_eq_true rfl)) (fun h8 => ?_) (fun h8 => ?_)
    ·skip
     refine RW.k XK 63 1 rfl ?_
     (conv=>whnf);refine ⟨rfl,?_⟩
     refine RW.gcall rfl rfl rfl rfl (impl_isTerm_fn s.term_) rfl (.cons (.one (.r .r)) (.nil)) fun g9 => ?_
     refine RW.k XK 63 2 rfl ?_
     (conv=>whnf);refine ⟨rfl,?_⟩
     refine RW.nil ?_
     exact ⟨_, by first | rfl | (simp_all; done) | (simp_all; omega) | grind, rfl, Le.of rfl⟩
    ·skip
     refine RW.k XK 63 4 rfl ?_
     (conv=>whnf);refine ⟨rfl,?_⟩
     refine RW.nil ?_
     exact ⟨_, by first | rfl | (simp_all; done) | (simp_all; omega) | grind, rfl, Le.of rfl⟩
   ·skip
    refine RW.k XK 63 10 rfl ?_
    (conv=>whnf);refine ⟨rfl,?_⟩
    refine RW.nil ?_
    exact ⟨_, by first | rfl | (simp_all; done) | (simp_all; omega) | grind, rfl, Le.of rfl⟩
  ·skip
   refine RW.k XK 63 14 rfl ?_
   (conv=>whnf);refine ⟨rfl,?_⟩
   refine RW.nil ?_
   exact ⟨_, by first | rfl | (simp_all; done) | (simp_all; omega) | grind, rfl, Le.of rfl⟩
 ·intro v4 hv10
  refine CW.cond rfl (fun h11 => ?_) (fun h11 => ?_)
  ·skip
   have hvv := hv10.symm.trans h11
   refine CW.k XK 63 1 [2,3] rfl ?_
   (conv=>whnf);refine ⟨rfl,?_⟩
   refine CW.ret ?_
   exact Post.tup (by decide) (RVs.c (RV.s rfl (by rw [snT_no (nT ((sn_gdI e1 e2 e3).symm.trans hvv))])) (RVs.c (RV.b rfl (by rw [snT_no (nT ((sn_gdI e1 e2 e3).symm.trans hvv))])) RVs.e)) (AOs.a rfl AOs.e)
  ·skip
   have hvv := hv10.symm.trans h11
   refine CW.skip ?_
   refine CW.keep 63 [1,4,6] rfl ?_;(conv=>whnf);refine ⟨?_⟩
   refine CW.seq ?_
   refine CW.region ?_
   refine RW.k XK 63 4 rfl ?_
   (conv=>whnf);refine ⟨rfl,?_⟩
   refine RW.build2c (c := cI) (v1 := s.index) (v2 := s.term_) (u1 := .v (.int .i64 s.index)) (u2 := .v (.int .i64 s.term_)) rfl rfl rfl rfl rfl rfl (.inl rfl) rfl rfl (.inl rfl) rfl rfl fun X12 => ?_
   refine RW.callOwn rfl (impl_varTexts_fn ([s.index, s.term_]) (Nat.le_of_ble_eq_true rfl)) rfl (.cons (.one (.r (.al (k := none) (i := 44) (sz := 1) (V := X12) rfl rfl nofun))) (.nil)) rfl fun g13 => ?_
   refine RW.k XK 63 1 rfl ?_
   (conv=>whnf);refine ⟨rfl,?_⟩
   refine RW.build1c (c := cS) (v := ((confText s.conf).1)) (u := .v (.string ((confText s.conf).1))) rfl rfl rfl rfl rfl rfl (.inl rfl) rfl rfl fun X14 => ?_
   refine RW.callOwn rfl (impl_shortTexts_fn ([((confText s.conf).1)]) (Nat.le_of_ble_eq_true rfl)) rfl (.cons (.one (.r (.al (k := none) (i := 47) (sz := 1) (V := X14) rfl rfl nofun))) (.nil)) rfl fun g15 => ?_
   refine RW.v rfl (V.cat rfl rfl rfl (by have h7 := varTs_size [s.index, s.term_]; have h6 := shTs_size [(confText s.conf).1]; have h5 := shT_size s.body; simp only [List.length_cons, List.length_nil] at h7 h6; simp only [ByteArray.size_append, maxLen]; omega)) ?_
   refine RW.k XK 63 1 rfl ?_
   (conv=>whnf);refine ⟨rfl,?_⟩
   refine RW.v rfl (V.cat rfl rfl rfl (by have h7 := varTs_size [s.index, s.term_]; have h6 := shTs_size [(confText s.conf).1]; have h5 := shT_size s.body; simp only [List.length_cons, List.length_nil] at h7 h6; simp only [ByteArray.size_append, maxLen]; omega)) ?_
   refine RW.call rfl (impl_Sealed_fn (((varTs ([s.index, s.term_])) ++ (shTs ([((confText s.conf).1)]))) ++ (shT s.body))) rfl (.cons (.one (.r .r)) (.nil)) fun g16 => ?_
   refine RW.k XK 63 5 rfl ?_
   (conv=>whnf);refine ⟨rfl,?_⟩
   refine RW.nil ?_
   refine CW.keep 63 [5,8] rfl ?_;(conv=>whnf);refine ⟨?_⟩
   refine CW.seq ?_
   refine CW.seqJ 63 (fun (v17 : Bool) => [(8, S ((sealT (((varTs ([s.index, s.term_])) ++ (shTs ([((confText s.conf).1)]))) ++ (shT s.body))).1)), (61, Bo v17)]) (fun v17 => v17 = ((!((sealT (((varTs ([s.index, s.term_])) ++ (shTs ([((confText s.conf).1)]))) ++ (shT s.body))).2)) || decide ((((sealT (((varTs ([s.index, s.term_])) ++ (shTs ([((confText s.conf).1)]))) ++ (shT s.body))).1).size : Int) > 20000))) ?_ ?_
   ·refine CW.region ?_
    refine RW.k XK 63 3 rfl ?_
    (conv=>whnf);refine ⟨rfl,?_⟩
    refine RW.gv rfl rfl rfl rfl (fun h18 => V.mv (d := S ((sealT (((varTs ([s.index, s.term_])) ++ (shTs ([((confText s.conf).1)]))) ++ (shT s.body))).1)) rfl rfl) (fun h18 => ?_) (fun h18 => ?_)
    ·skip
     refine RW.k XK 63 3 rfl ?_
     (conv=>whnf);refine ⟨rfl,?_⟩
     refine RW.nil ?_
     exact ⟨_, by first | rfl | (simp_all; done) | (simp_all; omega) | grind, rfl, Le.of rfl⟩
    ·skip
     refine RW.k XK 63 3 rfl ?_
     (conv=>whnf);refine ⟨rfl,?_⟩
     refine RW.nil ?_
     exact ⟨_, by first | rfl | (simp_all; done) | (simp_all; omega) | grind, rfl, Le.of rfl⟩
   ·intro v17 hv19
    refine CW.cond rfl (fun h20 => ?_) (fun h20 => ?_)
    ·skip
     have hvv := hv19.symm.trans h20
     refine CW.k XK 63 1 [2,3] rfl ?_
     (conv=>whnf);refine ⟨rfl,?_⟩
     refine CW.ret ?_
     exact Post.tup (by decide) (RVs.c (RV.s rfl (by exact absurd ((sn_gd2 e1 e2 e3).symm.trans hvv) (by simp))) (RVs.c (RV.b rfl (by exact absurd ((sn_gd2 e1 e2 e3).symm.trans hvv) (by simp))) RVs.e)) (AOs.a rfl AOs.e)
    ·skip
     have hvv := hv19.symm.trans h20
     refine CW.skip ?_
     refine CW.keep 63 [8] rfl ?_;(conv=>whnf);refine ⟨?_⟩
     refine CW.k XK 63 1 [2,3] rfl ?_
     (conv=>whnf);refine ⟨rfl,?_⟩
     refine CW.ret ?_
     exact Post.tup (by decide) (RVs.c (RV.s rfl (by rw [snT_yes (nF ((sn_gdI e1 e2 e3).symm.trans (by assumption))), ← snBI_eq e1 e2 e3])) (RVs.c (RV.b rfl (by rw [snT_yes (nF ((sn_gdI e1 e2 e3).symm.trans (by assumption))), seal_go (by have h9 := snB_size s.conf; omega)])) RVs.e)) (AOs.a rfl AOs.e)
set_option maxHeartbeats 4000000 in
theorem spec_JournalName_fn (n : Int) (hn : n = 0) : Eng.Fn E.P 15 [.one (.r (.v (.int .i64 n)))] (.one (.one (.w (.v (.string jN))))) [.one (.r (.v (.int .i64 n)))] := by
 refine Eng.Fn.intro (E := E) (rvs := [.tmp 2]) Tryd.func15 rfl rfl rfl (by simp [outSlots, moved, rvSlot, sl]) ?_
 intro B g bo
 refine CW.keep 9 [0] rfl ?_;(conv=>whnf);refine ⟨?_⟩
 refine CW.k XK 9 1 [0] rfl ?_
 (conv=>whnf);refine ⟨rfl,?_⟩
 refine CW.seq ?_
 refine CW.seq ?_
 refine CW.region ?_
 refine RW.k XK 9 1 rfl ?_
 (conv=>whnf);refine ⟨rfl,?_⟩
 refine RW.call rfl (spec_l01In_fn n 0 999) rfl (.cons (.one (.r .r)) (.cons (.one (.r .r)) (.cons (.one (.r .r)) (.nil)))) fun g1 => ?_
 refine RW.k XK 9 1 rfl ?_
 (conv=>whnf);refine ⟨rfl,?_⟩
 refine RW.nil ?_
 refine CW.keep 9 [0,5] rfl ?_;(conv=>whnf);refine ⟨?_⟩
 refine CW.cond rfl (fun h2 => ?_) (fun h2 => ?_)
 ·skip
  exact absurd h2 (by rw [hn]; decide)
 ·skip
  refine CW.skip ?_
  refine CW.keep 9 [0] rfl ?_;(conv=>whnf);refine ⟨?_⟩
  refine CW.seq ?_
  refine CW.region ?_
  refine RW.k XK 9 1 rfl ?_
  (conv=>whnf);refine ⟨rfl,?_⟩
  refine RW.call rfl (spec_Decimal_fn n (by rw [hn]; decide)) rfl (.cons (.one (.r .r)) (.nil)) fun g3 => ?_
  refine RW.v rfl (V.cat rfl rfl rfl (by rw [hn]; have h9 : (itoaB 0).size = 1 := itoa0_size; simp only [maxLen, h9]; decide)) ?_
  refine RW.k XK 9 1 rfl ?_
  (conv=>whnf);refine ⟨rfl,?_⟩
  refine RW.nil ?_
  refine CW.keep 9 [2] rfl ?_;(conv=>whnf);refine ⟨?_⟩
  refine CW.ret ?_
  exact Post.one (RV.s rfl (by rw [hn]; rfl)) (AOs.r AOs.e)
end Go.Proofs.YtmhnehgpmndiiaaDoor.Y
