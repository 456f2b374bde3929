import Derived.Test.YtaeagpakloggfaaDoorWFoldsC
namespace Go.Proofs.YtaeagpakloggfaaDoor.Y
open Go Go.RowKit Go.Eng Go.Proofs
set_option maxRecDepth 10000
set_option maxHeartbeats 4000000 in
theorem spec_l15Sessions_fn (a : List Session) : Eng.Fn E.P 71 [.one (.r (sl 3 Session.c a))] (.one (.one (.w (.v (.bool (sessF none a && decide ((a.length : Int) ≤ 3))))))) [.one (.r (sl 3 Session.c a))] := by
 refine Eng.Fn.intro (E := E) (rvs := [.tmp 2]) Tryd.func71 rfl rfl rfl (by simp [outSlots, moved, rvSlot, sl]) ?_
 intro B g bo
 refine CW.bound (x := .tmp 0) (n := a.length) (AsT.r) (fun hl0 => ?_)
 refine CW.keep 59 [0] rfl ?_;(conv=>whnf);refine ⟨?_⟩
 refine CW.k XK 59 1 [0] rfl ?_
 (conv=>whnf);refine ⟨rfl,?_⟩
 refine CW.seq ?_
 refine CW.k XK 59 1 [0,3] rfl ?_
 (conv=>whnf);refine ⟨rfl,?_⟩
 refine CW.block ?_
 refine CW.loopI 59 (fun (i : Nat) => [(0, .r (sl 3 Session.c a)), (3, I (i : Int))]) (fun (i : Nat) => i ≤ a.length ∧ sessF (prevO Session.token Session.z a i) (a.drop i) = sessF none a) (fun (i : Nat) => a.length - i) 0 rfl (Le.c rfl <| Le.c rfl <| Le.e) ⟨by omega, rfl⟩ ?_
 rintro i ⟨hb, hr⟩
 refine CW.seq ?_
 refine CW.k XK 59 1 [0,3,8] rfl ?_
 (conv=>whnf);refine ⟨rfl,?_⟩
 refine CW.cond rfl (fun h1 => ?_) (fun h1 => ?_)
 ·skip
  have hii : i < a.length := by have := h1; simp at this; first | exact this | omega | (simp; done) | (simp; omega)
  obtain ⟨ei, hei⟩ : ∃ e, a[i]? = some e := ⟨_, List.getElem?_eq_getElem hii⟩
  have hdi := drop_get hei
  refine CW.skip ?_
  refine CW.keep 59 [0,3] rfl ?_;(conv=>whnf);refine ⟨?_⟩
  refine CW.seq ?_
  refine CW.block ?_
  refine CW.seq ?_
  refine CW.region ?_
  refine RW.k XK 59 2 rfl ?_
  (conv=>whnf);refine ⟨rfl,?_⟩
  refine RW.v rfl (V.indexS rfl rfl rfl rfl rfl rfl Session.len hei) ?_
  refine RW.k XK 59 3 rfl ?_
  (conv=>whnf);intro b2;(conv=>whnf);refine ⟨rfl,?_⟩
  refine RW.freezeB (ts := (Session.c ei)) 4 rfl (DRd.r (DRd.r (DRd.r DRd.e))) ?_
  refine RW.nil ?_
  refine CW.keep 59 [0,3,4] rfl ?_;(conv=>whnf);refine ⟨?_⟩
  refine CW.seqJ 59 (fun (v3 : Bool) => [(0, .r (sl 3 Session.c a)), (3, I (i : Int)), (55, Bo v3)]) (fun v3 => v3 = (((((!(inR ei.token 1 1000000)) || (decide ((i : Int) > 0) && decide ((a.getD (i - 1) Session.z).token ≥ ei.token))) || (!(inR ei.last 0 1000000))) || decide ((ei.reply.size : Int) > 40)) || ((ei.last == 0) && (!(ei.reply.toList == (⟨#[]⟩ : ByteArray).toList))))) ?_ ?_
  ·refine CW.drawn (by kernel_rfl) ?_
   refine RQ.k XK 59 2 rfl ?_
   (conv=>whnf);refine ⟨rfl,?_⟩
   refine RQ.cons rfl (QOK.call (spec_l01In_fn ei.token 1 1000000) rfl (.cons (.one (.r .r)) (.cons (.one (.r .r)) (.cons (.one (.r .r)) (.nil)))) ?_)
   refine RQ.k XK 59 2 rfl ?_
   (conv=>whnf);refine ⟨rfl,?_⟩
   refine RQ.gv rfl rfl rfl rfl (fun h4 => V.mv (d := I (i : Int)) rfl rfl) (fun h4 => ?_) (fun h4 => ?_)
   ·skip
    refine RQ.k XK 59 2 rfl ?_
    (conv=>whnf);refine ⟨rfl,?_⟩
    refine RQ.gv rfl rfl rfl rfl (fun h5 => V.mv (d := .r (sl 3 Session.c a)) rfl rfl) (fun h5 => ?_) (fun h5 => ?_)
    ·skip
     refine RQ.k XK 59 1 rfl ?_
     (conv=>whnf);refine ⟨rfl,?_⟩
     refine RQ.gt rfl rfl rfl rfl (V.dec (m := i) rfl rfl rfl (by have := h5; simp at this; omega) (by omega)) ?_
     refine RQ.gt rfl rfl rfl rfl (V.indexS rfl rfl rfl rfl rfl rfl Session.len (getD_some (l := a) (j := i - 1) (z := Session.z) (by omega))) ?_
     refine RQ.k XK 59 8 rfl ?_
     (conv=>whnf);refine ⟨rfl,?_⟩
     refine RQ.gv rfl rfl rfl rfl (fun h6 => V.fieldR rfl rfl rfl rfl (by decide) rfl (Nat.le_of_ble_eq_true rfl)) (fun h6 => ?_) (fun h6 => ?_)
     ·skip
      refine RQ.k XK 59 1 rfl ?_
      (conv=>whnf);refine ⟨rfl,?_⟩
      refine RQ.guardT rfl rfl rfl rfl (QOK.call (spec_l01In_fn ei.last 0 1000000) rfl (.cons (.one (.r .r)) (.cons (.one (.r .r)) (.cons (.one (.r .r)) (.nil)))) ?_)
      refine RQ.k XK 59 3 rfl ?_
      (conv=>whnf);refine ⟨rfl,?_⟩
      refine RQ.gv rfl rfl rfl rfl (fun h7 => V.fieldR rfl rfl rfl rfl (by decide) rfl (Nat.le_of_ble_eq_true rfl)) (fun h7 => ?_) (fun h7 => ?_)
      ·skip
       refine RQ.k XK 59 5 rfl ?_
       (conv=>whnf);refine ⟨rfl,?_⟩
       refine RQ.gv rfl rfl rfl rfl (fun h8 => V.fieldR rfl rfl rfl rfl (by decide) rfl (Nat.le_of_ble_eq_true rfl)) (fun h8 => ?_) (fun h8 => ?_)
       ·skip
        refine RQ.k XK 59 3 rfl ?_
        (conv=>whnf);refine ⟨rfl,?_⟩
        refine RQ.gv rfl rfl rfl rfl (fun h9 => V.fieldR rfl rfl rfl rfl (by decide) rfl (Nat.le_of_ble_eq_true rfl)) (fun h9 => ?_) (fun h9 => ?_)
        ·skip
         refine RQ.k XK 59 4 rfl ?_
         (conv=>whnf);refine ⟨rfl,?_⟩
         refine RQ.nil ?_
         exact ⟨_, by (try clear hr hdi); first | rfl | (simp_all; done) | (simp_all; omega) | grind, rfl, Le.of rfl⟩
        ·skip
         refine RQ.k XK 59 4 rfl ?_
         (conv=>whnf);refine ⟨rfl,?_⟩
         refine RQ.nil ?_
         exact ⟨_, by (try clear hr hdi); first | rfl | (simp_all; done) | (simp_all; omega) | grind, rfl, Le.of rfl⟩
       ·skip
        refine RQ.k XK 59 8 rfl ?_
        (conv=>whnf);refine ⟨rfl,?_⟩
        refine RQ.nil ?_
        exact ⟨_, by (try clear hr hdi); first | rfl | (simp_all; done) | (simp_all; omega) | grind, rfl, Le.of rfl⟩
      ·skip
       refine RQ.k XK 59 14 rfl ?_
       (conv=>whnf);refine ⟨rfl,?_⟩
       refine RQ.nil ?_
       exact ⟨_, by (try clear hr hdi); first | rfl | (simp_all; done) | (simp_all; omega) | grind, rfl, Le.of rfl⟩
     ·skip
      refine RQ.k XK 59 20 rfl ?_
      (conv=>whnf);refine ⟨rfl,?_⟩
      refine RQ.nil ?_
      exact ⟨_, by (try clear hr hdi); first | rfl | (simp_all; done) | (simp_all; omega) | grind, rfl, Le.of rfl⟩
    ·skip
     refine RQ.k XK 59 13 rfl ?_
     (conv=>whnf);refine ⟨rfl,?_⟩
     refine RQ.guardT rfl rfl rfl rfl (QOK.call (spec_l01In_fn ei.last 0 1000000) rfl (.cons (.one (.r .r)) (.cons (.one (.r .r)) (.cons (.one (.r .r)) (.nil)))) ?_)
     refine RQ.k XK 59 3 rfl ?_
     (conv=>whnf);refine ⟨rfl,?_⟩
     refine RQ.gv rfl rfl rfl rfl (fun h10 => V.fieldR rfl rfl rfl rfl (by decide) rfl (Nat.le_of_ble_eq_true rfl)) (fun h10 => ?_) (fun h10 => ?_)
     ·skip
      refine RQ.k XK 59 5 rfl ?_
      (conv=>whnf);refine ⟨rfl,?_⟩
      refine RQ.gv rfl rfl rfl rfl (fun h11 => V.fieldR rfl rfl rfl rfl (by decide) rfl (Nat.le_of_ble_eq_true rfl)) (fun h11 => ?_) (fun h11 => ?_)
      ·skip
       refine RQ.k XK 59 3 rfl ?_
       (conv=>whnf);refine ⟨rfl,?_⟩
       refine RQ.gv rfl rfl rfl rfl (fun h12 => V.fieldR rfl rfl rfl rfl (by decide) rfl (Nat.le_of_ble_eq_true rfl)) (fun h12 => ?_) (fun h12 => ?_)
       ·skip
        refine RQ.k XK 59 4 rfl ?_
        (conv=>whnf);refine ⟨rfl,?_⟩
        refine RQ.nil ?_
        exact ⟨_, by (try clear hr hdi); first | rfl | (simp_all; done) | (simp_all; omega) | grind, rfl, Le.of rfl⟩
       ·skip
        refine RQ.k XK 59 4 rfl ?_
        (conv=>whnf);refine ⟨rfl,?_⟩
        refine RQ.nil ?_
        exact ⟨_, by (try clear hr hdi); first | rfl | (simp_all; done) | (simp_all; omega) | grind, rfl, Le.of rfl⟩
      ·skip
       refine RQ.k XK 59 8 rfl ?_
       (conv=>whnf);refine ⟨rfl,?_⟩
       refine RQ.nil ?_
       exact ⟨_, by (try clear hr hdi); first | rfl | (simp_all; done) | (simp_all; omega) | grind, rfl, Le.of rfl⟩
     ·skip
      refine RQ.k XK 59 14 rfl ?_
      (conv=>whnf);refine ⟨rfl,?_⟩
      refine RQ.nil ?_
      exact ⟨_, by (try clear hr hdi); first | rfl | (simp_all; done) | (simp_all; omega) | grind, rfl, Le.of rfl⟩
   ·skip
    refine RQ.k XK 59 35 rfl ?_
    (conv=>whnf);refine ⟨rfl,?_⟩
    refine RQ.nil ?_
    exact ⟨_, by (try clear hr hdi); first | rfl | (simp_all; done) | (simp_all; omega) | grind, rfl, Le.of rfl⟩
  ·intro v3 hv13
   refine CW.cond rfl (fun h14 => ?_) (fun h14 => ?_)
   ·skip
    refine CW.k XK 59 1 [2] rfl ?_
    (conv=>whnf);refine ⟨rfl,?_⟩
    refine CW.ret ?_
    exact Post.one (RV.b rfl (by have ht : sessF none a = false := (by rw [← hr, hdi, sessF]; first | (simp_all [sessOk, emp, prevO, prevGe]; done) | grind [sessOk, emp, prevO, prevGe]); simp [ht])) (AOs.r AOs.e)
   ·skip
    refine CW.skip ?_
    refine CW.keep 59 [0,3] rfl ?_;(conv=>whnf);refine ⟨?_⟩
    refine CW.region ?_
    refine RW.k XK 59 1 rfl ?_
    (conv=>whnf);refine ⟨rfl,?_⟩
    refine RW.v rfl (V.inc rfl rfl rfl hii hl0) ?_
    refine RW.k XK 59 1 rfl ?_
    (conv=>whnf);refine ⟨rfl,?_⟩
    refine RW.nil ?_
    exact ⟨i + 1, by omega, ⟨by omega, by rw [← hr, hdi, sessF, prevO_succ hei]; first | (simp_all [sessOk, emp, prevO, prevGe]; done) | grind [sessOk, emp, prevO, prevGe]⟩, rfl, Le.c rfl <| Le.c rfl <| Le.e⟩
 ·skip
  have hii : a.length ≤ i := by have := h1; simp at this; first | exact this | omega | (simp; done) | (simp; omega)
  have hdi : a.drop i = [] := List.drop_eq_nil_of_le hii
  refine CW.exit ?_
  refine CW.keep 59 [0] rfl ?_;(conv=>whnf);refine ⟨?_⟩
  refine CW.k XK 59 1 [2] rfl ?_
  (conv=>whnf);refine ⟨rfl,?_⟩
  refine CW.ret ?_
  exact Post.one (RV.b rfl (by have ht : sessF none a = true := (by rw [← hr, hdi]; rfl); simp [ht])) (AOs.r AOs.e)
set_option maxHeartbeats 4000000 in
theorem spec_KeepOk_fn (k : Keep) (hok : okToKeep k) : Eng.Fn E.P 36 [.agg ((Keep.c k).map .r)] (.one (.one (.w (.v (.bool (keepOk k)))))) [.agg ((Keep.c k).map .r)] := by
 refine Eng.Fn.intro (E := E) (rvs := [.tmp 2]) Tryd.func36 rfl rfl rfl (by simp [outSlots, moved, rvSlot, sl]) ?_
 intro B g bo
 refine CW.keep 59 [0] rfl ?_;(conv=>whnf);refine ⟨?_⟩
 have hl1 : k.sessions.length ≤ maxLen := by have := hok.1.1; simp only [maxLen]; omega
 have hl2 : k.items.length ≤ maxLen := by have := hok.2.1; simp only [maxLen]; omega
 refine CW.seq ?_
 refine CW.region ?_
 refine RW.k XK 59 1 rfl ?_
 (conv=>whnf);intro b1;(conv=>whnf);refine ⟨rfl,?_⟩
 refine RW.freezeB (ts := (Keep.c k)) 1 rfl (DRd.r (DRd.r DRd.e)) ?_
 refine RW.k XK 59 1 rfl ?_
 (conv=>whnf);refine ⟨rfl,?_⟩
 refine RW.nil ?_
 refine CW.keep 59 [1] rfl ?_;(conv=>whnf);refine ⟨?_⟩
 refine CW.seq ?_
 refine CW.k XK 59 1 [1,3] rfl ?_
 (conv=>whnf);refine ⟨rfl,?_⟩
 refine CW.block ?_
 refine CW.loopI 59 (fun (i : Nat) => [(1, .rp (Keep.c k)), (3, I (i : Int))]) (fun (i : Nat) => i ≤ k.items.length ∧ itemF (prevO Item.key Item.z k.items i) (k.items.drop i) = itemF none k.items) (fun (i : Nat) => k.items.length - i) 0 rfl (Le.c rfl <| Le.c rfl <| Le.e) ⟨by omega, rfl⟩ ?_
 rintro i ⟨hb, hr⟩
 refine CW.seq ?_
 refine CW.k XK 59 1 [1,3,9] rfl ?_
 (conv=>whnf);refine ⟨rfl,?_⟩
 refine CW.cond rfl (fun h2 => ?_) (fun h2 => ?_)
 ·skip
  have hii : i < k.items.length := by have := h2; simp at this; first | exact this | omega | (simp; done) | (simp; omega)
  obtain ⟨ei, hei⟩ : ∃ e, k.items[i]? = some e := ⟨_, List.getElem?_eq_getElem hii⟩
  have hdi := drop_get hei
  refine CW.skip ?_
  refine CW.keep 59 [1,3] rfl ?_;(conv=>whnf);refine ⟨?_⟩
  refine CW.seq ?_
  refine CW.block ?_
  refine CW.seq ?_
  refine CW.region ?_
  refine RW.k XK 59 3 rfl ?_
  (conv=>whnf);refine ⟨rfl,?_⟩
  refine RW.v rfl (V.indexS rfl rfl rfl rfl rfl rfl Item.len hei) ?_
  refine RW.k XK 59 3 rfl ?_
  (conv=>whnf);intro b3;(conv=>whnf);refine ⟨rfl,?_⟩
  refine RW.freezeB (ts := (Item.c ei)) 4 rfl (DRd.r (DRd.r (DRd.r DRd.e))) ?_
  refine RW.nil ?_
  refine CW.keep 59 [1,3,4] rfl ?_;(conv=>whnf);refine ⟨?_⟩
  refine CW.seqJ 59 (fun (v4 : Bool) => [(1, .rp (Keep.c k)), (3, I (i : Int)), (49, Bo v4)]) (fun v4 => v4 = ((((!(inR (ei.key.size : Int) 1 8)) || (decide ((i : Int) > 0) && (!(Op.bytesLess ((k.items.getD (i - 1) Item.z).key).toList ei.key.toList)))) || decide ((ei.val.size : Int) > 20)) || (!(inR ei.ver 1 1000000000)))) ?_ ?_
  ·refine CW.drawn (by kernel_rfl) ?_
   refine RQ.k XK 59 3 rfl ?_
   (conv=>whnf);refine ⟨rfl,?_⟩
   refine RQ.cons rfl (QOK.call (spec_l01In_fn (ei.key.size : Int) 1 8) rfl (.cons (.one (.r .r)) (.cons (.one (.r .r)) (.cons (.one (.r .r)) (.nil)))) ?_)
   refine RQ.k XK 59 2 rfl ?_
   (conv=>whnf);refine ⟨rfl,?_⟩
   refine RQ.gv rfl rfl rfl rfl (fun h5 => V.mv (d := I (i : Int)) rfl rfl) (fun h5 => ?_) (fun h5 => ?_)
   ·skip
    refine RQ.k XK 59 2 rfl ?_
    (conv=>whnf);refine ⟨rfl,?_⟩
    refine RQ.gv rfl rfl rfl rfl (fun h6 => V.fieldR rfl rfl rfl rfl (by decide) rfl (Nat.le_of_ble_eq_true rfl)) (fun h6 => ?_) (fun h6 => ?_)
    ·skip
     refine RQ.k XK 59 2 rfl ?_
     (conv=>whnf);refine ⟨rfl,?_⟩
     refine RQ.gt rfl rfl rfl rfl (V.dec (m := i) rfl rfl rfl (by have := h6; simp at this; omega) (by omega)) ?_
     refine RQ.gt rfl rfl rfl rfl (V.indexS rfl rfl rfl rfl rfl rfl Item.len (getD_some (l := k.items) (j := i - 1) (z := Item.z) (by omega))) ?_
     refine RQ.k XK 59 8 rfl ?_
     (conv=>whnf);refine ⟨rfl,?_⟩
     refine RQ.gv rfl rfl rfl rfl (fun h7 => V.fieldR rfl rfl rfl rfl (by decide) rfl (Nat.le_of_ble_eq_true rfl)) (fun h7 => ?_) (fun h7 => ?_)
     ·skip
      refine RQ.k XK 59 5 rfl ?_
      (conv=>whnf);refine ⟨rfl,?_⟩
      refine RQ.gv rfl rfl rfl rfl (fun h8 => V.fieldR rfl rfl rfl rfl (by decide) rfl (Nat.le_of_ble_eq_true rfl)) (fun h8 => ?_) (fun h8 => ?_)
      ·skip
       refine RQ.k XK 59 1 rfl ?_
       (conv=>whnf);refine ⟨rfl,?_⟩
       refine RQ.guardT rfl rfl rfl rfl (QOK.call (spec_l01In_fn ei.ver 1 1000000000) rfl (.cons (.one (.r .r)) (.cons (.one (.r .r)) (.cons (.one (.r .r)) (.nil)))) ?_)
       refine RQ.k XK 59 2 rfl ?_
       (conv=>whnf);refine ⟨rfl,?_⟩
       refine RQ.nil ?_
       exact ⟨_, by (try clear hr hdi); first | rfl | (simp_all; done) | (simp_all; omega) | grind, rfl, Le.of rfl⟩
      ·skip
       refine RQ.k XK 59 4 rfl ?_
       (conv=>whnf);refine ⟨rfl,?_⟩
       refine RQ.nil ?_
       exact ⟨_, by (try clear hr hdi); first | rfl | (simp_all; done) | (simp_all; omega) | grind, rfl, Le.of rfl⟩
     ·skip
      refine RQ.k XK 59 10 rfl ?_
      (conv=>whnf);refine ⟨rfl,?_⟩
      refine RQ.nil ?_
      exact ⟨_, by (try clear hr hdi); first | rfl | (simp_all; done) | (simp_all; omega) | grind, rfl, Le.of rfl⟩
    ·skip
     refine RQ.k XK 59 18 rfl ?_
     (conv=>whnf);refine ⟨rfl,?_⟩
     refine RQ.gv rfl rfl rfl rfl (fun h9 => V.fieldR rfl rfl rfl rfl (by decide) rfl (Nat.le_of_ble_eq_true rfl)) (fun h9 => ?_) (fun h9 => ?_)
     ·skip
      refine RQ.k XK 59 1 rfl ?_
      (conv=>whnf);refine ⟨rfl,?_⟩
      refine RQ.guardT rfl rfl rfl rfl (QOK.call (spec_l01In_fn ei.ver 1 1000000000) rfl (.cons (.one (.r .r)) (.cons (.one (.r .r)) (.cons (.one (.r .r)) (.nil)))) ?_)
      refine RQ.k XK 59 2 rfl ?_
      (conv=>whnf);refine ⟨rfl,?_⟩
      refine RQ.nil ?_
      exact ⟨_, by (try clear hr hdi); first | rfl | (simp_all; done) | (simp_all; omega) | grind, rfl, Le.of rfl⟩
     ·skip
      refine RQ.k XK 59 4 rfl ?_
      (conv=>whnf);refine ⟨rfl,?_⟩
      refine RQ.nil ?_
      exact ⟨_, by (try clear hr hdi); first | rfl | (simp_all; done) | (simp_all; omega) | grind, rfl, Le.of rfl⟩
   ·skip
    refine RQ.k XK 59 26 rfl ?_
    (conv=>whnf);refine ⟨rfl,?_⟩
    refine RQ.nil ?_
    exact ⟨_, by (try clear hr hdi); first | rfl | (simp_all; done) | (simp_all; omega) | grind, rfl, Le.of rfl⟩
  ·intro v4 hv10
   refine CW.cond rfl (fun h11 => ?_) (fun h11 => ?_)
   ·skip
    refine CW.k XK 59 1 [2] rfl ?_
    (conv=>whnf);refine ⟨rfl,?_⟩
    refine CW.ret ?_
    exact Post.one (RV.b rfl (by have ht : itemF none k.items = false := (by rw [← hr, hdi, itemF]; first | (simp_all [itemOk, prevO, prevS]; done) | grind [itemOk, prevO, prevS]); simp [keepOk, ht])) (AOs.a rfl AOs.e)
   ·skip
    refine CW.skip ?_
    refine CW.keep 59 [1,3] rfl ?_;(conv=>whnf);refine ⟨?_⟩
    refine CW.region ?_
    refine RW.k XK 59 1 rfl ?_
    (conv=>whnf);refine ⟨rfl,?_⟩
    refine RW.v rfl (V.inc rfl rfl rfl hii hl2) ?_
    refine RW.k XK 59 1 rfl ?_
    (conv=>whnf);refine ⟨rfl,?_⟩
    refine RW.nil ?_
    exact ⟨i + 1, by omega, ⟨by omega, by rw [← hr, hdi, itemF, prevO_succ hei]; first | (simp_all [sessOk, itemOk, emp, prevO, prevGe, prevS]; done) | grind [sessOk, itemOk, emp, prevO, prevGe, prevS]⟩, rfl, Le.c rfl <| Le.c rfl <| Le.e⟩
 ·skip
  have hii : k.items.length ≤ i := by have := h2; simp at this; first | exact this | omega | (simp; done) | (simp; omega)
  have hdi : k.items.drop i = [] := List.drop_eq_nil_of_le hii
  refine CW.exit ?_
  refine CW.keep 59 [1] rfl ?_;(conv=>whnf);refine ⟨?_⟩
  refine CW.seqJ 59 (fun (v12 : Bool) => [(2, Bo v12)]) (fun v12 => v12 = ((sessF none k.sessions && decide ((k.sessions.length : Int) ≤ 3)) && decide ((k.items.length : Int) ≤ 8))) ?_ ?_
  ·refine CW.region ?_
   refine RW.k XK 59 2 rfl ?_
   (conv=>whnf);refine ⟨rfl,?_⟩
   refine RW.call rfl (spec_l15Sessions_fn k.sessions) rfl (.cons (.one (.r .r)) (.nil)) fun g13 => ?_
   refine RW.k XK 59 1 rfl ?_
   (conv=>whnf);refine ⟨rfl,?_⟩
   refine RW.gv rfl rfl rfl rfl (fun h14 => V.fieldR rfl rfl rfl rfl (by decide) rfl (Nat.le_of_ble_eq_true rfl)) (fun h14 => ?_) (fun h14 => ?_)
   ·skip
    refine RW.k XK 59 5 rfl ?_
    (conv=>whnf);refine ⟨rfl,?_⟩
    refine RW.nil ?_
    exact ⟨_, by (try clear hr hdi); first | rfl | (simp_all; done) | (simp_all; omega) | grind, rfl, Le.of rfl⟩
   ·skip
    refine RW.k XK 59 5 rfl ?_
    (conv=>whnf);refine ⟨rfl,?_⟩
    refine RW.nil ?_
    exact ⟨_, by (try clear hr hdi); first | rfl | (simp_all; done) | (simp_all; omega) | grind, rfl, Le.of rfl⟩
  ·intro v12 hv15
   refine CW.ret ?_
   exact Post.one (RV.b rfl (by have hu : itemF none k.items = true := (by rw [← hr, hdi]; rfl); clear hr hdi; first | (simp_all [keepOk]; done) | grind [keepOk])) (AOs.a rfl AOs.e)
set_option maxHeartbeats 4000000 in
theorem spec_Perform_fn (k : Keep) (n : Int) (x : Command) (hok : okToKeep k) : Eng.Fn E.P 21 [.agg ((Keep.c k).map .r), .one (.r (.v (.int .i64 n))), .agg ((Command.c x).map .r)] (.tup [.agg ((Keep.c ((perfK k n x).1)).map .r), .one (.w (.v (.string ((perfK k n x).2.1)))), .one (.w (.v (.bool ((perfK k n x).2.2))))]) [.agg ((Keep.c k).map .r), .one (.r (.v (.int .i64 n))), .agg ((Command.c x).map .r)] := by
 refine Eng.Fn.intro (E := E) (rvs := [.cell 6 31, .tmp 7, .tmp 8]) Tryd.func21 rfl rfl rfl (by simp [outSlots, moved, rvSlot, sl]) ?_
 intro B g bo
 refine CW.keep 120 [0,1,2] rfl ?_;(conv=>whnf);refine ⟨?_⟩
 have hl1 : k.sessions.length ≤ maxLen := by have := hok.1.1; simp only [maxLen]; omega
 have hl2 : k.items.length ≤ maxLen := by have := hok.2.1; simp only [maxLen]; omega
 refine CW.seq ?_
 refine CW.region ?_
 refine RW.k XK 120 1 rfl ?_
 (conv=>whnf);intro b1;(conv=>whnf);refine ⟨rfl,?_⟩
 refine RW.freezeB (ts := (Keep.c k)) 3 rfl (DRd.r (DRd.r DRd.e)) ?_
 refine RW.k XK 120 1 rfl ?_
 (conv=>whnf);intro b2;(conv=>whnf);refine ⟨rfl,?_⟩
 refine RW.freezeB (ts := (Command.c x)) 5 rfl (DRd.r (DRd.r (DRd.r (DRd.r (DRd.r (DRd.r DRd.e)))))) ?_
 refine RW.k XK 120 3 rfl ?_
 (conv=>whnf);intro b3;(conv=>whnf);refine ⟨rfl,?_⟩
 refine RW.nil ?_
 refine CW.keep 120 [1,3,5,6] rfl ?_;(conv=>whnf);refine ⟨?_⟩
 refine CW.seq ?_
 refine CW.seqJ 120 (fun (v4 : Bool) => [(1, I n), (3, .rp (Keep.c k)), (5, .rp (Command.c x)), (6, .obj b3 [.r (.v (.slice none 0 0)), .r (.v (.slice none 0 0))]), (32, Bo v4)]) (fun v4 => v4 = ((((!(keepOk k)) || (!(inR n 1 1000000))) || decide (n > 400000)) || (!(cmdOk x)))) ?_ ?_
 ·refine CW.region ?_
  refine RW.k XK 120 1 rfl ?_
  (conv=>whnf);refine ⟨rfl,?_⟩
  refine RW.call rfl (spec_KeepOk_fn k hok) rfl (.cons (.agg (.cons (.r .r) (.cons (.r .r) (.nil)))) (.nil)) fun g5 => ?_
  refine RW.k XK 120 2 rfl ?_
  (conv=>whnf);refine ⟨rfl,?_⟩
  refine RW.gv rfl rfl rfl rfl (fun h6 => V.mv (d := I n) rfl rfl) (fun h6 => ?_) (fun h6 => ?_)
  ·skip
   refine RW.gcall rfl rfl rfl rfl (spec_l01In_fn n 1 1000000) rfl (.cons (.one (.r .r)) (.cons (.one (.r .r)) (.cons (.one (.r .r)) (.nil)))) fun g7 => ?_
   refine RW.k XK 120 3 rfl ?_
   (conv=>whnf);refine ⟨rfl,?_⟩
   refine RW.gv rfl rfl rfl rfl (fun h8 => V.mv (d := I n) rfl rfl) (fun h8 => ?_) (fun h8 => ?_)
   ·skip
    refine RW.k XK 120 3 rfl ?_
    (conv=>whnf);refine ⟨rfl,?_⟩
    refine RW.gv rfl rfl rfl rfl (fun h9 => V.loadAggR rfl rfl rfl rfl (Nat.le_of_ble_eq_true rfl)) (fun h9 => ?_) (fun h9 => ?_)
    ·skip
     refine RW.gcall rfl rfl rfl rfl (spec_CommandOk_fn x) rfl (.cons (.agg (.cons (.r .r) (.cons (.r .r) (.cons (.r .r) (.cons (.r .r) (.cons (.r .r) (.cons (.r .r) (.nil)))))))) (.nil)) fun g10 => ?_
     refine RW.k XK 120 2 rfl ?_
     (conv=>whnf);refine ⟨rfl,?_⟩
     refine RW.nil ?_
     exact ⟨_, by first | rfl | (simp_all; done) | (simp_all; omega) | grind, rfl, Le.of rfl⟩
    ·skip
     refine RW.k XK 120 3 rfl ?_
     (conv=>whnf);refine ⟨rfl,?_⟩
     refine RW.nil ?_
     exact ⟨_, by first | rfl | (simp_all; done) | (simp_all; omega) | grind, rfl, Le.of rfl⟩
   ·skip
    refine RW.k XK 120 7 rfl ?_
    (conv=>whnf);refine ⟨rfl,?_⟩
    refine RW.nil ?_
    exact ⟨_, by first | rfl | (simp_all; done) | (simp_all; omega) | grind, rfl, Le.of rfl⟩
  ·skip
   refine RW.k XK 120 12 rfl ?_
   (conv=>whnf);refine ⟨rfl,?_⟩
   refine RW.nil ?_
   exact ⟨_, by first | rfl | (simp_all; done) | (simp_all; omega) | grind, rfl, Le.of rfl⟩
 ·intro v4 hv11
  refine CW.cond rfl (fun h12 => ?_) (fun h12 => ?_)
  ·skip
   refine CW.k XK 120 1 [6,7,8] rfl ?_
   (conv=>whnf);refine ⟨rfl,?_⟩
   refine CW.ret ?_
   exact Post.tup (by decide) (RVs.c (RV.c (f := fun e => (Keep.c e).map .r) (e' := (⟨[], []⟩ : Keep)) rfl rfl rfl rfl (DT.nr (DT.nr DT.e)) (by rw [perf_no (k := k) (n := n) (x := x) (by rw [hv11, pfS] at h12; simpa using h12)] <;> rfl)) (RVs.c (RV.s rfl (by rw [perf_no (k := k) (n := n) (x := x) (by rw [hv11, pfS] at h12; simpa using h12)] <;> rfl)) (RVs.c (RV.b rfl (by rw [perf_no (k := k) (n := n) (x := x) (by rw [hv11, pfS] at h12; simpa using h12)] <;> rfl)) RVs.e))) (AOs.a rfl (AOs.r (AOs.a rfl AOs.e)))
  ·skip
   have hpf : PfOk k n x := PfOk.of (by rw [hv11, pfS] at h12; simpa using h12)
   refine CW.skip ?_
   refine CW.keep 120 [1,3,5,6] rfl ?_;(conv=>whnf);refine ⟨?_⟩
   refine CW.seq ?_
   refine CW.k XK 120 1 [1,3,5,6,36] rfl ?_
   (conv=>whnf);refine ⟨rfl,?_⟩
   refine CW.cond rfl (fun h13 => ?_) (fun h13 => ?_)
   ·skip
    refine CW.seq ?_
    refine CW.region ?_
    refine RW.k XK 120 2 rfl ?_
    (conv=>whnf);refine ⟨rfl,?_⟩
    refine RW.call rfl (spec_l15Open_fn k n hok hpf.k hpf.n) rfl (.cons (.agg (.cons (.r .r) (.cons (.r .r) (.nil)))) (.cons (.one (.r .r)) (.nil))) fun g14 => ?_
    refine RW.k XK 120 5 rfl ?_
    (conv=>whnf);intro b15;(conv=>whnf);refine ⟨rfl,?_⟩
    refine RW.keep 120 [6,9,41,42] rfl ?_;(conv=>whnf);refine ⟨?_⟩
    refine RW.pullA (k := 9) (l := 41) (j := 0) 9 41 0 rfl rfl rfl (by decide) rfl rfl rfl rfl ?_
    refine RW.keep 120 [6,9,41,42] rfl ?_;(conv=>whnf);refine ⟨?_⟩
    refine RW.pullA (k := 9) (l := 41) (j := 1) 9 41 1 rfl rfl rfl (by decide) rfl rfl rfl rfl ?_
    refine RW.keep 120 [6,9,42] rfl ?_;(conv=>whnf);refine ⟨?_⟩
    refine RW.k XK 120 1 rfl ?_
    (conv=>whnf);refine ⟨rfl,?_⟩
    refine RW.nil ?_
    refine CW.keep 120 [6,9,10] rfl ?_;(conv=>whnf);refine ⟨?_⟩
    refine CW.seq ?_
    refine CW.region ?_
    refine RW.k XK 120 3 rfl ?_
    (conv=>whnf);refine ⟨rfl,?_⟩
    refine RW.keep 120 [6,9,44] rfl ?_;(conv=>whnf);refine ⟨?_⟩
    refine RW.pullO (k := 6) (l := 9) (j := 0) 6 9 0 rfl rfl rfl (by decide) rfl rfl rfl rfl ?_
    refine RW.keep 120 [6,9,44] rfl ?_;(conv=>whnf);refine ⟨?_⟩
    refine RW.pullO (k := 6) (l := 9) (j := 1) 6 9 1 rfl rfl rfl (by decide) rfl rfl rfl rfl ?_
    refine RW.keep 120 [6,44] rfl ?_;(conv=>whnf);refine ⟨?_⟩
    refine RW.k XK 120 2 rfl ?_
    (conv=>whnf);refine ⟨rfl,?_⟩
    refine RW.nil ?_
    refine CW.keep 120 [6,7,8] rfl ?_;(conv=>whnf);refine ⟨?_⟩
    refine CW.freeze 6 (d' := .obj b3 ((Keep.c (openK k n)).map .r)) rfl rfl ?_
    refine CW.ret ?_
    exact Post.tup (by decide) (RVs.c (RV.c (f := fun e => (Keep.c e).map .r) (e' := (openK k n)) rfl rfl rfl rfl (DT.r (DT.r DT.e)) (by rw [perf_open hpf h13] <;> rfl)) (RVs.c (RV.s rfl (by rw [perf_open hpf h13] <;> rfl)) (RVs.c (RV.b rfl (by rw [perf_open hpf h13] <;> rfl)) RVs.e))) (AOs.a rfl (AOs.r (AOs.a rfl AOs.e)))
   ·skip
    refine CW.skip ?_
    refine CW.keep 120 [1,3,5,6] rfl ?_;(conv=>whnf);refine ⟨?_⟩
    refine CW.k XK 120 1 [1,3,5,6,11] rfl ?_
    (conv=>whnf);refine ⟨rfl,?_⟩
    refine CW.seq ?_
    refine CW.k XK 120 1 [1,3,5,6,11,12] rfl ?_
    (conv=>whnf);refine ⟨rfl,?_⟩
    refine CW.block ?_
    refine CW.loopI 120 (fun (zz : Nat × Int) => match zz with | (i, a) => [(1, I n), (3, .rp (Keep.c k)), (5, .rp (Command.c x)), (6, .obj b3 [.r (.v (.slice none 0 0)), .r (.v (.slice none 0 0))]), (11, I a), (12, I (i : Int))]) (fun (zz : Nat × Int) => match zz with | (i, a) => SP k x i a) (fun (zz : Nat × Int) => match zz with | (i, a) => k.sessions.length - i) (0, _) rfl (Le.c rfl <| Le.c rfl <| Le.c rfl <| Le.c rfl <| Le.c rfl <| Le.c rfl <| Le.e) (SP.init _ _) ?_
    rintro ⟨i, a⟩ hP
    have hPe := hP.le
    refine CW.seq ?_
    refine CW.k XK 120 1 [1,3,5,6,11,12,49] rfl ?_
    (conv=>whnf);refine ⟨rfl,?_⟩
    refine CW.cond rfl (fun h16 => ?_) (fun h16 => ?_)
    ·skip
     have hii : i < k.sessions.length := by have := h16; simp at this; first | exact this | omega | (simp; done) | (simp; omega)
     obtain ⟨ei, hei⟩ : ∃ e, k.sessions[i]? = some e := ⟨_, List.getElem?_eq_getElem hii⟩
     have hdi := drop_get hei
     refine CW.skip ?_
     refine CW.keep 120 [1,3,5,6,11,12] rfl ?_;(conv=>whnf);refine ⟨?_⟩
     refine CW.seq ?_
     refine CW.block ?_
     refine CW.seq ?_
     refine CW.drawn (by kernel_rfl) ?_
     refine RQ.k XK 120 3 rfl ?_
     (conv=>whnf);refine ⟨rfl,?_⟩
     refine RQ.v rfl (V.indexS rfl rfl rfl rfl rfl rfl Session.len hei) ?_
     refine RQ.k XK 120 5 rfl ?_
     (conv=>whnf);refine ⟨rfl,?_⟩
     refine RQ.nil ?_
     refine CW.keep 120 [1,3,5,6,11,12,60] rfl ?_;(conv=>whnf);refine ⟨?_⟩
     refine CW.cond rfl (fun h17 => ?_) (fun h17 => ?_)
     ·skip
      refine CW.region ?_
      refine RW.k XK 120 2 rfl ?_
      (conv=>whnf);refine ⟨rfl,?_⟩
      refine RW.nil ?_
      refine CW.keep 120 [1,3,5,6,11,12] rfl ?_;(conv=>whnf);refine ⟨?_⟩
      refine CW.region ?_
      refine RW.k XK 120 1 rfl ?_
      (conv=>whnf);refine ⟨rfl,?_⟩
      refine RW.v rfl (V.inc rfl rfl rfl hii hl1) ?_
      refine RW.k XK 120 1 rfl ?_
      (conv=>whnf);refine ⟨rfl,?_⟩
      refine RW.nil ?_
      exact ⟨(i + 1, (i : Int)), by simp only []; omega, (by first | exact hP.hit hpf.k hei (by assumption) | exact hP.miss hei (by assumption)), rfl, Le.c rfl <| Le.c rfl <| Le.c rfl <| Le.c rfl <| Le.c rfl <| Le.c rfl <| Le.e⟩
     ·skip
      refine CW.skip ?_
      refine CW.keep 120 [1,3,5,6,11,12] rfl ?_;(conv=>whnf);refine ⟨?_⟩
      refine CW.region ?_
      refine RW.k XK 120 1 rfl ?_
      (conv=>whnf);refine ⟨rfl,?_⟩
      refine RW.v rfl (V.inc rfl rfl rfl hii hl1) ?_
      refine RW.k XK 120 1 rfl ?_
      (conv=>whnf);refine ⟨rfl,?_⟩
      refine RW.nil ?_
      exact ⟨(i + 1, a), by simp only []; omega, (by first | exact hP.hit hpf.k hei (by assumption) | exact hP.miss hei (by assumption)), rfl, Le.c rfl <| Le.c rfl <| Le.c rfl <| Le.c rfl <| Le.c rfl <| Le.c rfl <| Le.e⟩
    ·skip
     have hii : k.sessions.length ≤ i := by have := h16; simp at this; first | exact this | omega | (simp; done) | (simp; omega)
     have hdi : k.sessions.drop i = [] := List.drop_eq_nil_of_le hii
     refine CW.exit ?_
     refine CW.keep 120 [1,3,5,6,11] rfl ?_;(conv=>whnf);refine ⟨?_⟩
     refine CW.seq ?_
     refine CW.k XK 120 1 [1,3,5,6,11,63] rfl ?_
     (conv=>whnf);refine ⟨rfl,?_⟩
     refine CW.cond rfl (fun h18 => ?_) (fun h18 => ?_)
     ·skip
      have hno := hP.none h18
      refine CW.seq ?_
      refine CW.region ?_
      refine RW.k XK 120 1 rfl ?_
      (conv=>whnf);refine ⟨rfl,?_⟩
      refine RW.call rfl (spec_l15Copy_fn k hok) rfl (.cons (.agg (.cons (.r .r) (.cons (.r .r) (.nil)))) (.nil)) fun g19 => ?_
      refine RW.k XK 120 1 rfl ?_
      (conv=>whnf);refine ⟨rfl,?_⟩
      refine RW.keep 120 [6,65] rfl ?_;(conv=>whnf);refine ⟨?_⟩
      refine RW.pullA (k := 6) (l := 65) (j := 0) 6 65 0 rfl rfl rfl (by decide) rfl rfl rfl rfl ?_
      refine RW.keep 120 [6,65] rfl ?_;(conv=>whnf);refine ⟨?_⟩
      refine RW.pullA (k := 6) (l := 65) (j := 1) 6 65 1 rfl rfl rfl (by decide) rfl rfl rfl rfl ?_
      refine RW.keep 120 [6] rfl ?_;(conv=>whnf);refine ⟨?_⟩
      refine RW.k XK 120 2 rfl ?_
      (conv=>whnf);refine ⟨rfl,?_⟩
      refine RW.nil ?_
      refine CW.keep 120 [6,7,8] rfl ?_;(conv=>whnf);refine ⟨?_⟩
      refine CW.freeze 6 (d' := .obj b3 ((Keep.c k).map .r)) rfl rfl ?_
      refine CW.ret ?_
      exact Post.tup (by decide) (RVs.c (RV.c (f := fun e => (Keep.c e).map .r) (e' := k) rfl rfl rfl rfl (DT.r (DT.r DT.e)) (by rw [perf_none hpf h13 hno hii] <;> rfl)) (RVs.c (RV.s rfl (by rw [perf_none hpf h13 hno hii] <;> rfl)) (RVs.c (RV.b rfl (by rw [perf_none hpf h13 hno hii] <;> rfl)) RVs.e))) (AOs.a rfl (AOs.r (AOs.a rfl AOs.e)))
     ·skip
      obtain ⟨m, es, rfl, hat⟩ := hP.some h18
      refine CW.skip ?_
      refine CW.keep 120 [1,3,5,6,11] rfl ?_;(conv=>whnf);refine ⟨?_⟩
      refine CW.seq ?_
      refine CW.region ?_
      refine RW.k XK 120 3 rfl ?_
      (conv=>whnf);refine ⟨rfl,?_⟩
      refine RW.v rfl (V.indexS rfl rfl rfl rfl rfl rfl Session.len hat.fs) ?_
      refine RW.k XK 120 3 rfl ?_
      (conv=>whnf);intro b20;(conv=>whnf);refine ⟨rfl,?_⟩
      refine RW.freezeB (ts := (Session.c es)) 13 rfl (DRd.r (DRd.r (DRd.r DRd.e))) ?_
      refine RW.nil ?_
      refine CW.keep 120 [1,3,5,6,11,13] rfl ?_;(conv=>whnf);refine ⟨?_⟩
      refine CW.seq ?_
      refine CW.seqJ 120 (fun (v21 : Bool) => [(1, I n), (3, .rp (Keep.c k)), (5, .rp (Command.c x)), (6, .obj b3 [.r (.v (.slice none 0 0)), .r (.v (.slice none 0 0))]), (11, I (m : Int)), (13, .rp (Session.c es)), (80, Bo v21)]) (fun v21 => v21 = ((x.seq == 0) || decide (x.seq < es.last))) ?_ ?_
      ·refine CW.region ?_
       refine RW.k XK 120 4 rfl ?_
       (conv=>whnf);refine ⟨rfl,?_⟩
       refine RW.gv rfl rfl rfl rfl (fun h22 => V.fieldR rfl rfl rfl rfl (by decide) rfl (Nat.le_of_ble_eq_true rfl)) (fun h22 => ?_) (fun h22 => ?_)
       ·skip
        refine RW.k XK 120 5 rfl ?_
        (conv=>whnf);refine ⟨rfl,?_⟩
        refine RW.nil ?_
        exact ⟨_, by first | rfl | (simp_all; done) | (simp_all; omega) | grind, rfl, Le.of rfl⟩
       ·skip
        refine RW.k XK 120 5 rfl ?_
        (conv=>whnf);refine ⟨rfl,?_⟩
        refine RW.nil ?_
        exact ⟨_, by first | rfl | (simp_all; done) | (simp_all; omega) | grind, rfl, Le.of rfl⟩
      ·intro v21 hv23
       refine CW.cond rfl (fun h24 => ?_) (fun h24 => ?_)
       ·skip
        refine CW.seq ?_
        refine CW.region ?_
        refine RW.k XK 120 1 rfl ?_
        (conv=>whnf);refine ⟨rfl,?_⟩
        refine RW.call rfl (spec_l15Copy_fn k hok) rfl (.cons (.agg (.cons (.r .r) (.cons (.r .r) (.nil)))) (.nil)) fun g25 => ?_
        refine RW.k XK 120 1 rfl ?_
        (conv=>whnf);refine ⟨rfl,?_⟩
        refine RW.keep 120 [6,82] rfl ?_;(conv=>whnf);refine ⟨?_⟩
        refine RW.pullA (k := 6) (l := 82) (j := 0) 6 82 0 rfl rfl rfl (by decide) rfl rfl rfl rfl ?_
        refine RW.keep 120 [6,82] rfl ?_;(conv=>whnf);refine ⟨?_⟩
        refine RW.pullA (k := 6) (l := 82) (j := 1) 6 82 1 rfl rfl rfl (by decide) rfl rfl rfl rfl ?_
        refine RW.keep 120 [6] rfl ?_;(conv=>whnf);refine ⟨?_⟩
        refine RW.k XK 120 2 rfl ?_
        (conv=>whnf);refine ⟨rfl,?_⟩
        refine RW.nil ?_
        refine CW.keep 120 [6,7,8] rfl ?_;(conv=>whnf);refine ⟨?_⟩
        refine CW.freeze 6 (d' := .obj b3 ((Keep.c k).map .r)) rfl rfl ?_
        refine CW.ret ?_
        exact Post.tup (by decide) (RVs.c (RV.c (f := fun e => (Keep.c e).map .r) (e' := k) rfl rfl rfl rfl (DT.r (DT.r DT.e)) (by rw [perfS_old hpf h13 hat (hv23.symm.trans h24)] <;> rfl)) (RVs.c (RV.s rfl (by rw [perfS_old hpf h13 hat (hv23.symm.trans h24)] <;> rfl)) (RVs.c (RV.b rfl (by rw [perfS_old hpf h13 hat (hv23.symm.trans h24)] <;> rfl)) RVs.e))) (AOs.a rfl (AOs.r (AOs.a rfl AOs.e)))
       ·skip
        refine CW.skip ?_
        refine CW.keep 120 [1,3,5,6,11,13] rfl ?_;(conv=>whnf);refine ⟨?_⟩
        refine CW.seq ?_
        refine CW.k XK 120 1 [1,3,5,6,11,13,87] rfl ?_
        (conv=>whnf);refine ⟨rfl,?_⟩
        refine CW.cond rfl (fun h26 => ?_) (fun h26 => ?_)
        ·skip
         refine CW.anyJ2 (fc := []) (L0 := []) 120 (fun (go27_1_1 : (Nat → Nat → Value)) => [(6, .obj b3 [.w (sl 3 Session.c k.sessions) (go27_1_1 0 0), .w (sl 3 Item.c k.items) (go27_1_1 0 1)]), (7, S es.reply), (8, Bo true)]) (fun all hall f hf b0 hb K hK => ?_) ?_
         ·skip
          have ro27_2 : ∀ B, ∀ (go27_1_1 : Nat → Nat → Value), RA f E B all 0 (bt 7 127) ⟨120, [(6, .obj b3 [.w (sl 3 Session.c k.sessions) (go27_1_1 0 0), .w (sl 3 Item.c k.items) (go27_1_1 0 1)]), (7, S es.reply), (8, Bo true)] ++ b0⟩ K := by
           intro B go27_1_1
           exact RA.of2 hall hf hb (RA.finH (Tell.of rfl) (by kernel_rfl) (hK go27_1_1 _ rfl (Le.of rfl)))
          have ro27_1 : ∀ B, ∀ (go27_1_1 : Nat → Nat → Value), RA f E B all 3 (bt 7 15) ⟨120, [(6, .obj b3 [.r (.v (.slice none 0 0)), .r (.v (.slice none 0 0))]), (89, .agg [.w (sl 3 Session.c k.sessions) (go27_1_1 0 0), .w (sl 3 Item.c k.items) (go27_1_1 0 1)]), (91, S es.reply)] ++ b0⟩ K := by
           intro B go27_1_1
           refine RA.of2 hall hf hb (RA.stepH (L := [4]) (Tell.of rfl) (by kernel_rfl) (by simp) (RA.each ?_ (RA.each0)))
           ·skip
            refine RO.storeAgg (es := [.al 89 (some 0) 3 k.sessions.length (go27_1_1 0 0) 0, .al 89 (some 1) 3 k.items.length (go27_1_1 0 1) 0]) rfl rfl rfl rfl rfl rfl rfl rfl rfl rfl (Nat.le_of_ble_eq_true rfl) rfl ?_
            refine RA.keep 120 [6,89,91] rfl ?_;(conv=>whnf);refine ⟨?_⟩
            refine RA.pullA (k := 6) (l := 89) (j := 0) 6 89 0 rfl rfl rfl (by decide) rfl rfl rfl rfl ?_
            refine RA.keep 120 [6,89,91] rfl ?_;(conv=>whnf);refine ⟨?_⟩
            refine RA.pullA (k := 6) (l := 89) (j := 1) 6 89 1 rfl rfl rfl (by decide) rfl rfl rfl rfl ?_
            refine RA.keep 120 [6,91] rfl ?_;(conv=>whnf);refine ⟨?_⟩
            refine RA.fr XK 120 0 [5,6] (bt 7 127) rfl rfl (by kernel_rfl) (Tell.of rfl) ?_
            (conv=>whnf);refine ⟨rfl,fun B=>?_⟩
            exact RA.to2 hall hf hb (ro27_2 B go27_1_1) rfl rfl (by kernel_rfl)
          have ro27_0 : ∀ B, RA f E B all 4 (bt 7 13) ⟨120, [(6, .obj b3 [.r (.v (.slice none 0 0)), .r (.v (.slice none 0 0))]), (88, .agg ((Keep.c k).map .r)), (91, S es.reply)] ++ b0⟩ K := by
           intro B
           refine RA.of2 hall hf hb (RA.stepH (L := [1]) (Tell.of rfl) (by kernel_rfl) (by simp) (RA.each ?_ (RA.each0)))
           ·skip
            refine RO.call rfl rfl (spec_l15Copy_fn k hok) rfl (.cons (.agg (.cons (.r .r) (.cons (.r .r) (.nil)))) (.nil)) rfl fun go27_1_1 => ?_
            exact RA.to2 hall hf hb (ro27_1 B go27_1_1) rfl rfl (by kernel_rfl)
          refine RA.start (by kernel_rfl) (by kernel_rfl) (m := 7) (ls' := (bt 7 0)) ?_
          refine RA.fr XK 120 4 [0,2,3] (bt 7 13) rfl rfl (by kernel_rfl) (Tell.of rfl) ?_
          (conv=>whnf);refine ⟨rfl,fun B=>?_⟩
          exact RA.to2 hall hf hb (ro27_0 B) rfl rfl (by kernel_rfl)
         ·rintro go27_1_1
          refine CW.freeze 6 (d' := .obj b3 ((Keep.c k).map .r)) rfl rfl ?_
          refine CW.ret ?_
          exact Post.tup (by decide) (RVs.c (RV.c (f := fun e => (Keep.c e).map .r) (e' := k) rfl rfl rfl rfl (DT.r (DT.r DT.e)) (by rw [perfS_same hpf h13 hat (hv23.symm.trans h24) h26] <;> rfl)) (RVs.c (RV.s rfl (by rw [perfS_same hpf h13 hat (hv23.symm.trans h24) h26] <;> rfl)) (RVs.c (RV.b rfl (by rw [perfS_same hpf h13 hat (hv23.symm.trans h24) h26] <;> rfl)) RVs.e))) (AOs.a rfl (AOs.r (AOs.a rfl AOs.e)))
        ·skip
         refine CW.skip ?_
         refine CW.keep 120 [1,3,5,6,11,13] rfl ?_;(conv=>whnf);refine ⟨?_⟩
         refine CW.seq ?_
         refine CW.k XK 120 1 [1,3,5,6,11,97] rfl ?_
         (conv=>whnf);refine ⟨rfl,?_⟩
         refine CW.cond rfl (fun h28 => ?_) (fun h28 => ?_)
         ·skip
          refine CW.seq ?_
          refine CW.region ?_
          refine RW.k XK 120 1 rfl ?_
          (conv=>whnf);refine ⟨rfl,?_⟩
          refine RW.call rfl (spec_l15Copy_fn k hok) rfl (.cons (.agg (.cons (.r .r) (.cons (.r .r) (.nil)))) (.nil)) fun g29 => ?_
          refine RW.k XK 120 1 rfl ?_
          (conv=>whnf);refine ⟨rfl,?_⟩
          refine RW.keep 120 [6,99] rfl ?_;(conv=>whnf);refine ⟨?_⟩
          refine RW.pullA (k := 6) (l := 99) (j := 0) 6 99 0 rfl rfl rfl (by decide) rfl rfl rfl rfl ?_
          refine RW.keep 120 [6,99] rfl ?_;(conv=>whnf);refine ⟨?_⟩
          refine RW.pullA (k := 6) (l := 99) (j := 1) 6 99 1 rfl rfl rfl (by decide) rfl rfl rfl rfl ?_
          refine RW.keep 120 [6] rfl ?_;(conv=>whnf);refine ⟨?_⟩
          refine RW.k XK 120 2 rfl ?_
          (conv=>whnf);refine ⟨rfl,?_⟩
          refine RW.nil ?_
          refine CW.keep 120 [6,7,8] rfl ?_;(conv=>whnf);refine ⟨?_⟩
          refine CW.freeze 6 (d' := .obj b3 ((Keep.c k).map .r)) rfl rfl ?_
          refine CW.ret ?_
          exact Post.tup (by decide) (RVs.c (RV.c (f := fun e => (Keep.c e).map .r) (e' := k) rfl rfl rfl rfl (DT.r (DT.r DT.e)) (by rw [perfS_gap hpf h13 hat h28] <;> rfl)) (RVs.c (RV.s rfl (by rw [perfS_gap hpf h13 hat h28] <;> rfl)) (RVs.c (RV.b rfl (by rw [perfS_gap hpf h13 hat h28] <;> rfl)) RVs.e))) (AOs.a rfl (AOs.r (AOs.a rfl AOs.e)))
         ·skip
          refine CW.skip ?_
          refine CW.keep 120 [1,3,5,6,11] rfl ?_;(conv=>whnf);refine ⟨?_⟩
          refine CW.seq ?_
          refine CW.region ?_
          refine RW.k XK 120 1 rfl ?_
          (conv=>whnf);refine ⟨rfl,?_⟩
          refine RW.call rfl (spec_l15Copy_fn k hok) rfl (.cons (.agg (.cons (.r .r) (.cons (.r .r) (.nil)))) (.nil)) fun g30 => ?_
          refine RW.k XK 120 2 rfl ?_
          (conv=>whnf);intro b31;(conv=>whnf);refine ⟨rfl,?_⟩
          refine RW.keep 120 [1,5,6,11,14,101] rfl ?_;(conv=>whnf);refine ⟨?_⟩
          refine RW.pullA (k := 14) (l := 101) (j := 0) 14 101 0 rfl rfl rfl (by decide) rfl rfl rfl rfl ?_
          refine RW.keep 120 [1,5,6,11,14,101] rfl ?_;(conv=>whnf);refine ⟨?_⟩
          refine RW.pullA (k := 14) (l := 101) (j := 1) 14 101 1 rfl rfl rfl (by decide) rfl rfl rfl rfl ?_
          refine RW.keep 120 [1,5,6,11,14] rfl ?_;(conv=>whnf);refine ⟨?_⟩
          refine RW.nil ?_
          refine CW.keep 120 [1,5,6,11,14] rfl ?_;(conv=>whnf);refine ⟨?_⟩
          refine CW.seq ?_
          refine CW.region ?_
          refine RW.k XK 120 2 rfl ?_
          (conv=>whnf);refine ⟨rfl,?_⟩
          refine RW.callW (k := 14) (spec_l15Do_fn k n x hok hpf.k hpf.n) rfl rfl (Nat.le_of_ble_eq_true rfl) (by decide) (.here (AsW.ob (DT.w (DT.w DT.e)) rfl) (.cons (.one (.r .r)) (.cons (.agg (.cons (.r .r) (.cons (.r .r) (.cons (.r .r) (.cons (.r .r) (.cons (.r .r) (.cons (.r .r) (.nil)))))))) (.nil)))) rfl fun g32 q33 => ?_
          refine RW.k XK 120 1 rfl ?_
          (conv=>whnf);refine ⟨rfl,?_⟩
          refine RW.nil ?_
          refine CW.keep 120 [5,6,11,14,15] rfl ?_;(conv=>whnf);refine ⟨?_⟩
          refine CW.seq ?_
          refine CW.region ?_
          refine RW.k XK 120 5 rfl ?_
          (conv=>whnf);refine ⟨rfl,?_⟩
          refine RW.swapO 106 14 0 (by decide) rfl rfl rfl ?_
          refine RW.v rfl (V.indexW rfl rfl rfl rfl rfl rfl rfl (by have hm := (List.getElem?_eq_some_iff.1 hat.fs).1; first | exact hm | (rw [do_sess]; exact hm) | (rw [List.length_set]; exact hm) | (rw [List.length_set, do_sess]; exact hm))) ?_
          refine RW.k XK 120 1 rfl ?_
          (conv=>whnf);refine ⟨rfl,?_⟩
          refine RW.storeF (m := m) (off := 1) (v := es) (v' := (⟨es.token, x.seq, es.reply⟩ : Session)) (u := .v (.int .i64 x.seq)) (c := Session.c) rfl rfl rfl rfl rfl rfl rfl (.inl rfl) Session.len (by first | exact hat.fs | (rw [do_sess]; exact hat.fs)) (by decide) rfl rfl ?_
          refine RW.pullN (k := 14) (l := 106) (j := 0) 14 106 0 rfl rfl rfl (by decide) rfl rfl rfl (by simp) ?_
          refine RW.nil ?_
          refine CW.keep 120 [6,11,14,15] rfl ?_;(conv=>whnf);refine ⟨?_⟩
          refine CW.seq ?_
          refine CW.region ?_
          refine RW.k XK 120 4 rfl ?_
          (conv=>whnf);refine ⟨rfl,?_⟩
          refine RW.swapO 113 14 0 (by decide) rfl rfl rfl ?_
          refine RW.v rfl (V.indexW rfl rfl rfl rfl rfl rfl rfl (by have hm := (List.getElem?_eq_some_iff.1 hat.fs).1; first | exact hm | (rw [do_sess]; exact hm) | (rw [List.length_set]; exact hm) | (rw [List.length_set, do_sess]; exact hm))) ?_
          refine RW.k XK 120 1 rfl ?_
          (conv=>whnf);refine ⟨rfl,?_⟩
          refine RW.storeF (m := m) (off := 2) (v := (⟨es.token, x.seq, es.reply⟩ : Session)) (v' := (⟨(⟨es.token, x.seq, es.reply⟩ : Session).token, (⟨es.token, x.seq, es.reply⟩ : Session).last, ((doK k n x).2)⟩ : Session)) (u := .v (.string ((doK k n x).2))) (c := Session.c) rfl rfl rfl rfl rfl rfl rfl (.inl rfl) Session.len (List.getElem?_set_self (by have hm := (List.getElem?_eq_some_iff.1 hat.fs).1; first | exact hm | (rw [do_sess]; exact hm))) (by decide) rfl rfl ?_
          refine RW.pullN (k := 14) (l := 113) (j := 0) 14 113 0 rfl rfl rfl (by decide) rfl rfl rfl (by simp) ?_
          refine RW.nil ?_
          refine CW.keep 120 [6,14,15] rfl ?_;(conv=>whnf);refine ⟨?_⟩
          refine CW.seq ?_
          refine CW.region ?_
          refine RW.k XK 120 3 rfl ?_
          (conv=>whnf);refine ⟨rfl,?_⟩
          refine RW.keep 120 [6,14,119] rfl ?_;(conv=>whnf);refine ⟨?_⟩
          refine RW.pullO (k := 6) (l := 14) (j := 0) 6 14 0 rfl rfl rfl (by decide) rfl rfl rfl rfl ?_
          refine RW.keep 120 [6,14,119] rfl ?_;(conv=>whnf);refine ⟨?_⟩
          refine RW.pullO (k := 6) (l := 14) (j := 1) 6 14 1 rfl rfl rfl (by decide) rfl rfl rfl rfl ?_
          refine RW.keep 120 [6,119] rfl ?_;(conv=>whnf);refine ⟨?_⟩
          refine RW.k XK 120 2 rfl ?_
          (conv=>whnf);refine ⟨rfl,?_⟩
          refine RW.nil ?_
          refine CW.keep 120 [6,7,8] rfl ?_;(conv=>whnf);refine ⟨?_⟩
          refine CW.freeze 6 (d' := .obj b3 [.r (sl 3 Session.c (((((doK k n x).1).sessions).set m (⟨es.token, x.seq, es.reply⟩ : Session)).set m (⟨(⟨es.token, x.seq, es.reply⟩ : Session).token, (⟨es.token, x.seq, es.reply⟩ : Session).last, ((doK k n x).2)⟩ : Session))), .r (sl 3 Item.c (((doK k n x).1).items))]) rfl rfl ?_
          refine CW.ret ?_
          exact Post.tup (by decide) (RVs.c (RV.c (f := fun e => (Keep.c e).map .r) (e' := (⟨(((((doK k n x).1).sessions).set m (⟨es.token, x.seq, es.reply⟩ : Session)).set m (⟨(⟨es.token, x.seq, es.reply⟩ : Session).token, (⟨es.token, x.seq, es.reply⟩ : Session).last, ((doK k n x).2)⟩ : Session)), ((doK k n x).1).items⟩ : Keep)) rfl rfl rfl rfl (DT.r (DT.r DT.e)) (by rw [perfS_do hpf h13 hat (hv23.symm.trans h24) h26 h28]; simp [do_sess, List.set_set])) (RVs.c (RV.s rfl (by rw [perfS_do hpf h13 hat (hv23.symm.trans h24) h26 h28] <;> rfl)) (RVs.c (RV.b rfl (by rw [perfS_do hpf h13 hat (hv23.symm.trans h24) h26 h28] <;> rfl)) RVs.e))) (AOs.a rfl (AOs.r (AOs.a rfl AOs.e)))
set_option maxHeartbeats 4000000 in
theorem laws_big_fn (c : List Int) : Eng.Fn E.P 14 [.one (.r (sl 1 cU c))] (.one (.one (.w (.v (.bool (decide ((c.length : Int) > 1048576))))))) [.one (.r (sl 1 cU c))] := by
 refine Eng.Fn.intro (E := E) (rvs := [.tmp 2]) Tryd.func14 rfl rfl rfl (by simp [outSlots, moved, rvSlot, sl]) ?_
 intro B g bo
 refine CW.bound (x := .tmp 0) (n := c.length) (AsT.r) (fun hl0 => ?_)
 refine CW.keep 6 [0] rfl ?_;(conv=>whnf);refine ⟨?_⟩
 refine CW.k XK 6 2 [2] rfl ?_
 (conv=>whnf);refine ⟨rfl,?_⟩
 refine CW.ret ?_
 exact Post.one (RV.b rfl (by rfl)) (AOs.r AOs.e)
set_option maxHeartbeats 4000000 in
theorem spec_l01New_fn (code : List Int) : Eng.Fn E.P 43 [.one (.r (sl 1 cU code))] (.one (.ob ((l01Cur.c (cur0 code)).map .r))) [.one (.r (sl 1 cU code))] := by
 refine Eng.Fn.intro (E := E) (rvs := [.tmp 2]) Tryd.func43 rfl rfl rfl (by simp [outSlots, moved, rvSlot, sl]) ?_
 intro B g bo
 refine CW.bound (x := .tmp 0) (n := code.length) (AsT.r) (fun hl0 => ?_)
 refine CW.keep 32 [0] rfl ?_;(conv=>whnf);refine ⟨?_⟩
 refine CW.k XK 32 2 [0,3] rfl ?_
 (conv=>whnf);refine ⟨rfl,?_⟩
 refine CW.seq ?_
 refine CW.k XK 32 1 [0,3,4] rfl ?_
 (conv=>whnf);refine ⟨rfl,?_⟩
 refine CW.block ?_
 refine CW.loopI 32 (fun (zz : Nat × Int) => match zz with | (i, h) => [(0, .r (sl 1 cU code)), (3, I h), (4, I (i : Int))]) (fun (zz : Nat × Int) => match zz with | (i, h) => i ≤ code.length ∧ i ≤ 4000 ∧ h = (code.take i).foldl hashStep (IntKind.i64.wrap (37401 + (code.length : Int)))) (fun (zz : Nat × Int) => match zz with | (i, h) => code.length - i) (0, _) rfl (Le.c rfl <| Le.c rfl <| Le.c rfl <| Le.e) ⟨by omega, by omega, rfl⟩ ?_
 rintro ⟨i, h⟩ ⟨hb, hq4, hh⟩
 refine CW.seq ?_
 refine CW.seqJ 32 (fun (v1 : Bool) => [(0, .r (sl 1 cU code)), (3, I h), (4, I (i : Int)), (15, Bo v1)]) (fun v1 => v1 = (decide ((i : Int) < (code.length : Int)) && decide ((i : Int) < 4000))) ?_ ?_
 ·refine CW.region ?_
  refine RW.k XK 32 5 rfl ?_
  (conv=>whnf);refine ⟨rfl,?_⟩
  refine RW.gv rfl rfl rfl rfl (fun h2 => V.mv (d := I (i : Int)) rfl rfl) (fun h2 => ?_) (fun h2 => ?_)
  ·skip
   refine RW.k XK 32 2 rfl ?_
   (conv=>whnf);refine ⟨rfl,?_⟩
   refine RW.nil ?_
   exact ⟨_, by first | (simp_all; done) | grind, rfl, Le.of rfl⟩
  ·skip
   refine RW.k XK 32 2 rfl ?_
   (conv=>whnf);refine ⟨rfl,?_⟩
   refine RW.nil ?_
   exact ⟨_, by first | (simp_all; done) | grind, rfl, Le.of rfl⟩
 ·intro v1 hv3
  refine CW.cond rfl (fun h4 => ?_) (fun h4 => ?_)
  ·skip
   have hii : i < code.length := by simp_all
   have hi4 : i < 4000 := by simp [hv3] at h4; omega
   obtain ⟨ei, hei⟩ : ∃ e, code[i]? = some e := ⟨_, List.getElem?_eq_getElem hii⟩
   refine CW.skip ?_
   refine CW.keep 32 [0,3,4] rfl ?_;(conv=>whnf);refine ⟨?_⟩
   refine CW.seq ?_
   refine CW.block ?_
   refine CW.region ?_
   refine RW.k XK 32 4 rfl ?_
   (conv=>whnf);refine ⟨rfl,?_⟩
   refine RW.v rfl (V.indexS rfl rfl rfl rfl rfl rfl cU.len hei) ?_
   refine RW.k XK 32 6 rfl ?_
   (conv=>whnf);refine ⟨rfl,?_⟩
   refine RW.nil ?_
   refine CW.keep 32 [0,3,4] rfl ?_;(conv=>whnf);refine ⟨?_⟩
   refine CW.region ?_
   refine RW.k XK 32 1 rfl ?_
   (conv=>whnf);refine ⟨rfl,?_⟩
   refine RW.v rfl (V.inc rfl rfl rfl hii hl0) ?_
   refine RW.k XK 32 1 rfl ?_
   (conv=>whnf);refine ⟨rfl,?_⟩
   refine RW.nil ?_
   exact ⟨(i + 1, _), by simp only []; omega, ⟨by omega, by omega, by rw [take_snoc hei, List.foldl_append, hh]; rfl⟩, rfl, Le.c rfl <| Le.c rfl <| Le.c rfl <| Le.e⟩
  ·skip
   have h4x : i < code.length → 4000 ≤ i := by intro hq; simp [hv3, hq] at h4; omega
   refine CW.exit ?_
   refine CW.keep 32 [0,3] rfl ?_;(conv=>whnf);refine ⟨?_⟩
   refine CW.k XK 32 1 [2,31] rfl ?_
   (conv=>whnf);intro b5;(conv=>whnf);refine ⟨rfl,?_⟩
   refine CW.pullP 2 31 (by decide) rfl rfl ?_
   refine CW.ret ?_
   exact Post.one (RV.p (f := fun e => (l01Cur.c e).map .r) (e' := (⟨code, 0, h⟩ : l01Cur)) rfl (DT.r (DT.r (DT.r DT.e))) (by rw [hh]; exact congrArg (fun l => (⟨code, 0, List.foldl hashStep _ l⟩ : l01Cur)) (take_min hb hq4 h4x))) (AOs.r AOs.e)
set_option maxHeartbeats 4000000 in
theorem spec_l01Byte_fn (c : l01Cur) (hc : curOk c) : Eng.Fn E.P 51 [.ob ((l01Cur.c c).map .r)] (.one (.one (.w (.v (.int .i64 ((byteN c).1)))))) [.ob ((l01Cur.c ((byteN c).2)).map .r)] := by
 refine Eng.Fn.intro (E := E) (rvs := [.tmp 2]) Tryd.func51 rfl rfl rfl (by simp [outSlots, moved, rvSlot, sl]) ?_
 intro B g bo
 refine CW.keep 58 [0] rfl ?_;(conv=>whnf);refine ⟨?_⟩
 obtain ⟨hc0, hc1, hc2⟩ := hc
 refine CW.k XK 58 2 [0] rfl ?_
 (conv=>whnf);refine ⟨rfl,?_⟩
 refine CW.seq ?_
 refine CW.drawn (by kernel_rfl) ?_
 refine RQ.k XK 58 13 rfl ?_
 (conv=>whnf);refine ⟨rfl,?_⟩
 refine RQ.nil ?_
 refine CW.keep 58 [0,3] rfl ?_;(conv=>whnf);refine ⟨?_⟩
 refine CW.seq ?_
 refine CW.seq ?_
 refine CW.drawn (by kernel_rfl) ?_
 refine RQ.k XK 58 10 rfl ?_
 (conv=>whnf);refine ⟨rfl,?_⟩
 refine RQ.nil ?_
 refine CW.keep 58 [0,3,34] rfl ?_;(conv=>whnf);refine ⟨?_⟩
 refine CW.cond rfl (fun h1 => ?_) (fun h1 => ?_)
 ·skip
  have hlt : c.i < (c.b.length : Int) := by simpa using h1
  refine CW.seq ?_
  refine CW.drawn (by kernel_rfl) ?_
  refine RQ.k XK 58 9 rfl ?_
  (conv=>whnf);refine ⟨rfl,?_⟩
  refine RQ.v rfl (V.indexZ (m := c.i.toNat) (v := (c.b.getD c.i.toNat 0)) rfl rfl rfl rfl rfl rfl (by omega) cU.len (getD_some (by omega))) ?_
  refine RQ.k XK 58 5 rfl ?_
  (conv=>whnf);refine ⟨rfl,?_⟩
  refine RQ.nil ?_
  refine CW.keep 58 [0,3] rfl ?_;(conv=>whnf);refine ⟨?_⟩
  refine CW.region ?_
  refine RW.k XK 58 9 rfl ?_
  (conv=>whnf);refine ⟨rfl,?_⟩
  refine RW.nil ?_
  refine CW.keep 58 [0,3] rfl ?_;(conv=>whnf);refine ⟨?_⟩
  refine CW.k XK 58 1 [0,2] rfl ?_
  (conv=>whnf);refine ⟨rfl,?_⟩
  refine CW.ret ?_
  exact Post.one (RV.i rfl (by unfold byteN; first | (rw [if_pos (by simpa using h1)]; rfl) | (rw [if_neg (by simpa using h1)]; rfl))) (AOs.obE (f := fun e => (l01Cur.c e).map .r) (e' := (⟨c.b, (IntKind.i64.wrap (c.i + 1)), (IntKind.i64.wrap ((IntKind.i64.wrap (c.h * 6364136223846793005)) + 1442695040888963407))⟩ : l01Cur)) rfl (DT.r (DT.r (DT.r DT.e))) (by unfold byteN; first | (rw [if_pos (by simpa using h1)]; rfl) | (rw [if_neg (by simpa using h1)]; rfl)) AOs.e)
 ·skip
  refine CW.skip ?_
  refine CW.keep 58 [0,3] rfl ?_;(conv=>whnf);refine ⟨?_⟩
  refine CW.k XK 58 1 [0,2] rfl ?_
  (conv=>whnf);refine ⟨rfl,?_⟩
  refine CW.ret ?_
  exact Post.one (RV.i rfl (by unfold byteN; first | (rw [if_pos (by simpa using h1)]; rfl) | (rw [if_neg (by simpa using h1)]; rfl))) (AOs.obE (f := fun e => (l01Cur.c e).map .r) (e' := (⟨c.b, c.i, (IntKind.i64.wrap ((IntKind.i64.wrap (c.h * 6364136223846793005)) + 1442695040888963407))⟩ : l01Cur)) rfl (DT.r (DT.r (DT.r DT.e))) (by unfold byteN; first | (rw [if_pos (by simpa using h1)]; rfl) | (rw [if_neg (by simpa using h1)]; rfl)) AOs.e)
set_option maxHeartbeats 4000000 in
theorem spec_l01Below_fn (c : l01Cur) (n : Int) (hc : curOk c) : Eng.Fn E.P 52 [.ob ((l01Cur.c c).map .r), .one (.r (.v (.int .i64 n)))] (.one (.one (.w (.v (.int .i64 ((belowN c n).1)))))) [.ob ((l01Cur.c ((belowN c n).2)).map .r), .one (.r (.v (.int .i64 n)))] := by
 refine Eng.Fn.intro (E := E) (rvs := [.tmp 4]) Tryd.func52 rfl rfl rfl (by simp [outSlots, moved, rvSlot, sl]) ?_
 intro B g bo
 refine CW.keep 37 [0,1] rfl ?_;(conv=>whnf);refine ⟨?_⟩
 refine CW.k XK 37 1 [0,1] rfl ?_
 (conv=>whnf);refine ⟨rfl,?_⟩
 refine CW.seq ?_
 refine CW.k XK 37 1 [0,1,10] rfl ?_
 (conv=>whnf);refine ⟨rfl,?_⟩
 refine CW.cond rfl (fun h1 => ?_) (fun h1 => ?_)
 ·skip
  refine CW.k XK 37 1 [0,4] rfl ?_
  (conv=>whnf);refine ⟨rfl,?_⟩
  refine CW.ret ?_
  exact Post.one (RV.i rfl (by unfold belowN; simp at h1; first | (rw [if_pos h1]; done) | (rw [if_neg (by omega)]; simp at h2; first | (rw [if_pos h2]; done) | (rw [if_neg (by omega)]; done)))) (AOs.obE (f := fun e => (l01Cur.c e).map .r) (e' := c) rfl (DT.r (DT.r (DT.r DT.e))) (by unfold belowN; simp at h1; first | (rw [if_pos h1]; done) | (rw [if_neg (by omega)]; simp at h2; first | (rw [if_pos h2]; done) | (rw [if_neg (by omega)]; done))) (AOs.r AOs.e))
 ·skip
  refine CW.skip ?_
  refine CW.keep 37 [0,1] rfl ?_;(conv=>whnf);refine ⟨?_⟩
  refine CW.seq ?_
  refine CW.k XK 37 1 [0,1,12] rfl ?_
  (conv=>whnf);refine ⟨rfl,?_⟩
  refine CW.cond rfl (fun h2 => ?_) (fun h2 => ?_)
  ·skip
   refine CW.seq ?_
   refine CW.region ?_
   refine RW.k XK 37 1 rfl ?_
   (conv=>whnf);refine ⟨rfl,?_⟩
   refine RW.callP (k := 0) (spec_l01Byte_fn c hc) rfl rfl (Nat.le_of_ble_eq_true rfl) (by decide) rfl (DT.r (DT.r (DT.r DT.e))) (AsPs.here rfl (.nil)) fun g3 q4 => ?_
   refine RW.k XK 37 1 rfl ?_
   (conv=>whnf);refine ⟨rfl,?_⟩
   refine RW.v rfl (V.rem rfl rfl rfl (by simp at h1; omega)) ?_
   refine RW.k XK 37 1 rfl ?_
   (conv=>whnf);refine ⟨rfl,?_⟩
   refine RW.nil ?_
   refine CW.keep 37 [0,4] rfl ?_;(conv=>whnf);refine ⟨?_⟩
   refine CW.ret ?_
   exact Post.one (RV.i rfl (by unfold belowN; simp at h1; first | (rw [if_pos h1]; done) | (rw [if_neg (by omega)]; simp at h2; first | (rw [if_pos h2]; done) | (rw [if_neg (by omega)]; done)))) (AOs.obE (f := fun e => (l01Cur.c e).map .r) (e' := ((byteN c).2)) rfl (DT.r (DT.r (DT.r DT.e))) (by unfold belowN; simp at h1; first | (rw [if_pos h1]; done) | (rw [if_neg (by omega)]; simp at h2; first | (rw [if_pos h2]; done) | (rw [if_neg (by omega)]; done))) (AOs.r AOs.e))
  ·skip
   refine CW.skip ?_
   refine CW.keep 37 [0,1] rfl ?_;(conv=>whnf);refine ⟨?_⟩
   refine CW.seq ?_
   refine CW.region ?_
   refine RW.k XK 37 1 rfl ?_
   (conv=>whnf);refine ⟨rfl,?_⟩
   refine RW.callP (k := 0) (spec_l01Byte_fn c hc) rfl rfl (Nat.le_of_ble_eq_true rfl) (by decide) rfl (DT.r (DT.r (DT.r DT.e))) (AsPs.here rfl (.nil)) fun g5 q6 => ?_
   refine RW.k XK 37 1 rfl ?_
   (conv=>whnf);refine ⟨rfl,?_⟩
   refine RW.nil ?_
   refine CW.keep 37 [0,1,5] rfl ?_;(conv=>whnf);refine ⟨?_⟩
   refine CW.seq ?_
   refine CW.region ?_
   refine RW.k XK 37 1 rfl ?_
   (conv=>whnf);refine ⟨rfl,?_⟩
   refine RW.callP (k := 0) (spec_l01Byte_fn ((byteN c).2) (byteN_ok hc)) rfl rfl (Nat.le_of_ble_eq_true rfl) (by decide) rfl (DT.r (DT.r (DT.r DT.e))) (AsPs.here rfl (.nil)) fun g7 q8 => ?_
   refine RW.k XK 37 1 rfl ?_
   (conv=>whnf);refine ⟨rfl,?_⟩
   refine RW.nil ?_
   refine CW.keep 37 [0,1,5,6] rfl ?_;(conv=>whnf);refine ⟨?_⟩
   refine CW.seq ?_
   refine CW.region ?_
   refine RW.k XK 37 1 rfl ?_
   (conv=>whnf);refine ⟨rfl,?_⟩
   refine RW.callP (k := 0) (spec_l01Byte_fn ((byteN ((byteN c).2)).2) (byteN_ok (byteN_ok hc))) rfl rfl (Nat.le_of_ble_eq_true rfl) (by decide) rfl (DT.r (DT.r (DT.r DT.e))) (AsPs.here rfl (.nil)) fun g9 q10 => ?_
   refine RW.k XK 37 1 rfl ?_
   (conv=>whnf);refine ⟨rfl,?_⟩
   refine RW.nil ?_
   refine CW.keep 37 [0,1,5,6,7] rfl ?_;(conv=>whnf);refine ⟨?_⟩
   refine CW.seq ?_
   refine CW.region ?_
   refine RW.k XK 37 1 rfl ?_
   (conv=>whnf);refine ⟨rfl,?_⟩
   refine RW.callP (k := 0) (spec_l01Byte_fn ((byteN ((byteN ((byteN c).2)).2)).2) (byteN_ok (byteN_ok (byteN_ok hc)))) rfl rfl (Nat.le_of_ble_eq_true rfl) (by decide) rfl (DT.r (DT.r (DT.r DT.e))) (AsPs.here rfl (.nil)) fun g11 q12 => ?_
   refine RW.k XK 37 1 rfl ?_
   (conv=>whnf);refine ⟨rfl,?_⟩
   refine RW.nil ?_
   refine CW.keep 37 [0,1,5,6,7,8] rfl ?_;(conv=>whnf);refine ⟨?_⟩
   refine CW.seq ?_
   refine CW.region ?_
   refine RW.k XK 37 11 rfl ?_
   (conv=>whnf);refine ⟨rfl,?_⟩
   refine RW.v rfl (V.rem rfl rfl rfl (by simp at h1; omega)) ?_
   refine RW.k XK 37 1 rfl ?_
   (conv=>whnf);refine ⟨rfl,?_⟩
   refine RW.nil ?_
   refine CW.keep 37 [0,4] rfl ?_;(conv=>whnf);refine ⟨?_⟩
   refine CW.ret ?_
   exact Post.one (RV.i rfl (by unfold belowN; simp at h1; first | (rw [if_pos h1]; done) | (rw [if_neg (by omega)]; simp at h2; first | (rw [if_pos h2]; done) | (rw [if_neg (by omega)]; done)))) (AOs.obE (f := fun e => (l01Cur.c e).map .r) (e' := ((byteN ((byteN ((byteN ((byteN c).2)).2)).2)).2)) rfl (DT.r (DT.r (DT.r DT.e))) (by unfold belowN; simp at h1; first | (rw [if_pos h1]; done) | (rw [if_neg (by omega)]; simp at h2; first | (rw [if_pos h2]; done) | (rw [if_neg (by omega)]; done))) (AOs.r AOs.e))
set_option maxHeartbeats 4000000 in
theorem spec_l01Once_fn (c : l01Cur) (n : Int) (hc : curOk c) : Eng.Fn E.P 65 [.ob ((l01Cur.c c).map .r), .one (.r (.v (.int .i64 n)))] (.one (.one (.w (.v (.bool ((onceN c n).1)))))) [.ob ((l01Cur.c ((onceN c n).2)).map .r), .one (.r (.v (.int .i64 n)))] := by
 refine Eng.Fn.intro (E := E) (rvs := [.tmp 4]) Tryd.func65 rfl rfl rfl (by simp [outSlots, moved, rvSlot, sl]) ?_
 intro B g bo
 refine CW.keep 9 [0,1] rfl ?_;(conv=>whnf);refine ⟨?_⟩
 refine CW.k XK 9 1 [0,1] rfl ?_
 (conv=>whnf);refine ⟨rfl,?_⟩
 refine CW.seq ?_
 refine CW.region ?_
 refine RW.k XK 9 2 rfl ?_
 (conv=>whnf);refine ⟨rfl,?_⟩
 refine RW.callP (k := 0) (spec_l01Below_fn c n hc) rfl rfl (Nat.le_of_ble_eq_true rfl) (by decide) rfl (DT.r (DT.r (DT.r DT.e))) (AsPs.here rfl (.cons (.one (.r .r)) (.nil))) fun g1 q2 => ?_
 refine RW.k XK 9 2 rfl ?_
 (conv=>whnf);refine ⟨rfl,?_⟩
 refine RW.nil ?_
 refine CW.keep 9 [0,4] rfl ?_;(conv=>whnf);refine ⟨?_⟩
 refine CW.ret ?_
 exact Post.one (RV.b rfl (by rfl)) (AOs.obE (f := fun e => (l01Cur.c e).map .r) (e' := ((belowN c n).2)) rfl (DT.r (DT.r (DT.r DT.e))) (by rfl) (AOs.r AOs.e))
set_option maxHeartbeats 4000000 in
theorem spec_l01PickInt_fn (c : l01Cur) (l : List Int) (hc : curOk c) (hl : 0 < l.length) : Eng.Fn E.P 66 [.ob ((l01Cur.c c).map .r), .one (.r (sl 1 cI l))] (.one (.one (.w (.v (.int .i64 ((pickI c l).1)))))) [.ob ((l01Cur.c ((pickI c l).2)).map .r), .one (.r (sl 1 cI l))] := by
 refine Eng.Fn.intro (E := E) (rvs := [.tmp 4]) Tryd.func66 rfl rfl rfl (by simp [outSlots, moved, rvSlot, sl]) ?_
 intro B g bo
 refine CW.bound (x := .tmp 1) (n := l.length) (AsT.r) (fun hl1 => ?_)
 refine CW.keep 12 [0,1] rfl ?_;(conv=>whnf);refine ⟨?_⟩
 have hbi := belowN_in c (n := (l.length : Int)) (by omega)
 refine CW.k XK 12 1 [0,1] rfl ?_
 (conv=>whnf);refine ⟨rfl,?_⟩
 refine CW.seq ?_
 refine CW.region ?_
 refine RW.k XK 12 4 rfl ?_
 (conv=>whnf);refine ⟨rfl,?_⟩
 refine RW.callP (k := 0) (spec_l01Below_fn c (l.length : Int) hc) rfl rfl (Nat.le_of_ble_eq_true rfl) (by decide) rfl (DT.r (DT.r (DT.r DT.e))) (AsPs.here rfl (.cons (.one (.r .r)) (.nil))) fun g1 q2 => ?_
 refine RW.v rfl (V.indexZ (m := (belowN c (l.length : Int)).1.toNat) (v := (l.getD (belowN c (l.length : Int)).1.toNat 0)) rfl rfl rfl rfl rfl rfl (by omega) cI.len (getD_some (by omega))) ?_
 refine RW.k XK 12 2 rfl ?_
 (conv=>whnf);refine ⟨rfl,?_⟩
 refine RW.nil ?_
 refine CW.keep 12 [0,4] rfl ?_;(conv=>whnf);refine ⟨?_⟩
 refine CW.ret ?_
 exact Post.one (RV.i rfl (by rfl)) (AOs.obE (f := fun e => (l01Cur.c e).map .r) (e' := ((belowN c (l.length : Int)).2)) rfl (DT.r (DT.r (DT.r DT.e))) (by rfl) (AOs.r AOs.e))
set_option maxHeartbeats 4000000 in
theorem spec_l01Pick_fn (c : l01Cur) (l : List ByteArray) (hc : curOk c) (hl : 0 < l.length) : Eng.Fn E.P 94 [.ob ((l01Cur.c c).map .r), .one (.r (sl 1 cS l))] (.one (.one (.w (.v (.string ((pickS c l).1)))))) [.ob ((l01Cur.c ((pickS c l).2)).map .r), .one (.r (sl 1 cS l))] := by
 refine Eng.Fn.intro (E := E) (rvs := [.tmp 4]) Tryd.func94 rfl rfl rfl (by simp [outSlots, moved, rvSlot, sl]) ?_
 intro B g bo
 refine CW.bound (x := .tmp 1) (n := l.length) (AsT.r) (fun hl1 => ?_)
 refine CW.keep 12 [0,1] rfl ?_;(conv=>whnf);refine ⟨?_⟩
 have hbi := belowN_in c (n := (l.length : Int)) (by omega)
 refine CW.k XK 12 1 [0,1] rfl ?_
 (conv=>whnf);refine ⟨rfl,?_⟩
 refine CW.seq ?_
 refine CW.region ?_
 refine RW.k XK 12 4 rfl ?_
 (conv=>whnf);refine ⟨rfl,?_⟩
 refine RW.callP (k := 0) (spec_l01Below_fn c (l.length : Int) hc) rfl rfl (Nat.le_of_ble_eq_true rfl) (by decide) rfl (DT.r (DT.r (DT.r DT.e))) (AsPs.here rfl (.cons (.one (.r .r)) (.nil))) fun g1 q2 => ?_
 refine RW.v rfl (V.indexZ (m := (belowN c (l.length : Int)).1.toNat) (v := (l.getD (belowN c (l.length : Int)).1.toNat ⟨#[]⟩)) rfl rfl rfl rfl rfl rfl (by omega) cS.len (getD_some (by omega))) ?_
 refine RW.k XK 12 2 rfl ?_
 (conv=>whnf);refine ⟨rfl,?_⟩
 refine RW.nil ?_
 refine CW.keep 12 [0,4] rfl ?_;(conv=>whnf);refine ⟨?_⟩
 refine CW.ret ?_
 exact Post.one (RV.s rfl (by rfl)) (AOs.obE (f := fun e => (l01Cur.c e).map .r) (e' := ((belowN c (l.length : Int)).2)) rfl (DT.r (DT.r (DT.r DT.e))) (by rfl) (AOs.r AOs.e))
set_option maxHeartbeats 4000000 in
theorem impl_KeepNew_fn  : Eng.Fn E.P 16 [] (.one (.agg ((Keep.c keepNew).map .w))) [] := by
 refine Eng.Fn.intro (E := E) (rvs := [.cell 0 31]) Tryd.func16 rfl rfl rfl (by simp [outSlots, moved, rvSlot, sl]) ?_
 intro B g bo
 refine CW.keep 4 [] rfl ?_;(conv=>whnf);refine ⟨?_⟩
 refine CW.k XK 4 1 [0] rfl ?_
 (conv=>whnf);intro b1;(conv=>whnf);refine ⟨rfl,?_⟩
 refine CW.seq ?_
 refine CW.region ?_
 refine RW.k XK 4 1 rfl ?_
 (conv=>whnf);refine ⟨rfl,?_⟩
 refine RW.build1 (c := Item.c) (v := (⟨(⟨#[114, 111, 111, 116]⟩ : ByteArray), ⟨#[]⟩, 1⟩ : Item)) rfl rfl rfl rfl rfl rfl (DW.v (DW.v (DW.v DW.e))) Item.len (by decide) (by decide) fun X2 => ?_
 refine RW.k XK 4 2 rfl ?_
 (conv=>whnf);refine ⟨rfl,?_⟩
 refine RW.keep 4 [0,2] rfl ?_;(conv=>whnf);refine ⟨?_⟩
 refine RW.pullT (k := 0) (l := 2) (j := 1) 0 2 1 rfl rfl rfl (by decide) rfl rfl rfl ?_
 refine RW.keep 4 [0] rfl ?_;(conv=>whnf);refine ⟨?_⟩
 refine RW.nil ?_
 refine CW.keep 4 [0] rfl ?_;(conv=>whnf);refine ⟨?_⟩
 refine CW.ret ?_
 exact Post.one (RV.c (f := fun e => (Keep.c e).map .w) (e' := (⟨[], [(⟨(⟨#[114, 111, 111, 116]⟩ : ByteArray), ⟨#[]⟩, 1⟩ : Item)]⟩ : Keep)) rfl rfl rfl rfl (DT.n (DT.w DT.e)) (by rfl)) AOs.e
set_option maxHeartbeats 4000000 in
theorem spec_KeepNew_fn  : Eng.Fn E.P 78 [] (.one (.agg ((Keep.c keepNew).map .w))) [] := by
 refine Eng.Fn.intro (E := E) (rvs := [.cell 0 31]) Tryd.func78 rfl rfl rfl (by simp [outSlots, moved, rvSlot, sl]) ?_
 intro B g bo
 refine CW.keep 4 [] rfl ?_;(conv=>whnf);refine ⟨?_⟩
 refine CW.k XK 4 1 [0] rfl ?_
 (conv=>whnf);intro b1;(conv=>whnf);refine ⟨rfl,?_⟩
 refine CW.seq ?_
 refine CW.region ?_
 refine RW.k XK 4 1 rfl ?_
 (conv=>whnf);refine ⟨rfl,?_⟩
 refine RW.build1 (c := Item.c) (v := (⟨(⟨#[114, 111, 111, 116]⟩ : ByteArray), ⟨#[]⟩, 1⟩ : Item)) rfl rfl rfl rfl rfl rfl (DW.v (DW.v (DW.v DW.e))) Item.len (by decide) (by decide) fun X2 => ?_
 refine RW.k XK 4 2 rfl ?_
 (conv=>whnf);refine ⟨rfl,?_⟩
 refine RW.keep 4 [0,2] rfl ?_;(conv=>whnf);refine ⟨?_⟩
 refine RW.pullT (k := 0) (l := 2) (j := 1) 0 2 1 rfl rfl rfl (by decide) rfl rfl rfl ?_
 refine RW.keep 4 [0] rfl ?_;(conv=>whnf);refine ⟨?_⟩
 refine RW.nil ?_
 refine CW.keep 4 [0] rfl ?_;(conv=>whnf);refine ⟨?_⟩
 refine CW.ret ?_
 exact Post.one (RV.c (f := fun e => (Keep.c e).map .w) (e' := (⟨[], [(⟨(⟨#[114, 111, 111, 116]⟩ : ByteArray), ⟨#[]⟩, 1⟩ : Item)]⟩ : Keep)) rfl rfl rfl rfl (DT.n (DT.w DT.e)) (by rfl)) AOs.e
set_option maxHeartbeats 4000000 in
theorem spec_l15Size_fn (code : List Int) : Eng.Fn E.P 45 [.one (.r (sl 1 cU code))] (.one (.one (.w (.v (.int .i64 (talkSize code)))))) [.one (.r (sl 1 cU code))] := by
 refine Eng.Fn.intro (E := E) (rvs := [.tmp 2]) Tryd.func45 rfl rfl rfl (by simp [outSlots, moved, rvSlot, sl]) ?_
 intro B g bo
 refine CW.bound (x := .tmp 0) (n := code.length) (AsT.r) (fun hl0 => ?_)
 refine CW.keep 11 [0] rfl ?_;(conv=>whnf);refine ⟨?_⟩
 refine CW.k XK 11 2 [3] rfl ?_
 (conv=>whnf);refine ⟨rfl,?_⟩
 refine CW.seq ?_
 refine CW.k XK 11 1 [3,9] rfl ?_
 (conv=>whnf);refine ⟨rfl,?_⟩
 refine CW.cond rfl (fun h1 => ?_) (fun h1 => ?_)
 ·skip
  refine CW.k XK 11 1 [2] rfl ?_
  (conv=>whnf);refine ⟨rfl,?_⟩
  refine CW.ret ?_
  exact Post.one (RV.i rfl (by unfold talkSize; first | (rw [if_pos (by simpa using h1)]; done) | (rw [if_neg (by simpa using h1)]; done))) (AOs.r AOs.e)
 ·skip
  refine CW.skip ?_
  refine CW.keep 11 [3] rfl ?_;(conv=>whnf);refine ⟨?_⟩
  refine CW.k XK 11 1 [2] rfl ?_
  (conv=>whnf);refine ⟨rfl,?_⟩
  refine CW.ret ?_
  exact Post.one (RV.i rfl (by unfold talkSize; first | (rw [if_pos (by simpa using h1)]; done) | (rw [if_neg (by simpa using h1)]; done))) (AOs.r AOs.e)
set_option maxHeartbeats 4000000 in
theorem spec_l15Of_fn (c : l01Cur) (k : Keep) (hc : curOk c) (hok : okToKeep k) : Eng.Fn E.P 79 [.ob ((l01Cur.c c).map .r), .agg ((Keep.c k).map .r)] (.one (.agg ((Command.c ((ofN c k).1)).map .w))) [.ob ((l01Cur.c ((ofN c k).2)).map .r), .agg ((Keep.c k).map .r)] := by
 refine Eng.Fn.intro (E := E) (rvs := [.cell 4 38]) Tryd.func79 rfl rfl rfl (by simp [outSlots, moved, rvSlot, sl]) ?_
 intro B g bo
 refine CW.keep 51 [0,1] rfl ?_;(conv=>whnf);refine ⟨?_⟩
 refine CW.seq ?_
 refine CW.region ?_
 refine RW.k XK 51 1 rfl ?_
 (conv=>whnf);intro b1;(conv=>whnf);refine ⟨rfl,?_⟩
 refine RW.freezeB (ts := (Keep.c k)) 3 rfl (DRd.r (DRd.r DRd.e)) ?_
 refine RW.k XK 51 1 rfl ?_
 (conv=>whnf);intro b2;(conv=>whnf);refine ⟨rfl,?_⟩
 refine RW.nil ?_
 refine CW.keep 51 [0,3,4] rfl ?_;(conv=>whnf);refine ⟨?_⟩
 refine CW.seq ?_
 refine CW.region ?_
 refine RW.k XK 51 1 rfl ?_
 (conv=>whnf);refine ⟨rfl,?_⟩
 refine RW.buildK (c := cI) (L := ops) (vs := [(.int .i64 2), (.int .i64 2), (.int .i64 2), (.int .i64 3), (.int .i64 3), (.int .i64 4), (.int .i64 5), (.int .i64 5)]) rfl rfl rfl rfl rfl (fun _ => rfl) rfl rfl rfl (by decide) (by decide) rfl rfl fun X3 => ?_
 refine RW.freeze 9 (d' := .r (sl 1 cI ops)) rfl rfl ?_
 refine RW.callP (k := 0) (spec_l01PickInt_fn c ops hc (by decide)) rfl rfl (Nat.le_of_ble_eq_true rfl) (by decide) rfl (DT.r (DT.r (DT.r DT.e))) (AsPs.here rfl (.cons (.one (.r .r)) (.nil))) fun g4 q5 => ?_
 refine RW.k XK 51 1 rfl ?_
 (conv=>whnf);refine ⟨rfl,?_⟩
 refine RW.buildK (c := cS) (L := keys) (vs := [(.string (⟨#[97]⟩ : ByteArray)), (.string (⟨#[98]⟩ : ByteArray)), (.string (⟨#[99]⟩ : ByteArray)), (.string (⟨#[114, 111, 111, 116]⟩ : ByteArray)), (.string (⟨#[120, 49]⟩ : ByteArray))]) rfl rfl rfl rfl rfl (fun _ => rfl) rfl rfl rfl (by decide) (by decide) rfl rfl fun X6 => ?_
 refine RW.freeze 12 (d' := .r (sl 1 cS keys)) rfl rfl ?_
 refine RW.callP (k := 0) (spec_l01Pick_fn ((pickI c ops).2) keys (pickI_ok hc _) (by decide)) rfl rfl (Nat.le_of_ble_eq_true rfl) (by decide) rfl (DT.r (DT.r (DT.r DT.e))) (AsPs.here rfl (.cons (.one (.r .r)) (.nil))) fun g7 q8 => ?_
 refine RW.k XK 51 3 rfl ?_
 (conv=>whnf);intro b9;(conv=>whnf);refine ⟨rfl,?_⟩
 refine RW.nil ?_
 refine CW.keep 51 [0,3,4,5] rfl ?_;(conv=>whnf);refine ⟨?_⟩
 refine CW.seq ?_
 refine CW.region ?_
 refine RW.k XK 51 3 rfl ?_
 (conv=>whnf);refine ⟨rfl,?_⟩
 refine RW.call rfl (spec_ItemOf_fn k ((pickS ((pickI c ops).2) keys).1) hok) rfl (.cons (.agg (.cons (.r .r) (.cons (.r .r) (.nil)))) (.cons (.one (.r .r)) (.nil))) fun g10 => ?_
 refine RW.k XK 51 5 rfl ?_
 (conv=>whnf);intro b11;(conv=>whnf);refine ⟨rfl,?_⟩
 refine RW.freezeB (ts := (Item.c ((itemOf k ((pickS ((pickI c ops).2) keys).1)).1))) 6 rfl (DRd.r (DRd.r (DRd.r DRd.e))) ?_
 refine RW.k XK 51 1 rfl ?_
 (conv=>whnf);refine ⟨rfl,?_⟩
 refine RW.nil ?_
 refine CW.keep 51 [0,4,5,6,7] rfl ?_;(conv=>whnf);refine ⟨?_⟩
 refine CW.seq ?_
 refine CW.seqJ 51 (fun (v12 : Bool) => [(0, .obj (bo 0) ((l01Cur.c ((pickS ((pickI c ops).2) keys).2)).map .r)), (4, .obj b2 [I 0, I 0, I 0, S (⟨#[]⟩), S (⟨#[]⟩), I 0]), (5, .obj b9 [I ((pickI c ops).1), I 0, I 0, S ((pickS ((pickI c ops).2) keys).1), S (⟨#[]⟩), I 0]), (6, .rp (Item.c ((itemOf k ((pickS ((pickI c ops).2) keys).1)).1))), (7, Bo ((itemOf k ((pickS ((pickI c ops).2) keys).1)).2)), (29, Bo v12)]) (fun v12 => v12 = ((((pickI c ops).1) == 2) || (((pickI c ops).1) == 5))) ?_ ?_
 ·refine CW.region ?_
  refine RW.k XK 51 4 rfl ?_
  (conv=>whnf);refine ⟨rfl,?_⟩
  refine RW.gv rfl rfl rfl rfl (fun h13 => V.field rfl rfl rfl rfl (by decide) rfl) (fun h13 => ?_) (fun h13 => ?_)
  ·skip
   refine RW.k XK 51 3 rfl ?_
   (conv=>whnf);refine ⟨rfl,?_⟩
   refine RW.nil ?_
   exact ⟨_, by first | rfl | (simp_all; done) | (simp_all; omega) | grind, rfl, Le.of rfl⟩
  ·skip
   refine RW.k XK 51 3 rfl ?_
   (conv=>whnf);refine ⟨rfl,?_⟩
   refine RW.nil ?_
   exact ⟨_, by first | rfl | (simp_all; done) | (simp_all; omega) | grind, rfl, Le.of rfl⟩
 ·intro v12 hv14
  refine CW.joinS 51 (fun (z : ByteArray × l01Cur) => match z with | (va, d) => [(0, .obj (bo 0) ((l01Cur.c d).map .r)), (4, .obj b2 [I 0, I 0, I 0, S (⟨#[]⟩), S (⟨#[]⟩), I 0]), (5, .obj b9 [I ((pickI c ops).1), I 0, I 0, S ((pickS ((pickI c ops).2) keys).1), S va, I 0]), (6, .rp (Item.c ((itemOf k ((pickS ((pickI c ops).2) keys).1)).1))), (7, Bo ((itemOf k ((pickS ((pickI c ops).2) keys).1)).2))]) (fun (z : ByteArray × l01Cur) => match z with | (va, d) => valN (pickS (pickI c ops).2 keys).2 (pickI c ops).1 = (va, d)) ?_ ?_
  ·skip
   refine CW.cond rfl (fun h15 => ?_) (fun h15 => ?_)
   ·skip
    refine CW.region ?_
    refine RW.k XK 51 1 rfl ?_
    (conv=>whnf);refine ⟨rfl,?_⟩
    refine RW.buildK (c := cS) (L := vals) (vs := [(.string (⟨#[]⟩ : ByteArray)), (.string (⟨#[49]⟩ : ByteArray)), (.string (⟨#[116, 119, 111]⟩ : ByteArray)), (.string (⟨#[116, 104, 114, 101, 101]⟩ : ByteArray))]) rfl rfl rfl rfl rfl (fun _ => rfl) rfl rfl rfl (by decide) (by decide) rfl rfl fun X16 => ?_
    refine RW.freeze 31 (d' := .r (sl 1 cS vals)) rfl rfl ?_
    refine RW.callP (k := 0) (spec_l01Pick_fn ((pickS ((pickI c ops).2) keys).2) vals (pickS_ok (pickI_ok hc _) _) (by decide)) rfl rfl (Nat.le_of_ble_eq_true rfl) (by decide) rfl (DT.r (DT.r (DT.r DT.e))) (AsPs.here rfl (.cons (.one (.r .r)) (.nil))) fun g17 q18 => ?_
    refine RW.k XK 51 2 rfl ?_
    (conv=>whnf);refine ⟨rfl,?_⟩
    refine RW.nil ?_
    exact ⟨(((pickS ((pickS ((pickI c ops).2) keys).2) vals).1), ((pickS ((pickS ((pickI c ops).2) keys).2) vals).2)), by first | (rw [valN, if_pos (hv14.symm.trans h15)]; done) | (rw [valN, if_neg (by rw [← hv14, h15]; simp)]; done), rfl, Le.c rfl <| Le.c rfl <| Le.c rfl <| Le.c rfl <| Le.c rfl <| Le.e⟩
   ·skip
    refine CW.skip ?_
    exact ⟨(⟨#[]⟩, ((pickS ((pickI c ops).2) keys).2)), by first | (rw [valN, if_pos (hv14.symm.trans h15)]; done) | (rw [valN, if_neg (by rw [← hv14, h15]; simp)]; done), rfl, Le.c rfl <| Le.c rfl <| Le.c rfl <| Le.c rfl <| Le.c rfl <| Le.e⟩
  ·rintro ⟨va, d⟩ hval
   have hd : curOk d := by have h9 := congrArg Prod.snd hval; simp only [] at h9; rw [← h9]; exact valN_ok (pickS_ok (pickI_ok hc _) _) _
   refine CW.keep 51 [0,4,5,6,7] rfl ?_;(conv=>whnf);refine ⟨?_⟩
   refine CW.seq ?_
   refine CW.k XK 51 1 [0,4,5,6,7,36] rfl ?_
   (conv=>whnf);refine ⟨rfl,?_⟩
   refine CW.cond rfl (fun h19 => ?_) (fun h19 => ?_)
   ·skip
    refine CW.seq ?_
    refine CW.region ?_
    refine RW.k XK 51 1 rfl ?_
    (conv=>whnf);refine ⟨rfl,?_⟩
    refine RW.callP (k := 0) (spec_l01Below_fn d 20 hd) rfl rfl (Nat.le_of_ble_eq_true rfl) (by decide) rfl (DT.r (DT.r (DT.r DT.e))) (AsPs.here rfl (.cons (.one (.r .r)) (.nil))) fun g20 q21 => ?_
    refine RW.k XK 51 3 rfl ?_
    (conv=>whnf);refine ⟨rfl,?_⟩
    refine RW.nil ?_
    refine CW.keep 51 [0,4,5,6,7] rfl ?_;(conv=>whnf);refine ⟨?_⟩
    refine CW.seq ?_
    refine CW.region ?_
    refine RW.k XK 51 2 rfl ?_
    (conv=>whnf);refine ⟨rfl,?_⟩
    refine RW.gv rfl rfl rfl rfl (fun h22 => V.mv (d := .pt 0 (bo 0) 0) rfl rfl) (fun h22 => ?_) (fun h22 => ?_)
    ·skip
     refine RW.gcallP (k := 0) (spec_l01Once_fn ((belowN d 20).2) 3 (belowN_ok hd _)) rfl rfl rfl rfl rfl (Nat.le_of_ble_eq_true rfl) (by decide) rfl (DT.r (DT.r (DT.r DT.e))) (AsPs.here rfl (.cons (.one (.r .r)) (.nil))) fun g23 q24 => ?_
     refine RW.k XK 51 2 rfl ?_
     (conv=>whnf);refine ⟨rfl,?_⟩
     refine RW.nil ?_
     refine CW.keep 51 [0,4,5,6,46] rfl ?_;(conv=>whnf);refine ⟨?_⟩
     refine CW.cond rfl (fun h25 => ?_) (fun h25 => ?_)
     ·skip
      refine CW.region ?_
      refine RW.k XK 51 4 rfl ?_
      (conv=>whnf);refine ⟨rfl,?_⟩
      refine RW.nil ?_
      refine CW.keep 51 [0,4,5] rfl ?_;(conv=>whnf);refine ⟨?_⟩
      refine CW.k XK 51 1 [0,4] rfl ?_
      (conv=>whnf);refine ⟨rfl,?_⟩
      refine CW.ret ?_
      exact Post.one (RV.c (f := fun e => (Command.c e).map .w) (e' := (⟨((pickI c ops).1), 0, 0, ((pickS ((pickI c ops).2) keys).1), va, ((itemOf k ((pickS ((pickI c ops).2) keys).1)).1).ver⟩ : Command)) rfl rfl rfl rfl (DT.v (DT.v (DT.v (DT.v (DT.v (DT.v DT.e)))))) (by simp only [ofN, hval, verN]; simp_all)) (AOs.obE (f := fun e => (l01Cur.c e).map .r) (e' := ((onceN ((belowN d 20).2) 3).2)) rfl (DT.r (DT.r (DT.r DT.e))) (by simp only [ofN, hval, verN]; simp_all) (AOs.a rfl AOs.e))
     ·skip
      refine CW.skip ?_
      refine CW.keep 51 [0,4,5] rfl ?_;(conv=>whnf);refine ⟨?_⟩
      refine CW.k XK 51 1 [0,4] rfl ?_
      (conv=>whnf);refine ⟨rfl,?_⟩
      refine CW.ret ?_
      exact Post.one (RV.c (f := fun e => (Command.c e).map .w) (e' := (⟨((pickI c ops).1), 0, 0, ((pickS ((pickI c ops).2) keys).1), va, (IntKind.i64.wrap (1 + ((belowN d 20).1)))⟩ : Command)) rfl rfl rfl rfl (DT.v (DT.v (DT.v (DT.v (DT.v (DT.v DT.e)))))) (by simp only [ofN, hval, verN]; simp_all)) (AOs.obE (f := fun e => (l01Cur.c e).map .r) (e' := ((onceN ((belowN d 20).2) 3).2)) rfl (DT.r (DT.r (DT.r DT.e))) (by simp only [ofN, hval, verN]; simp_all) (AOs.a rfl AOs.e))
    ·skip
     refine RW.k XK 51 3 rfl ?_
     (conv=>whnf);refine ⟨rfl,?_⟩
     refine RW.nil ?_
     refine CW.keep 51 [0,4,5,6,46] rfl ?_;(conv=>whnf);refine ⟨?_⟩
     refine CW.condF rfl ?_
     refine CW.skip ?_
     refine CW.keep 51 [0,4,5] rfl ?_;(conv=>whnf);refine ⟨?_⟩
     refine CW.k XK 51 1 [0,4] rfl ?_
     (conv=>whnf);refine ⟨rfl,?_⟩
     refine CW.ret ?_
     exact Post.one (RV.c (f := fun e => (Command.c e).map .w) (e' := (⟨((pickI c ops).1), 0, 0, ((pickS ((pickI c ops).2) keys).1), va, (IntKind.i64.wrap (1 + ((belowN d 20).1)))⟩ : Command)) rfl rfl rfl rfl (DT.v (DT.v (DT.v (DT.v (DT.v (DT.v DT.e)))))) (by simp only [ofN, hval, verN]; simp_all)) (AOs.obE (f := fun e => (l01Cur.c e).map .r) (e' := ((belowN d 20).2)) rfl (DT.r (DT.r (DT.r DT.e))) (by simp only [ofN, hval, verN]; simp_all) (AOs.a rfl AOs.e))
   ·skip
    refine CW.skip ?_
    refine CW.keep 51 [0,4,5] rfl ?_;(conv=>whnf);refine ⟨?_⟩
    refine CW.k XK 51 1 [0,4] rfl ?_
    (conv=>whnf);refine ⟨rfl,?_⟩
    refine CW.ret ?_
    exact Post.one (RV.c (f := fun e => (Command.c e).map .w) (e' := (⟨((pickI c ops).1), 0, 0, ((pickS ((pickI c ops).2) keys).1), va, 0⟩ : Command)) rfl rfl rfl rfl (DT.v (DT.v (DT.v (DT.v (DT.v (DT.v DT.e)))))) (by simp only [ofN, hval, verN]; simp_all)) (AOs.obE (f := fun e => (l01Cur.c e).map .r) (e' := d) rfl (DT.r (DT.r (DT.r DT.e))) (by simp only [ofN, hval, verN]; simp_all) (AOs.a rfl AOs.e))
set_option maxHeartbeats 4000000 in
theorem spec_l15Command_fn (c : l01Cur) (k : Keep) (hc : curOk c) (hok : okToKeep k) : Eng.Fn E.P 46 [.ob ((l01Cur.c c).map .r), .agg ((Keep.c k).map .r)] (.one (.agg ((Command.c ((commandN c k).1)).map .w))) [.ob ((l01Cur.c ((commandN c k).2)).map .r), .agg ((Keep.c k).map .r)] := by
 refine Eng.Fn.intro (E := E) (rvs := [.cell 4 38]) Tryd.func46 rfl rfl rfl (by simp [outSlots, moved, rvSlot, sl]) ?_
 intro B g bo
 refine CW.keep 63 [0,1] rfl ?_;(conv=>whnf);refine ⟨?_⟩
 have hl1 : k.sessions.length ≤ 1048576 := hok.1.1
 refine CW.seq ?_
 refine CW.region ?_
 refine RW.k XK 63 1 rfl ?_
 (conv=>whnf);intro b1;(conv=>whnf);refine ⟨rfl,?_⟩
 refine RW.freezeB (ts := (Keep.c k)) 3 rfl (DRd.r (DRd.r DRd.e)) ?_
 refine RW.k XK 63 1 rfl ?_
 (conv=>whnf);intro b2;(conv=>whnf);refine ⟨rfl,?_⟩
 refine RW.nil ?_
 refine CW.keep 63 [0,3,4] rfl ?_;(conv=>whnf);refine ⟨?_⟩
 refine CW.seq ?_
 refine CW.seq ?_
 refine CW.region ?_
 refine RW.k XK 63 5 rfl ?_
 (conv=>whnf);refine ⟨rfl,?_⟩
 refine RW.gv rfl rfl rfl rfl (fun h3 => V.mv (d := .pt 0 (bo 0) 0) rfl rfl) (fun h3 => ?_) (fun h3 => ?_)
 ·skip
  refine RW.gcallP (k := 0) (spec_l01Once_fn c 16 hc) rfl rfl rfl rfl rfl (Nat.le_of_ble_eq_true rfl) (by decide) rfl (DT.r (DT.r (DT.r DT.e))) (AsPs.here rfl (.cons (.one (.r .r)) (.nil))) fun g4 q5 => ?_
  refine RW.k XK 63 1 rfl ?_
  (conv=>whnf);refine ⟨rfl,?_⟩
  refine RW.nil ?_
  refine CW.keep 63 [0,3,4,14] rfl ?_;(conv=>whnf);refine ⟨?_⟩
  refine CW.cond rfl (fun h6 => ?_) (fun h6 => ?_)
  ·skip
   refine CW.k XK 63 1 [0,4] rfl ?_
   (conv=>whnf);refine ⟨rfl,?_⟩
   refine CW.ret ?_
   exact Post.one (RV.c (f := fun e => (Command.c e).map .w) (e' := (⟨1, 0, 0, ⟨#[]⟩, ⟨#[]⟩, 0⟩ : Command)) rfl rfl rfl rfl (DT.v (DT.v (DT.v (DT.v (DT.v (DT.v DT.e)))))) (by first | (rw [cmd_no h3] <;> rfl) | (rw [commandN, if_neg (by rw [h3]; simp), if_pos h6] <;> rfl) | (rw [cmd_eq (by rw [h3]; simp) (by rw [h6]; simp) hs, lastN]; (try simp only []); rw [if_pos e0]) | (rw [cmd_eq (by rw [h3]; simp) (by rw [h6]; simp) hs, lastN]; (try simp only []); rw [if_neg (by rw [n0]; simp), if_pos e1]) | (rw [cmd_eq (by rw [h3]; simp) (by rw [h6]; simp) hs, lastN]; (try simp only []); rw [if_neg (by rw [n0]; simp), if_neg (by rw [n1]; simp), if_pos e2]) | (rw [cmd_eq (by rw [h3]; simp) (by rw [h6]; simp) hs, lastN]; (try simp only []); rw [if_neg (by rw [n0]; simp), if_neg (by rw [n1]; simp), if_neg (by rw [n2]; simp)]))) (AOs.obE (f := fun e => (l01Cur.c e).map .r) (e' := ((onceN c 16).2)) rfl (DT.r (DT.r (DT.r DT.e))) (by first | (rw [cmd_no h3] <;> rfl) | (rw [commandN, if_neg (by rw [h3]; simp), if_pos h6] <;> rfl) | (rw [cmd_eq (by rw [h3]; simp) (by rw [h6]; simp) hs, lastN]; (try simp only []); rw [if_pos e0]) | (rw [cmd_eq (by rw [h3]; simp) (by rw [h6]; simp) hs, lastN]; (try simp only []); rw [if_neg (by rw [n0]; simp), if_pos e1]) | (rw [cmd_eq (by rw [h3]; simp) (by rw [h6]; simp) hs, lastN]; (try simp only []); rw [if_neg (by rw [n0]; simp), if_neg (by rw [n1]; simp), if_pos e2]) | (rw [cmd_eq (by rw [h3]; simp) (by rw [h6]; simp) hs, lastN]; (try simp only []); rw [if_neg (by rw [n0]; simp), if_neg (by rw [n1]; simp), if_neg (by rw [n2]; simp)])) (AOs.a rfl AOs.e))
  ·skip
   refine CW.skip ?_
   refine CW.keep 63 [0,3,4] rfl ?_;(conv=>whnf);refine ⟨?_⟩
   refine CW.seq ?_
   refine CW.region ?_
   refine RW.k XK 63 2 rfl ?_
   (conv=>whnf);refine ⟨rfl,?_⟩
   refine RW.callP (k := 0) (spec_l15Of_fn ((onceN c 16).2) k (onceN_ok hc _) hok) rfl rfl (Nat.le_of_ble_eq_true rfl) (by decide) rfl (DT.r (DT.r (DT.r DT.e))) (AsPs.here rfl (.cons (.agg (.cons (.r .r) (.cons (.r .r) (.nil)))) (.nil))) fun g7 q8 => ?_
   refine RW.k XK 63 2 rfl ?_
   (conv=>whnf);intro b9;(conv=>whnf);refine ⟨rfl,?_⟩
   refine RW.nil ?_
   refine CW.keep 63 [0,3,4,5] rfl ?_;(conv=>whnf);refine ⟨?_⟩
   refine CW.seq ?_
   refine CW.region ?_
   refine RW.k XK 63 6 rfl ?_
   (conv=>whnf);refine ⟨rfl,?_⟩
   refine RW.v rfl (V.indexZ (m := (k.sessions.length - 1)) (v := (k.sessions.getD (k.sessions.length - 1) Session.z)) rfl rfl rfl rfl rfl rfl (by have h9 := (len_pos h3); rw [wrap_small (by omega) (by omega)]; omega) Session.len (getD_some (by have h9 := (len_pos h3); omega))) ?_
   refine RW.k XK 63 3 rfl ?_
   (conv=>whnf);intro b10;(conv=>whnf);refine ⟨rfl,?_⟩
   refine RW.nil ?_
   refine CW.keep 63 [0,3,4,5,6] rfl ?_;(conv=>whnf);refine ⟨?_⟩
   refine CW.seq ?_
   refine CW.seq ?_
   refine CW.region ?_
   refine RW.k XK 63 1 rfl ?_
   (conv=>whnf);refine ⟨rfl,?_⟩
   refine RW.callP (k := 0) (spec_l01Once_fn ((ofN ((onceN c 16).2) k).2) 4 (ofN_ok (onceN_ok hc _) _)) rfl rfl (Nat.le_of_ble_eq_true rfl) (by decide) rfl (DT.r (DT.r (DT.r DT.e))) (AsPs.here rfl (.cons (.one (.r .r)) (.nil))) fun g11 q12 => ?_
   refine RW.nil ?_
   refine CW.keep 63 [0,3,4,5,6,28] rfl ?_;(conv=>whnf);refine ⟨?_⟩
   refine CW.joinS 63 (fun (z : Session × l01Cur) => match z with | (z, d) => [(0, .obj (bo 0) ((l01Cur.c d).map .r)), (4, .obj b2 [I 0, I 0, I 0, S (⟨#[]⟩), S (⟨#[]⟩), I 0]), (5, .obj b9 ((Command.c ((ofN ((onceN c 16).2) k).1)).map .r)), (6, .obj b10 ((Session.c z).map .r))]) (fun (z : Session × l01Cur) => match z with | (z, d) => sessD (ofN (onceN c 16).2 k).2 k.sessions = (z, d)) ?_ ?_
   ·skip
    refine CW.cond rfl (fun h13 => ?_) (fun h13 => ?_)
    ·skip
     refine CW.anyR2 (fc := [(4, b2, [.int .i64 0, .int .i64 0, .int .i64 0, .string (⟨#[]⟩), .string (⟨#[]⟩), .int .i64 0]), (5, b9, [.int .i64 (((ofN ((onceN c 16).2) k).1).op), .int .i64 (((ofN ((onceN c 16).2) k).1).token), .int .i64 (((ofN ((onceN c 16).2) k).1).seq), .string (((ofN ((onceN c 16).2) k).1).key), .string (((ofN ((onceN c 16).2) k).1).val), .int .i64 (((ofN ((onceN c 16).2) k).1).ver)])]) (L0 := [(4, .obj b2 [I 0, I 0, I 0, S (⟨#[]⟩), S (⟨#[]⟩), I 0]), (5, .obj b9 ((Command.c ((ofN ((onceN c 16).2) k).1)).map .r))]) 63 (fun (zz : (Nat → Nat → Value) × (Nat → Value)) => match zz with | (go14_6_1, qo14_6_2) => [(0, .obj (bo 0) ((l01Cur.c ((belowN ((onceN ((ofN ((onceN c 16).2) k).2) 4).2) (k.sessions.length : Int)).2)).map .r)), (6, .obj b10 ((Session.c (k.sessions.getD ((belowN ((onceN ((ofN ((onceN c 16).2) k).2) 4).2) (k.sessions.length : Int)).1).toNat Session.z)).map .r))]) (fun all hall f hf b0 hb K hK => ?_) ?_
     ·skip
      have ro14_2 : ∀ B, ∀ (go14_6_1 : Nat → Nat → Value), ∀ (qo14_6_2 : Nat → Value), RA f E B all 0 (bt 10 1023) ⟨63, [(0, .obj (bo 0) ((l01Cur.c ((belowN ((onceN ((ofN ((onceN c 16).2) k).2) 4).2) (k.sessions.length : Int)).2)).map .r)), (6, .obj b10 ((Session.c (k.sessions.getD ((belowN ((onceN ((ofN ((onceN c 16).2) k).2) 4).2) (k.sessions.length : Int)).1).toNat Session.z)).map .r))] ++ b0⟩ K := by
       intro B go14_6_1 qo14_6_2
       exact RA.of2 hall hf hb (RA.finH (Tell.of rfl) (by kernel_rfl) (hK (go14_6_1, qo14_6_2) _ rfl (Le.of rfl)))
      have ro14_1 : ∀ B, ∀ (go14_6_1 : Nat → Nat → Value), ∀ (qo14_6_2 : Nat → Value), RA f E B all 1 (bt 10 511) ⟨63, [(0, .obj (bo 0) ((l01Cur.c ((belowN ((onceN ((ofN ((onceN c 16).2) k).2) 4).2) (k.sessions.length : Int)).2)).map .r)), (6, .obj b10 ((Session.c (k.sessions.getD (k.sessions.length - 1) Session.z)).map .r)), (37, .agg ((Session.c (k.sessions.getD ((belowN ((onceN ((ofN ((onceN c 16).2) k).2) 4).2) (k.sessions.length : Int)).1).toNat Session.z)).map .r))] ++ b0⟩ K := by
       intro B go14_6_1 qo14_6_2
       refine RA.of2 hall hf hb (RA.stepH (L := [9]) (Tell.of rfl) (by kernel_rfl) (by simp) (RA.each ?_ (RA.each0)))
       ·skip
        refine RO.storeAgg (es := ((Session.c (k.sessions.getD ((belowN ((onceN ((ofN ((onceN c 16).2) k).2) 4).2) (k.sessions.length : Int)).1).toNat Session.z)).map .r)) rfl rfl rfl rfl rfl rfl rfl rfl rfl rfl (Nat.le_of_ble_eq_true rfl) rfl ?_
        exact RA.to2 hall hf hb (ro14_2 B go14_6_1 qo14_6_2) rfl rfl (by kernel_rfl)
      have ro14_0 : ∀ B, RA f E B all 4 (bt 10 63) ⟨63, [(0, .obj (bo 0) ((l01Cur.c ((onceN ((ofN ((onceN c 16).2) k).2) 4).2)).map .r)), (6, .obj b10 ((Session.c (k.sessions.getD (k.sessions.length - 1) Session.z)).map .r)), (30, .r (sl 3 Session.c k.sessions)), (31, .pt 0 (bo 0) 0), (34, I (k.sessions.length : Int))] ++ b0⟩ K := by
       intro B
       refine RA.of2 hall hf hb (RA.stepH (L := [6]) (Tell.of rfl) (by kernel_rfl) (by simp) (RA.each ?_ (RA.each0)))
       ·skip
        refine RO.callP (k := 0) (spec_l01Below_fn ((onceN ((ofN ((onceN c 16).2) k).2) 4).2) (k.sessions.length : Int) (by first | exact hd | exact belowN_ok hd _ | exact belowN_ok (ofN_ok (onceN_ok hc _) _) _)) rfl rfl rfl rfl (Nat.le_of_ble_eq_true rfl) (by decide) rfl (DT.r (DT.r (DT.r DT.e))) (AsPs.here rfl (.cons (.one (.r .r)) (.nil))) fun go14_6_1 qo14_6_2 => ?_
        refine RA.first (i := 7) (ls' := (bt 10 255)) (Tell.of rfl) (by kernel_rfl) rfl rfl rfl (VF.p (V.indexZ (m := ((belowN ((onceN ((ofN ((onceN c 16).2) k).2) 4).2) (k.sessions.length : Int)).1).toNat) (v := (k.sessions.getD ((belowN ((onceN ((ofN ((onceN c 16).2) k).2) 4).2) (k.sessions.length : Int)).1).toNat Session.z)) rfl rfl rfl rfl rfl rfl (by have h9 := belowN_in ((onceN ((ofN ((onceN c 16).2) k).2) 4).2) (n := (k.sessions.length : Int)) (by have := (len_pos h3); omega); omega) Session.len (getD_some (by have h9 := belowN_in ((onceN ((ofN ((onceN c 16).2) k).2) 4).2) (n := (k.sessions.length : Int)) (by have := (len_pos h3); omega); omega)))) ?_
        refine RA.fr XK 63 1 [8] (bt 10 511) rfl rfl (by kernel_rfl) (Tell.of rfl) ?_
        (conv=>whnf);refine ⟨rfl,fun B=>?_⟩
        exact RA.to2 hall hf hb (ro14_1 B go14_6_1 qo14_6_2) rfl rfl (by kernel_rfl)
      refine RA.start (by kernel_rfl) (by kernel_rfl) (m := 10) (ls' := (bt 10 0)) ?_
      refine RA.fr XK 63 4 [0,1,2,3,4,5] (bt 10 63) rfl rfl (by kernel_rfl) (Tell.of rfl) ?_
      (conv=>whnf);refine ⟨rfl,fun B=>?_⟩
      exact RA.to2 hall hf hb (ro14_0 B) rfl rfl (by kernel_rfl)
     ·rintro ⟨go14_6_1, qo14_6_2⟩
      exact ⟨((k.sessions.getD ((belowN ((onceN ((ofN ((onceN c 16).2) k).2) 4).2) (k.sessions.length : Int)).1).toNat Session.z), ((belowN ((onceN ((ofN ((onceN c 16).2) k).2) 4).2) (k.sessions.length : Int)).2)), by first | (rw [sessD, if_pos h13] <;> rfl) | (rw [sessD, if_neg (by rw [h13]; simp)]), rfl, Le.c rfl <| Le.c rfl <| Le.c rfl <| Le.c rfl <| Le.e⟩
    ·skip
     refine CW.skip ?_
     exact ⟨((k.sessions.getD (k.sessions.length - 1) Session.z), ((onceN ((ofN ((onceN c 16).2) k).2) 4).2)), by first | (rw [sessD, if_pos h13] <;> rfl) | (rw [sessD, if_neg (by rw [h13]; simp)]), rfl, Le.c rfl <| Le.c rfl <| Le.c rfl <| Le.c rfl <| Le.e⟩
   ·rintro ⟨z, d⟩ hs
    have hd : curOk d := by have h9 := congrArg Prod.snd hs; simp only [] at h9; rw [← h9]; exact sessD_ok (ofN_ok (onceN_ok hc _) _) _
    refine CW.keep 63 [0,4,5,6] rfl ?_;(conv=>whnf);refine ⟨?_⟩
    refine CW.k XK 63 2 [0,4,5,6] rfl ?_
    (conv=>whnf);refine ⟨rfl,?_⟩
    refine CW.seq ?_
    refine CW.seq ?_
    refine CW.region ?_
    refine RW.k XK 63 1 rfl ?_
    (conv=>whnf);refine ⟨rfl,?_⟩
    refine RW.callP (k := 0) (spec_l01Below_fn d 16 (by first | exact hd | exact belowN_ok hd _ | exact belowN_ok (ofN_ok (onceN_ok hc _) _) _)) rfl rfl (Nat.le_of_ble_eq_true rfl) (by decide) rfl (DT.r (DT.r (DT.r DT.e))) (AsPs.here rfl (.cons (.one (.r .r)) (.nil))) fun g15 q16 => ?_
    refine RW.nil ?_
    refine CW.keep 63 [0,4,5,6,46] rfl ?_;(conv=>whnf);refine ⟨?_⟩
    refine CW.block ?_
    refine CW.k XK 63 1 [0,4,5,6,46,47] rfl ?_
    (conv=>whnf);refine ⟨rfl,?_⟩
    refine CW.cond rfl (fun h17 => ?_) (fun h17 => ?_)
    ·skip
     have e0 := h17
     refine CW.region ?_
     refine RW.k XK 63 4 rfl ?_
     (conv=>whnf);refine ⟨rfl,?_⟩
     refine RW.nil ?_
     refine CW.keep 63 [0,4,5] rfl ?_;(conv=>whnf);refine ⟨?_⟩
     refine CW.k XK 63 1 [0,4] rfl ?_
     (conv=>whnf);refine ⟨rfl,?_⟩
     refine CW.ret ?_
     exact Post.one (RV.c (f := fun e => (Command.c e).map .w) (e' := (⟨((ofN ((onceN c 16).2) k).1).op, z.token, z.last, ((ofN ((onceN c 16).2) k).1).key, ((ofN ((onceN c 16).2) k).1).val, ((ofN ((onceN c 16).2) k).1).ver⟩ : Command)) rfl rfl rfl rfl (DT.v (DT.v (DT.v (DT.v (DT.v (DT.v DT.e)))))) (by first | (rw [cmd_no h3] <;> rfl) | (rw [commandN, if_neg (by rw [h3]; simp), if_pos h6] <;> rfl) | (rw [cmd_eq (by rw [h3]; simp) (by rw [h6]; simp) hs, lastN]; (try simp only []); rw [if_pos e0]) | (rw [cmd_eq (by rw [h3]; simp) (by rw [h6]; simp) hs, lastN]; (try simp only []); rw [if_neg (by rw [n0]; simp), if_pos e1]) | (rw [cmd_eq (by rw [h3]; simp) (by rw [h6]; simp) hs, lastN]; (try simp only []); rw [if_neg (by rw [n0]; simp), if_neg (by rw [n1]; simp), if_pos e2]) | (rw [cmd_eq (by rw [h3]; simp) (by rw [h6]; simp) hs, lastN]; (try simp only []); rw [if_neg (by rw [n0]; simp), if_neg (by rw [n1]; simp), if_neg (by rw [n2]; simp)]))) (AOs.obE (f := fun e => (l01Cur.c e).map .r) (e' := ((belowN d 16).2)) rfl (DT.r (DT.r (DT.r DT.e))) (by first | (rw [cmd_no h3] <;> rfl) | (rw [commandN, if_neg (by rw [h3]; simp), if_pos h6] <;> rfl) | (rw [cmd_eq (by rw [h3]; simp) (by rw [h6]; simp) hs, lastN]; (try simp only []); rw [if_pos e0]) | (rw [cmd_eq (by rw [h3]; simp) (by rw [h6]; simp) hs, lastN]; (try simp only []); rw [if_neg (by rw [n0]; simp), if_pos e1]) | (rw [cmd_eq (by rw [h3]; simp) (by rw [h6]; simp) hs, lastN]; (try simp only []); rw [if_neg (by rw [n0]; simp), if_neg (by rw [n1]; simp), if_pos e2]) | (rw [cmd_eq (by rw [h3]; simp) (by rw [h6]; simp) hs, lastN]; (try simp only []); rw [if_neg (by rw [n0]; simp), if_neg (by rw [n1]; simp), if_neg (by rw [n2]; simp)])) (AOs.a rfl AOs.e))
    ·skip
     have n0 := h17
     refine CW.k XK 63 1 [0,4,5,46,52] rfl ?_
     (conv=>whnf);refine ⟨rfl,?_⟩
     refine CW.cond rfl (fun h18 => ?_) (fun h18 => ?_)
     ·skip
      have e1 := h18
      refine CW.region ?_
      refine RW.k XK 63 1 rfl ?_
      (conv=>whnf);refine ⟨rfl,?_⟩
      refine RW.callP (k := 0) (spec_l01Below_fn ((belowN d 16).2) 4 (by first | exact hd | exact belowN_ok hd _ | exact belowN_ok (ofN_ok (onceN_ok hc _) _) _)) rfl rfl (Nat.le_of_ble_eq_true rfl) (by decide) rfl (DT.r (DT.r (DT.r DT.e))) (AsPs.here rfl (.cons (.one (.r .r)) (.nil))) fun g19 q20 => ?_
      refine RW.k XK 63 2 rfl ?_
      (conv=>whnf);refine ⟨rfl,?_⟩
      refine RW.nil ?_
      refine CW.keep 63 [0,4,5] rfl ?_;(conv=>whnf);refine ⟨?_⟩
      refine CW.k XK 63 1 [0,4] rfl ?_
      (conv=>whnf);refine ⟨rfl,?_⟩
      refine CW.ret ?_
      exact Post.one (RV.c (f := fun e => (Command.c e).map .w) (e' := (⟨((ofN ((onceN c 16).2) k).1).op, z.token, ((belowN ((belowN d 16).2) 4).1), ((ofN ((onceN c 16).2) k).1).key, ((ofN ((onceN c 16).2) k).1).val, ((ofN ((onceN c 16).2) k).1).ver⟩ : Command)) rfl rfl rfl rfl (DT.v (DT.v (DT.v (DT.v (DT.v (DT.v DT.e)))))) (by first | (rw [cmd_no h3] <;> rfl) | (rw [commandN, if_neg (by rw [h3]; simp), if_pos h6] <;> rfl) | (rw [cmd_eq (by rw [h3]; simp) (by rw [h6]; simp) hs, lastN]; (try simp only []); rw [if_pos e0]) | (rw [cmd_eq (by rw [h3]; simp) (by rw [h6]; simp) hs, lastN]; (try simp only []); rw [if_neg (by rw [n0]; simp), if_pos e1]) | (rw [cmd_eq (by rw [h3]; simp) (by rw [h6]; simp) hs, lastN]; (try simp only []); rw [if_neg (by rw [n0]; simp), if_neg (by rw [n1]; simp), if_pos e2]) | (rw [cmd_eq (by rw [h3]; simp) (by rw [h6]; simp) hs, lastN]; (try simp only []); rw [if_neg (by rw [n0]; simp), if_neg (by rw [n1]; simp), if_neg (by rw [n2]; simp)]))) (AOs.obE (f := fun e => (l01Cur.c e).map .r) (e' := ((belowN ((belowN d 16).2) 4).2)) rfl (DT.r (DT.r (DT.r DT.e))) (by first | (rw [cmd_no h3] <;> rfl) | (rw [commandN, if_neg (by rw [h3]; simp), if_pos h6] <;> rfl) | (rw [cmd_eq (by rw [h3]; simp) (by rw [h6]; simp) hs, lastN]; (try simp only []); rw [if_pos e0]) | (rw [cmd_eq (by rw [h3]; simp) (by rw [h6]; simp) hs, lastN]; (try simp only []); rw [if_neg (by rw [n0]; simp), if_pos e1]) | (rw [cmd_eq (by rw [h3]; simp) (by rw [h6]; simp) hs, lastN]; (try simp only []); rw [if_neg (by rw [n0]; simp), if_neg (by rw [n1]; simp), if_pos e2]) | (rw [cmd_eq (by rw [h3]; simp) (by rw [h6]; simp) hs, lastN]; (try simp only []); rw [if_neg (by rw [n0]; simp), if_neg (by rw [n1]; simp), if_neg (by rw [n2]; simp)])) (AOs.a rfl AOs.e))
     ·skip
      have n1 := h18
      refine CW.k XK 63 1 [0,4,5,57] rfl ?_
      (conv=>whnf);refine ⟨rfl,?_⟩
      refine CW.cond rfl (fun h21 => ?_) (fun h21 => ?_)
      ·skip
       have e2 := h21
       refine CW.region ?_
       refine RW.k XK 63 1 rfl ?_
       (conv=>whnf);refine ⟨rfl,?_⟩
       refine RW.callP (k := 0) (spec_l01Below_fn ((belowN d 16).2) 9 (by first | exact hd | exact belowN_ok hd _ | exact belowN_ok (ofN_ok (onceN_ok hc _) _) _)) rfl rfl (Nat.le_of_ble_eq_true rfl) (by decide) rfl (DT.r (DT.r (DT.r DT.e))) (AsPs.here rfl (.cons (.one (.r .r)) (.nil))) fun g22 q23 => ?_
       refine RW.k XK 63 2 rfl ?_
       (conv=>whnf);refine ⟨rfl,?_⟩
       refine RW.nil ?_
       refine CW.keep 63 [0,4,5] rfl ?_;(conv=>whnf);refine ⟨?_⟩
       refine CW.k XK 63 1 [0,4] rfl ?_
       (conv=>whnf);refine ⟨rfl,?_⟩
       refine CW.ret ?_
       exact Post.one (RV.c (f := fun e => (Command.c e).map .w) (e' := (⟨((ofN ((onceN c 16).2) k).1).op, ((belowN ((belowN d 16).2) 9).1), (IntKind.i64.wrap (z.last + 1)), ((ofN ((onceN c 16).2) k).1).key, ((ofN ((onceN c 16).2) k).1).val, ((ofN ((onceN c 16).2) k).1).ver⟩ : Command)) rfl rfl rfl rfl (DT.v (DT.v (DT.v (DT.v (DT.v (DT.v DT.e)))))) (by first | (rw [cmd_no h3] <;> rfl) | (rw [commandN, if_neg (by rw [h3]; simp), if_pos h6] <;> rfl) | (rw [cmd_eq (by rw [h3]; simp) (by rw [h6]; simp) hs, lastN]; (try simp only []); rw [if_pos e0]) | (rw [cmd_eq (by rw [h3]; simp) (by rw [h6]; simp) hs, lastN]; (try simp only []); rw [if_neg (by rw [n0]; simp), if_pos e1]) | (rw [cmd_eq (by rw [h3]; simp) (by rw [h6]; simp) hs, lastN]; (try simp only []); rw [if_neg (by rw [n0]; simp), if_neg (by rw [n1]; simp), if_pos e2]) | (rw [cmd_eq (by rw [h3]; simp) (by rw [h6]; simp) hs, lastN]; (try simp only []); rw [if_neg (by rw [n0]; simp), if_neg (by rw [n1]; simp), if_neg (by rw [n2]; simp)]))) (AOs.obE (f := fun e => (l01Cur.c e).map .r) (e' := ((belowN ((belowN d 16).2) 9).2)) rfl (DT.r (DT.r (DT.r DT.e))) (by first | (rw [cmd_no h3] <;> rfl) | (rw [commandN, if_neg (by rw [h3]; simp), if_pos h6] <;> rfl) | (rw [cmd_eq (by rw [h3]; simp) (by rw [h6]; simp) hs, lastN]; (try simp only []); rw [if_pos e0]) | (rw [cmd_eq (by rw [h3]; simp) (by rw [h6]; simp) hs, lastN]; (try simp only []); rw [if_neg (by rw [n0]; simp), if_pos e1]) | (rw [cmd_eq (by rw [h3]; simp) (by rw [h6]; simp) hs, lastN]; (try simp only []); rw [if_neg (by rw [n0]; simp), if_neg (by rw [n1]; simp), if_pos e2]) | (rw [cmd_eq (by rw [h3]; simp) (by rw [h6]; simp) hs, lastN]; (try simp only []); rw [if_neg (by rw [n0]; simp), if_neg (by rw [n1]; simp), if_neg (by rw [n2]; simp)])) (AOs.a rfl AOs.e))
      ·skip
       have n2 := h21
       refine CW.skip ?_
       refine CW.keep 63 [0,4,5] rfl ?_;(conv=>whnf);refine ⟨?_⟩
       refine CW.k XK 63 1 [0,4] rfl ?_
       (conv=>whnf);refine ⟨rfl,?_⟩
       refine CW.ret ?_
       exact Post.one (RV.c (f := fun e => (Command.c e).map .w) (e' := (⟨((ofN ((onceN c 16).2) k).1).op, z.token, (IntKind.i64.wrap (z.last + 1)), ((ofN ((onceN c 16).2) k).1).key, ((ofN ((onceN c 16).2) k).1).val, ((ofN ((onceN c 16).2) k).1).ver⟩ : Command)) rfl rfl rfl rfl (DT.v (DT.v (DT.v (DT.v (DT.v (DT.v DT.e)))))) (by first | (rw [cmd_no h3] <;> rfl) | (rw [commandN, if_neg (by rw [h3]; simp), if_pos h6] <;> rfl) | (rw [cmd_eq (by rw [h3]; simp) (by rw [h6]; simp) hs, lastN]; (try simp only []); rw [if_pos e0]) | (rw [cmd_eq (by rw [h3]; simp) (by rw [h6]; simp) hs, lastN]; (try simp only []); rw [if_neg (by rw [n0]; simp), if_pos e1]) | (rw [cmd_eq (by rw [h3]; simp) (by rw [h6]; simp) hs, lastN]; (try simp only []); rw [if_neg (by rw [n0]; simp), if_neg (by rw [n1]; simp), if_pos e2]) | (rw [cmd_eq (by rw [h3]; simp) (by rw [h6]; simp) hs, lastN]; (try simp only []); rw [if_neg (by rw [n0]; simp), if_neg (by rw [n1]; simp), if_neg (by rw [n2]; simp)]))) (AOs.obE (f := fun e => (l01Cur.c e).map .r) (e' := ((belowN d 16).2)) rfl (DT.r (DT.r (DT.r DT.e))) (by first | (rw [cmd_no h3] <;> rfl) | (rw [commandN, if_neg (by rw [h3]; simp), if_pos h6] <;> rfl) | (rw [cmd_eq (by rw [h3]; simp) (by rw [h6]; simp) hs, lastN]; (try simp only []); rw [if_pos e0]) | (rw [cmd_eq (by rw [h3]; simp) (by rw [h6]; simp) hs, lastN]; (try simp only []); rw [if_neg (by rw [n0]; simp), if_pos e1]) | (rw [cmd_eq (by rw [h3]; simp) (by rw [h6]; simp) hs, lastN]; (try simp only []); rw [if_neg (by rw [n0]; simp), if_neg (by rw [n1]; simp), if_pos e2]) | (rw [cmd_eq (by rw [h3]; simp) (by rw [h6]; simp) hs, lastN]; (try simp only []); rw [if_neg (by rw [n0]; simp), if_neg (by rw [n1]; simp), if_neg (by rw [n2]; simp)])) (AOs.a rfl AOs.e))
 ·skip
  refine RW.k XK 63 2 rfl ?_
  (conv=>whnf);refine ⟨rfl,?_⟩
  refine RW.nil ?_
  refine CW.keep 63 [0,3,4,14] rfl ?_;(conv=>whnf);refine ⟨?_⟩
  refine CW.condT rfl ?_
  refine CW.k XK 63 1 [0,4] rfl ?_
  (conv=>whnf);refine ⟨rfl,?_⟩
  refine CW.ret ?_
  exact Post.one (RV.c (f := fun e => (Command.c e).map .w) (e' := (⟨1, 0, 0, ⟨#[]⟩, ⟨#[]⟩, 0⟩ : Command)) rfl rfl rfl rfl (DT.v (DT.v (DT.v (DT.v (DT.v (DT.v DT.e)))))) (by first | (rw [cmd_no h3] <;> rfl) | (rw [commandN, if_neg (by rw [h3]; simp), if_pos h6] <;> rfl) | (rw [cmd_eq (by rw [h3]; simp) (by rw [h6]; simp) hs, lastN]; (try simp only []); rw [if_pos e0]) | (rw [cmd_eq (by rw [h3]; simp) (by rw [h6]; simp) hs, lastN]; (try simp only []); rw [if_neg (by rw [n0]; simp), if_pos e1]) | (rw [cmd_eq (by rw [h3]; simp) (by rw [h6]; simp) hs, lastN]; (try simp only []); rw [if_neg (by rw [n0]; simp), if_neg (by rw [n1]; simp), if_pos e2]) | (rw [cmd_eq (by rw [h3]; simp) (by rw [h6]; simp) hs, lastN]; (try simp only []); rw [if_neg (by rw [n0]; simp), if_neg (by rw [n1]; simp), if_neg (by rw [n2]; simp)]))) (AOs.obE (f := fun e => (l01Cur.c e).map .r) (e' := c) rfl (DT.r (DT.r (DT.r DT.e))) (by first | (rw [cmd_no h3] <;> rfl) | (rw [commandN, if_neg (by rw [h3]; simp), if_pos h6] <;> rfl) | (rw [cmd_eq (by rw [h3]; simp) (by rw [h6]; simp) hs, lastN]; (try simp only []); rw [if_pos e0]) | (rw [cmd_eq (by rw [h3]; simp) (by rw [h6]; simp) hs, lastN]; (try simp only []); rw [if_neg (by rw [n0]; simp), if_pos e1]) | (rw [cmd_eq (by rw [h3]; simp) (by rw [h6]; simp) hs, lastN]; (try simp only []); rw [if_neg (by rw [n0]; simp), if_neg (by rw [n1]; simp), if_pos e2]) | (rw [cmd_eq (by rw [h3]; simp) (by rw [h6]; simp) hs, lastN]; (try simp only []); rw [if_neg (by rw [n0]; simp), if_neg (by rw [n1]; simp), if_neg (by rw [n2]; simp)])) (AOs.a rfl AOs.e))
end Go.Proofs.YtaeagpakloggfaaDoor.Y
