import Derived.Test.YtmhnehgpmndiiaaWDecodeB
namespace Go.Proofs.Ytmhnehgpmndiiaa.Y
open Go Go.RowKit Go.Eng Go.Proofs
set_option maxRecDepth 10000
set_option maxHeartbeats 4000000 in
theorem spec_MessageOk_fn (m : Message) (hok : okToMessage m) : Eng.Fn E.P 13 [.agg ((Message.c m).map .r)] (.one (.one (.w (.v (.bool (msgOk m)))))) [.agg ((Message.c m).map .r)] := by
 refine Eng.Fn.intro (E := E) (rvs := [.tmp 2]) Try.func13 rfl rfl rfl (by simp [outSlots, moved, rvSlot, sl]) ?_
 intro B g bo
 refine CW.keep 134 [0] rfl ?_;(conv=>whnf);refine ⟨?_⟩
 have hl1 : m.entries.length ≤ maxLen := by have := hok.1.1; simp only [maxLen]; omega
 refine CW.seq ?_
 refine CW.region ?_
 refine RW.k XK 134 1 rfl ?_
 (conv=>whnf);intro b1;(conv=>whnf);refine ⟨rfl,?_⟩
 refine RW.freezeB (ts := (Message.c m)) 1 rfl (DRd.r (DRd.r (DRd.r (DRd.r (DRd.r (DRd.r (DRd.r (DRd.r (DRd.r (DRd.r (DRd.r (DRd.r DRd.e)))))))))))) ?_
 refine RW.k XK 134 1 rfl ?_
 (conv=>whnf);refine ⟨rfl,?_⟩
 refine RW.nil ?_
 refine CW.keep 134 [1] rfl ?_;(conv=>whnf);refine ⟨?_⟩
 refine CW.seq ?_
 refine CW.seqJ 134 (fun (v2 : Bool) => [(1, .rp (Message.c m)), (27, Bo v2)]) (fun v2 => v2 = ((((!(inR m.kind 1 6)) || (!(inR m.from_ 1 4))) || (!(inR m.to 1 4))) || (m.from_ == m.to))) ?_ ?_
 ·refine CW.region ?_
  refine RW.k XK 134 2 rfl ?_
  (conv=>whnf);refine ⟨rfl,?_⟩
  refine RW.call rfl (spec_l01In_fn m.kind 1 6) rfl (.cons (.one (.r .r)) (.cons (.one (.r .r)) (.cons (.one (.r .r)) (.nil)))) fun g3 => ?_
  refine RW.k XK 134 2 rfl ?_
  (conv=>whnf);refine ⟨rfl,?_⟩
  refine RW.gv rfl rfl rfl rfl (fun h4 => V.fieldR rfl rfl rfl rfl (by decide) rfl (Nat.le_of_ble_eq_true rfl)) (fun h4 => ?_) (fun h4 => ?_)
  ·skip
   refine RW.k XK 134 1 rfl ?_
   (conv=>whnf);refine ⟨rfl,?_⟩
   refine RW.gcall rfl rfl rfl rfl (spec_l01In_fn m.from_ 1 4) rfl (.cons (.one (.r .r)) (.cons (.one (.r .r)) (.cons (.one (.r .r)) (.nil)))) fun g5 => ?_
   refine RW.k XK 134 3 rfl ?_
   (conv=>whnf);refine ⟨rfl,?_⟩
   refine RW.gv rfl rfl rfl rfl (fun h6 => V.fieldR rfl rfl rfl rfl (by decide) rfl (Nat.le_of_ble_eq_true rfl)) (fun h6 => ?_) (fun h6 => ?_)
   ·skip
    refine RW.k XK 134 1 rfl ?_
    (conv=>whnf);refine ⟨rfl,?_⟩
    refine RW.gcall rfl rfl rfl rfl (spec_l01In_fn m.to 1 4) rfl (.cons (.one (.r .r)) (.cons (.one (.r .r)) (.cons (.one (.r .r)) (.nil)))) fun g7 => ?_
    refine RW.k XK 134 3 rfl ?_
    (conv=>whnf);refine ⟨rfl,?_⟩
    refine RW.gv rfl rfl rfl rfl (fun h8 => V.fieldR rfl rfl rfl rfl (by decide) rfl (Nat.le_of_ble_eq_true rfl)) (fun h8 => ?_) (fun h8 => ?_)
    ·skip
     refine RW.k XK 134 5 rfl ?_
     (conv=>whnf);refine ⟨rfl,?_⟩
     refine RW.nil ?_
     exact ⟨_, by first | rfl | (simp_all; done) | (simp_all; omega) | grind, rfl, Le.of rfl⟩
    ·skip
     refine RW.k XK 134 5 rfl ?_
     (conv=>whnf);refine ⟨rfl,?_⟩
     refine RW.nil ?_
     exact ⟨_, by first | rfl | (simp_all; done) | (simp_all; omega) | grind, rfl, Le.of rfl⟩
   ·skip
    refine RW.k XK 134 11 rfl ?_
    (conv=>whnf);refine ⟨rfl,?_⟩
    refine RW.nil ?_
    exact ⟨_, by first | rfl | (simp_all; done) | (simp_all; omega) | grind, rfl, Le.of rfl⟩
  ·skip
   refine RW.k XK 134 17 rfl ?_
   (conv=>whnf);refine ⟨rfl,?_⟩
   refine RW.nil ?_
   exact ⟨_, by first | rfl | (simp_all; done) | (simp_all; omega) | grind, rfl, Le.of rfl⟩
 ·intro v2 hv9
  refine CW.cond rfl (fun h10 => ?_) (fun h10 => ?_)
  ·skip
   have hq1 : mo1 m = true := hv9.symm.trans h10
   refine CW.k XK 134 1 [2] rfl ?_
   (conv=>whnf);refine ⟨rfl,?_⟩
   refine CW.ret ?_
   exact Post.one (RV.b rfl (by exact (mok1 hq1).symm)) (AOs.a rfl AOs.e)
  ·skip
   have hq1 : mo1 m = false := hv9.symm.trans h10
   refine CW.skip ?_
   refine CW.keep 134 [1] rfl ?_;(conv=>whnf);refine ⟨?_⟩
   refine CW.seq ?_
   refine CW.seqJ 134 (fun (v11 : Bool) => [(1, .rp (Message.c m)), (49, Bo v11)]) (fun v11 => v11 = ((((!(inR m.term_ 0 100000)) || (!(inR m.logTerm 0 100000))) || (!(inR m.index 0 1000000))) || (!(inR m.commit 0 1000000)))) ?_ ?_
   ·refine CW.region ?_
    refine RW.k XK 134 2 rfl ?_
    (conv=>whnf);refine ⟨rfl,?_⟩
    refine RW.call rfl (spec_l01In_fn m.term_ 0 100000) rfl (.cons (.one (.r .r)) (.cons (.one (.r .r)) (.cons (.one (.r .r)) (.nil)))) fun g12 => ?_
    refine RW.k XK 134 2 rfl ?_
    (conv=>whnf);refine ⟨rfl,?_⟩
    refine RW.gv rfl rfl rfl rfl (fun h13 => V.fieldR rfl rfl rfl rfl (by decide) rfl (Nat.le_of_ble_eq_true rfl)) (fun h13 => ?_) (fun h13 => ?_)
    ·skip
     refine RW.k XK 134 1 rfl ?_
     (conv=>whnf);refine ⟨rfl,?_⟩
     refine RW.gcall rfl rfl rfl rfl (spec_l01In_fn m.logTerm 0 100000) rfl (.cons (.one (.r .r)) (.cons (.one (.r .r)) (.cons (.one (.r .r)) (.nil)))) fun g14 => ?_
     refine RW.k XK 134 3 rfl ?_
     (conv=>whnf);refine ⟨rfl,?_⟩
     refine RW.gv rfl rfl rfl rfl (fun h15 => V.fieldR rfl rfl rfl rfl (by decide) rfl (Nat.le_of_ble_eq_true rfl)) (fun h15 => ?_) (fun h15 => ?_)
     ·skip
      refine RW.k XK 134 1 rfl ?_
      (conv=>whnf);refine ⟨rfl,?_⟩
      refine RW.gcall rfl rfl rfl rfl (spec_l01In_fn m.index 0 1000000) rfl (.cons (.one (.r .r)) (.cons (.one (.r .r)) (.cons (.one (.r .r)) (.nil)))) fun g16 => ?_
      refine RW.k XK 134 3 rfl ?_
      (conv=>whnf);refine ⟨rfl,?_⟩
      refine RW.gv rfl rfl rfl rfl (fun h17 => V.fieldR rfl rfl rfl rfl (by decide) rfl (Nat.le_of_ble_eq_true rfl)) (fun h17 => ?_) (fun h17 => ?_)
      ·skip
       refine RW.k XK 134 1 rfl ?_
       (conv=>whnf);refine ⟨rfl,?_⟩
       refine RW.gcall rfl rfl rfl rfl (spec_l01In_fn m.commit 0 1000000) rfl (.cons (.one (.r .r)) (.cons (.one (.r .r)) (.cons (.one (.r .r)) (.nil)))) fun g18 => ?_
       refine RW.k XK 134 2 rfl ?_
       (conv=>whnf);refine ⟨rfl,?_⟩
       refine RW.nil ?_
       exact ⟨_, by first | rfl | (simp_all; done) | (simp_all; omega) | grind, rfl, Le.of rfl⟩
      ·skip
       refine RW.k XK 134 4 rfl ?_
       (conv=>whnf);refine ⟨rfl,?_⟩
       refine RW.nil ?_
       exact ⟨_, by first | rfl | (simp_all; done) | (simp_all; omega) | grind, rfl, Le.of rfl⟩
     ·skip
      refine RW.k XK 134 10 rfl ?_
      (conv=>whnf);refine ⟨rfl,?_⟩
      refine RW.nil ?_
      exact ⟨_, by first | rfl | (simp_all; done) | (simp_all; omega) | grind, rfl, Le.of rfl⟩
    ·skip
     refine RW.k XK 134 16 rfl ?_
     (conv=>whnf);refine ⟨rfl,?_⟩
     refine RW.nil ?_
     exact ⟨_, by first | rfl | (simp_all; done) | (simp_all; omega) | grind, rfl, Le.of rfl⟩
   ·intro v11 hv19
    refine CW.cond rfl (fun h20 => ?_) (fun h20 => ?_)
    ·skip
     have hq2 : mo2 m = true := hv19.symm.trans h20
     refine CW.k XK 134 1 [2] rfl ?_
     (conv=>whnf);refine ⟨rfl,?_⟩
     refine CW.ret ?_
     exact Post.one (RV.b rfl (by exact (mok2 hq1 hq2).symm)) (AOs.a rfl AOs.e)
    ·skip
     have hq2 : mo2 m = false := hv19.symm.trans h20
     refine CW.skip ?_
     refine CW.keep 134 [1] rfl ?_;(conv=>whnf);refine ⟨?_⟩
     refine CW.seq ?_
     refine CW.seqJ 134 (fun (v21 : Bool) => [(1, .rp (Message.c m)), (64, Bo v21)]) (fun v21 => v21 = (decide ((m.entries.length : Int) > 4) || (decide ((m.entries.length : Int) > 0) && (m.kind != 3)))) ?_ ?_
     ·refine CW.region ?_
      refine RW.k XK 134 5 rfl ?_
      (conv=>whnf);refine ⟨rfl,?_⟩
      refine RW.gv rfl rfl rfl rfl (fun h22 => V.fieldR rfl rfl rfl rfl (by decide) rfl (Nat.le_of_ble_eq_true rfl)) (fun h22 => ?_) (fun h22 => ?_)
      ·skip
       refine RW.k XK 134 4 rfl ?_
       (conv=>whnf);refine ⟨rfl,?_⟩
       refine RW.gv rfl rfl rfl rfl (fun h23 => V.fieldR rfl rfl rfl rfl (by decide) rfl (Nat.le_of_ble_eq_true rfl)) (fun h23 => ?_) (fun h23 => ?_)
       ·skip
        refine RW.k XK 134 4 rfl ?_
        (conv=>whnf);refine ⟨rfl,?_⟩
        refine RW.nil ?_
        exact ⟨_, by first | rfl | (simp_all; done) | (simp_all; omega) | grind, rfl, Le.of rfl⟩
       ·skip
        refine RW.k XK 134 4 rfl ?_
        (conv=>whnf);refine ⟨rfl,?_⟩
        refine RW.nil ?_
        exact ⟨_, by first | rfl | (simp_all; done) | (simp_all; omega) | grind, rfl, Le.of rfl⟩
      ·skip
       refine RW.k XK 134 9 rfl ?_
       (conv=>whnf);refine ⟨rfl,?_⟩
       refine RW.nil ?_
       exact ⟨_, by first | rfl | (simp_all; done) | (simp_all; omega) | grind, rfl, Le.of rfl⟩
     ·intro v21 hv24
      refine CW.cond rfl (fun h25 => ?_) (fun h25 => ?_)
      ·skip
       have hq3 : mo3 m = true := hv24.symm.trans h25
       refine CW.k XK 134 1 [2] rfl ?_
       (conv=>whnf);refine ⟨rfl,?_⟩
       refine CW.ret ?_
       exact Post.one (RV.b rfl (by exact (mok3 hq1 hq2 hq3).symm)) (AOs.a rfl AOs.e)
      ·skip
       have hq3 : mo3 m = false := hv24.symm.trans h25
       refine CW.skip ?_
       refine CW.keep 134 [1] rfl ?_;(conv=>whnf);refine ⟨?_⟩
       refine CW.k XK 134 1 [1,3] rfl ?_
       (conv=>whnf);refine ⟨rfl,?_⟩
       refine CW.seq ?_
       refine CW.k XK 134 1 [1,3,4] rfl ?_
       (conv=>whnf);refine ⟨rfl,?_⟩
       refine CW.block ?_
       refine CW.loopI 134 (fun (zz : Nat × Int) => match zz with | (i, u) => [(1, .rp (Message.c m)), (3, I u), (4, I (i : Int))]) (fun (zz : Nat × Int) => match zz with | (i, u) => i ≤ m.entries.length ∧ msgTerms m.term_ u (m.entries.drop i) = msgTerms m.term_ m.logTerm m.entries) (fun (zz : Nat × Int) => match zz with | (i, u) => m.entries.length - i) (0, _) rfl (Le.c rfl <| Le.c rfl <| Le.c rfl <| Le.e) ⟨by omega, rfl⟩ ?_
       rintro ⟨i, u⟩ ⟨hb, hr⟩
       refine CW.seq ?_
       refine CW.k XK 134 1 [1,3,4,71] rfl ?_
       (conv=>whnf);refine ⟨rfl,?_⟩
       refine CW.cond rfl (fun h26 => ?_) (fun h26 => ?_)
       ·skip
        have hii : i < m.entries.length := by have := h26; simp at this; first | exact this | omega | (simp; done) | (simp; omega)
        obtain ⟨ei, hei⟩ : ∃ e, m.entries[i]? = some e := ⟨_, List.getElem?_eq_getElem hii⟩
        have hdi := drop_get hei
        refine CW.skip ?_
        refine CW.keep 134 [1,3,4] rfl ?_;(conv=>whnf);refine ⟨?_⟩
        refine CW.seq ?_
        refine CW.block ?_
        refine CW.seq ?_
        refine CW.seqJ 134 (fun (v27 : Bool) => [(1, .rp (Message.c m)), (4, I (i : Int)), (101, Bo v27)]) (fun v27 => v27 = (((!(entOk ei)) || decide (ei.term_ < u)) || decide (ei.term_ > m.term_))) ?_ ?_
        ·refine CW.drawn (by kernel_rfl) ?_
         refine RQ.k XK 134 3 rfl ?_
         (conv=>whnf);refine ⟨rfl,?_⟩
         refine RQ.v rfl (V.indexS rfl rfl rfl rfl rfl rfl Entry.len hei) ?_
         refine RQ.k XK 134 1 rfl ?_
         (conv=>whnf);refine ⟨rfl,?_⟩
         refine RQ.cons rfl (QOK.call (spec_EntryOk_fn ei (hok.1.2 ei (List.mem_of_getElem? hei))) rfl (.cons (.agg (.cons (.r .r) (.cons (.r .r) (.cons (.r .r) (.nil))))) (.nil)) ?_)
         refine RQ.k XK 134 2 rfl ?_
         (conv=>whnf);refine ⟨rfl,?_⟩
         refine RQ.gv rfl rfl rfl rfl (fun h28 => V.fieldR rfl rfl rfl rfl (by decide) rfl (Nat.le_of_ble_eq_true rfl)) (fun h28 => ?_) (fun h28 => ?_)
         ·skip
          refine RQ.k XK 134 2 rfl ?_
          (conv=>whnf);refine ⟨rfl,?_⟩
          refine RQ.gt rfl rfl rfl rfl (V.indexS rfl rfl rfl rfl rfl rfl Entry.len hei) ?_
          refine RQ.k XK 134 6 rfl ?_
          (conv=>whnf);refine ⟨rfl,?_⟩
          refine RQ.gv rfl rfl rfl rfl (fun h29 => V.fieldR rfl rfl rfl rfl (by decide) rfl (Nat.le_of_ble_eq_true rfl)) (fun h29 => ?_) (fun h29 => ?_)
          ·skip
           refine RQ.k XK 134 2 rfl ?_
           (conv=>whnf);refine ⟨rfl,?_⟩
           refine RQ.gt rfl rfl rfl rfl (V.indexS rfl rfl rfl rfl rfl rfl Entry.len hei) ?_
           refine RQ.k XK 134 6 rfl ?_
           (conv=>whnf);refine ⟨rfl,?_⟩
           refine RQ.nil ?_
           exact ⟨_, by first | rfl | (simp_all; done) | (simp_all; omega) | grind, rfl, Le.of rfl⟩
          ·skip
           refine RQ.k XK 134 9 rfl ?_
           (conv=>whnf);refine ⟨rfl,?_⟩
           refine RQ.nil ?_
           exact ⟨_, by first | rfl | (simp_all; done) | (simp_all; omega) | grind, rfl, Le.of rfl⟩
         ·skip
          refine RQ.k XK 134 19 rfl ?_
          (conv=>whnf);refine ⟨rfl,?_⟩
          refine RQ.nil ?_
          exact ⟨_, by first | rfl | (simp_all; done) | (simp_all; omega) | grind, rfl, Le.of rfl⟩
        ·intro v27 hv30
         refine CW.cond rfl (fun h31 => ?_) (fun h31 => ?_)
         ·skip
          have hww := hv30.symm.trans h31
          have htm : msgTerms m.term_ m.logTerm m.entries = false := by rw [← hr, takeT hei, if_pos hww]
          refine CW.k XK 134 1 [2] rfl ?_
          (conv=>whnf);refine ⟨rfl,?_⟩
          refine CW.ret ?_
          exact Post.one (RV.b rfl (by exact (mokT htm).symm)) (AOs.a rfl AOs.e)
         ·skip
          have hww := hv30.symm.trans h31
          refine CW.skip ?_
          refine CW.keep 134 [1,4] rfl ?_;(conv=>whnf);refine ⟨?_⟩
          refine CW.region ?_
          refine RW.k XK 134 3 rfl ?_
          (conv=>whnf);refine ⟨rfl,?_⟩
          refine RW.v rfl (V.indexS rfl rfl rfl rfl rfl rfl Entry.len hei) ?_
          refine RW.k XK 134 3 rfl ?_
          (conv=>whnf);refine ⟨rfl,?_⟩
          refine RW.nil ?_
          refine CW.keep 134 [1,3,4] rfl ?_;(conv=>whnf);refine ⟨?_⟩
          refine CW.region ?_
          refine RW.k XK 134 1 rfl ?_
          (conv=>whnf);refine ⟨rfl,?_⟩
          refine RW.v rfl (V.inc rfl rfl rfl hii hl1) ?_
          refine RW.k XK 134 1 rfl ?_
          (conv=>whnf);refine ⟨rfl,?_⟩
          refine RW.nil ?_
          exact ⟨(i + 1, ei.term_), by simp only []; omega, ⟨by omega, by rw [← hr, takeT hei, if_neg (by rw [hww]; simp)]⟩, rfl, Le.c rfl <| Le.c rfl <| Le.c rfl <| Le.e⟩
       ·skip
        have hii : m.entries.length ≤ i := by have := h26; simp at this; first | exact this | omega | (simp; done) | (simp; omega)
        have hdi : m.entries.drop i = [] := List.drop_eq_nil_of_le hii
        refine CW.exit ?_
        refine CW.keep 134 [1] rfl ?_;(conv=>whnf);refine ⟨?_⟩
        refine CW.seq ?_
        refine CW.k XK 134 1 [1,110] rfl ?_
        (conv=>whnf);refine ⟨rfl,?_⟩
        refine CW.cond rfl (fun h32 => ?_) (fun h32 => ?_)
        ·skip
         have htm : msgTerms m.term_ m.logTerm m.entries = true := by rw [← hr, List.drop_of_length_le hii]; rfl
         have hk5 := h32
         refine CW.seqJ 134 (fun (v33 : Bool) => [(2, Bo v33)]) (fun v33 => v33 = ((confOk m.conf) && decide ((m.data.size : Int) ≤ 60))) ?_ ?_
         ·refine CW.region ?_
          refine RW.k XK 134 2 rfl ?_
          (conv=>whnf);refine ⟨rfl,?_⟩
          refine RW.call rfl (spec_ConfOk_fn m.conf) rfl (.cons (.one (.r .r)) (.nil)) fun g34 => ?_
          refine RW.k XK 134 1 rfl ?_
          (conv=>whnf);refine ⟨rfl,?_⟩
          refine RW.gv rfl rfl rfl rfl (fun h35 => V.fieldR rfl rfl rfl rfl (by decide) rfl (Nat.le_of_ble_eq_true rfl)) (fun h35 => ?_) (fun h35 => ?_)
          ·skip
           refine RW.k XK 134 5 rfl ?_
           (conv=>whnf);refine ⟨rfl,?_⟩
           refine RW.nil ?_
           exact ⟨_, by first | rfl | (simp_all; done) | (simp_all; omega) | grind, rfl, Le.of rfl⟩
          ·skip
           refine RW.k XK 134 5 rfl ?_
           (conv=>whnf);refine ⟨rfl,?_⟩
           refine RW.nil ?_
           exact ⟨_, by first | rfl | (simp_all; done) | (simp_all; omega) | grind, rfl, Le.of rfl⟩
         ·intro v33 hv36
          refine CW.ret ?_
          exact Post.one (RV.b rfl (by rw [mok4 hq1 hq2 hq3 htm, mo4, if_pos hk5]; assumption)) (AOs.a rfl AOs.e)
        ·skip
         have htm : msgTerms m.term_ m.logTerm m.entries = true := by rw [← hr, List.drop_of_length_le hii]; rfl
         have hk5 := h32
         refine CW.skip ?_
         refine CW.keep 134 [1] rfl ?_;(conv=>whnf);refine ⟨?_⟩
         refine CW.seqJ 134 (fun (v37 : Bool) => [(2, Bo v37)]) (fun v37 => v37 = ((((m.conf.length : Int) == 0) && (m.data.toList == (⟨#[]⟩ : ByteArray).toList)) && (!m.last))) ?_ ?_
         ·refine CW.region ?_
          refine RW.k XK 134 5 rfl ?_
          (conv=>whnf);refine ⟨rfl,?_⟩
          refine RW.gv rfl rfl rfl rfl (fun h38 => V.fieldR rfl rfl rfl rfl (by decide) rfl (Nat.le_of_ble_eq_true rfl)) (fun h38 => ?_) (fun h38 => ?_)
          ·skip
           refine RW.k XK 134 4 rfl ?_
           (conv=>whnf);refine ⟨rfl,?_⟩
           refine RW.gv rfl rfl rfl rfl (fun h39 => V.fieldR rfl rfl rfl rfl (by decide) rfl (Nat.le_of_ble_eq_true rfl)) (fun h39 => ?_) (fun h39 => ?_)
           ·skip
            refine RW.k XK 134 4 rfl ?_
            (conv=>whnf);refine ⟨rfl,?_⟩
            refine RW.nil ?_
            exact ⟨_, by first | rfl | (simp_all; done) | (simp_all; omega) | grind, rfl, Le.of rfl⟩
           ·skip
            refine RW.k XK 134 4 rfl ?_
            (conv=>whnf);refine ⟨rfl,?_⟩
            refine RW.nil ?_
            exact ⟨_, by first | rfl | (simp_all; done) | (simp_all; omega) | grind, rfl, Le.of rfl⟩
          ·skip
           refine RW.k XK 134 9 rfl ?_
           (conv=>whnf);refine ⟨rfl,?_⟩
           refine RW.nil ?_
           exact ⟨_, by first | rfl | (simp_all; done) | (simp_all; omega) | grind, rfl, Le.of rfl⟩
         ·intro v37 hv40
          refine CW.ret ?_
          exact Post.one (RV.b rfl (by rw [mok4 hq1 hq2 hq3 htm, mo4, if_neg (by rw [hk5]; simp)]; assumption)) (AOs.a rfl AOs.e)
set_option maxHeartbeats 4000000 in
theorem impl_MessageOk_fn (m : Message) (hok : okToMessage m) : Eng.Fn E.P 14 [.agg ((Message.c m).map .r)] (.one (.one (.w (.v (.bool (msgOk m)))))) [.agg ((Message.c m).map .r)] := by
 refine Eng.Fn.intro (E := E) (rvs := [.tmp 2]) Try.func14 rfl rfl rfl (by simp [outSlots, moved, rvSlot, sl]) ?_
 intro B g bo
 refine CW.keep 137 [0] rfl ?_;(conv=>whnf);refine ⟨?_⟩
 have hl1 : m.entries.length ≤ maxLen := by have := hok.1.1; simp only [maxLen]; omega
 refine CW.seq ?_
 refine CW.region ?_
 refine RW.k XK 137 1 rfl ?_
 (conv=>whnf);intro b1;(conv=>whnf);refine ⟨rfl,?_⟩
 refine RW.freezeB (ts := (Message.c m)) 1 rfl (DRd.r (DRd.r (DRd.r (DRd.r (DRd.r (DRd.r (DRd.r (DRd.r (DRd.r (DRd.r (DRd.r (DRd.r DRd.e)))))))))))) ?_
 refine RW.k XK 137 1 rfl ?_
 (conv=>whnf);refine ⟨rfl,?_⟩
 refine RW.nil ?_
 refine CW.keep 137 [1] rfl ?_;(conv=>whnf);refine ⟨?_⟩
 refine CW.seq ?_
 refine CW.seqJ 137 (fun (v2 : Bool) => [(1, .rp (Message.c m)), (43, Bo v2)]) (fun v2 => v2 = ((((((!(inR m.kind 1 6)) || (!(inR m.from_ 1 4))) || (!(inR m.to 1 4))) || (m.from_ == m.to)) || (!(inR m.term_ 0 100000))) || (!(inR m.logTerm 0 100000)))) ?_ ?_
 ·refine CW.region ?_
  refine RW.k XK 137 2 rfl ?_
  (conv=>whnf);refine ⟨rfl,?_⟩
  refine RW.call rfl (impl_within_fn m.kind 1 6) rfl (.cons (.one (.r .r)) (.cons (.one (.r .r)) (.cons (.one (.r .r)) (.nil)))) fun g3 => ?_
  refine RW.k XK 137 2 rfl ?_
  (conv=>whnf);refine ⟨rfl,?_⟩
  refine RW.gv rfl rfl rfl rfl (fun h4 => V.fieldR rfl rfl rfl rfl (by decide) rfl (Nat.le_of_ble_eq_true rfl)) (fun h4 => ?_) (fun h4 => ?_)
  ·skip
   refine RW.k XK 137 1 rfl ?_
   (conv=>whnf);refine ⟨rfl,?_⟩
   refine RW.gcall rfl rfl rfl rfl (impl_isNode_fn m.from_) rfl (.cons (.one (.r .r)) (.nil)) fun g5 => ?_
   refine RW.k XK 137 3 rfl ?_
   (conv=>whnf);refine ⟨rfl,?_⟩
   refine RW.gv rfl rfl rfl rfl (fun h6 => V.fieldR rfl rfl rfl rfl (by decide) rfl (Nat.le_of_ble_eq_true rfl)) (fun h6 => ?_) (fun h6 => ?_)
   ·skip
    refine RW.k XK 137 1 rfl ?_
    (conv=>whnf);refine ⟨rfl,?_⟩
    refine RW.gcall rfl rfl rfl rfl (impl_isNode_fn m.to) rfl (.cons (.one (.r .r)) (.nil)) fun g7 => ?_
    refine RW.k XK 137 3 rfl ?_
    (conv=>whnf);refine ⟨rfl,?_⟩
    refine RW.gv rfl rfl rfl rfl (fun h8 => V.fieldR rfl rfl rfl rfl (by decide) rfl (Nat.le_of_ble_eq_true rfl)) (fun h8 => ?_) (fun h8 => ?_)
    ·skip
     refine RW.k XK 137 6 rfl ?_
     (conv=>whnf);refine ⟨rfl,?_⟩
     refine RW.gv rfl rfl rfl rfl (fun h9 => V.fieldR rfl rfl rfl rfl (by decide) rfl (Nat.le_of_ble_eq_true rfl)) (fun h9 => ?_) (fun h9 => ?_)
     ·skip
      refine RW.k XK 137 1 rfl ?_
      (conv=>whnf);refine ⟨rfl,?_⟩
      refine RW.gcall rfl rfl rfl rfl (impl_isTerm_fn m.term_) rfl (.cons (.one (.r .r)) (.nil)) fun g10 => ?_
      refine RW.k XK 137 3 rfl ?_
      (conv=>whnf);refine ⟨rfl,?_⟩
      refine RW.gv rfl rfl rfl rfl (fun h11 => V.fieldR rfl rfl rfl rfl (by decide) rfl (Nat.le_of_ble_eq_true rfl)) (fun h11 => ?_) (fun h11 => ?_)
      ·skip
       refine RW.k XK 137 1 rfl ?_
       (conv=>whnf);refine ⟨rfl,?_⟩
       refine RW.gcall rfl rfl rfl rfl (impl_isTerm_fn m.logTerm) rfl (.cons (.one (.r .r)) (.nil)) fun g12 => ?_
       refine RW.k XK 137 2 rfl ?_
       (conv=>whnf);refine ⟨rfl,?_⟩
       refine RW.nil ?_
       exact ⟨_, by first | rfl | (simp_all; done) | (simp_all; omega) | grind, rfl, Le.of rfl⟩
      ·skip
       refine RW.k XK 137 4 rfl ?_
       (conv=>whnf);refine ⟨rfl,?_⟩
       refine RW.nil ?_
       exact ⟨_, by first | rfl | (simp_all; done) | (simp_all; omega) | grind, rfl, Le.of rfl⟩
     ·skip
      refine RW.k XK 137 10 rfl ?_
      (conv=>whnf);refine ⟨rfl,?_⟩
      refine RW.nil ?_
      exact ⟨_, by first | rfl | (simp_all; done) | (simp_all; omega) | grind, rfl, Le.of rfl⟩
    ·skip
     refine RW.k XK 137 17 rfl ?_
     (conv=>whnf);refine ⟨rfl,?_⟩
     refine RW.nil ?_
     exact ⟨_, by first | rfl | (simp_all; done) | (simp_all; omega) | grind, rfl, Le.of rfl⟩
   ·skip
    refine RW.k XK 137 23 rfl ?_
    (conv=>whnf);refine ⟨rfl,?_⟩
    refine RW.nil ?_
    exact ⟨_, by first | rfl | (simp_all; done) | (simp_all; omega) | grind, rfl, Le.of rfl⟩
  ·skip
   refine RW.k XK 137 29 rfl ?_
   (conv=>whnf);refine ⟨rfl,?_⟩
   refine RW.nil ?_
   exact ⟨_, by first | rfl | (simp_all; done) | (simp_all; omega) | grind, rfl, Le.of rfl⟩
 ·intro v2 hv13
  refine CW.cond rfl (fun h14 => ?_) (fun h14 => ?_)
  ·skip
   have hq1 : mi1 m = true := hv13.symm.trans h14
   refine CW.k XK 137 1 [2] rfl ?_
   (conv=>whnf);refine ⟨rfl,?_⟩
   refine CW.ret ?_
   exact Post.one (RV.b rfl (by exact (mokI1 hq1).symm)) (AOs.a rfl AOs.e)
  ·skip
   have hq1 : mi1 m = false := hv13.symm.trans h14
   refine CW.skip ?_
   refine CW.keep 137 [1] rfl ?_;(conv=>whnf);refine ⟨?_⟩
   refine CW.k XK 137 1 [1,3] rfl ?_
   (conv=>whnf);refine ⟨rfl,?_⟩
   refine CW.seq ?_
   refine CW.k XK 137 1 [1,3,47,48,49] rfl ?_
   (conv=>whnf);refine ⟨rfl,?_⟩
   refine CW.block ?_
   refine CW.loopI 137 (fun (zz : Nat × Int) => match zz with | (i, u) => [(1, .rp (Message.c m)), (3, I u), (47, .r (sl 3 Entry.c m.entries)), (48, I (m.entries.length : Int)), (49, I (i : Int))]) (fun (zz : Nat × Int) => match zz with | (i, u) => i ≤ m.entries.length ∧ msgTerms m.term_ u (m.entries.drop i) = msgTerms m.term_ m.logTerm m.entries) (fun (zz : Nat × Int) => match zz with | (i, u) => m.entries.length - i) (0, _) rfl (Le.c rfl <| Le.c rfl <| Le.c rfl <| Le.c rfl <| Le.c rfl <| Le.e) ⟨by omega, rfl⟩ ?_
   rintro ⟨i, u⟩ ⟨hb, hr⟩
   refine CW.k XK 137 1 [1,3,47,48,49,50] rfl ?_
   (conv=>whnf);refine ⟨rfl,?_⟩
   refine CW.seq ?_
   refine CW.cond rfl (fun h15 => ?_) (fun h15 => ?_)
   ·skip
    have hii : i < m.entries.length := by have := h15; simp at this; first | exact this | omega | (simp; done) | (simp; omega)
    obtain ⟨ei, hei⟩ : ∃ e, m.entries[i]? = some e := ⟨_, List.getElem?_eq_getElem hii⟩
    have hdi := drop_get hei
    refine CW.skip ?_
    refine CW.keep 137 [1,3,47,48,49] rfl ?_;(conv=>whnf);refine ⟨?_⟩
    refine CW.seq ?_
    refine CW.block ?_
    refine CW.seq ?_
    refine CW.region ?_
    refine RW.v rfl (V.indexS rfl rfl rfl rfl rfl rfl Entry.len hei) ?_
    refine RW.k XK 137 3 rfl ?_
    (conv=>whnf);intro b16;(conv=>whnf);refine ⟨rfl,?_⟩
    refine RW.freezeB (ts := (Entry.c ei)) 5 rfl (DRd.r (DRd.r (DRd.r DRd.e))) ?_
    refine RW.nil ?_
    refine CW.keep 137 [1,3,5,47,48,49] rfl ?_;(conv=>whnf);refine ⟨?_⟩
    refine CW.seq ?_
    refine CW.seqJ 137 (fun (v17 : Bool) => [(1, .rp (Message.c m)), (5, .rp (Entry.c ei)), (47, .r (sl 3 Entry.c m.entries)), (48, I (m.entries.length : Int)), (49, I (i : Int)), (68, Bo v17)]) (fun v17 => v17 = (((!(entOk ei)) || decide (ei.term_ < u)) || decide (ei.term_ > m.term_))) ?_ ?_
    ·refine CW.region ?_
     refine RW.k XK 137 1 rfl ?_
     (conv=>whnf);refine ⟨rfl,?_⟩
     refine RW.call rfl (impl_EntryOk_fn ei (hok.1.2 ei (List.mem_of_getElem? hei))) rfl (.cons (.agg (.cons (.r .r) (.cons (.r .r) (.cons (.r .r) (.nil))))) (.nil)) fun g18 => ?_
     refine RW.k XK 137 2 rfl ?_
     (conv=>whnf);refine ⟨rfl,?_⟩
     refine RW.gv rfl rfl rfl rfl (fun h19 => V.fieldR rfl rfl rfl rfl (by decide) rfl (Nat.le_of_ble_eq_true rfl)) (fun h19 => ?_) (fun h19 => ?_)
     ·skip
      refine RW.k XK 137 5 rfl ?_
      (conv=>whnf);refine ⟨rfl,?_⟩
      refine RW.gv rfl rfl rfl rfl (fun h20 => V.fieldR rfl rfl rfl rfl (by decide) rfl (Nat.le_of_ble_eq_true rfl)) (fun h20 => ?_) (fun h20 => ?_)
      ·skip
       refine RW.k XK 137 5 rfl ?_
       (conv=>whnf);refine ⟨rfl,?_⟩
       refine RW.nil ?_
       exact ⟨_, by first | rfl | (simp_all; done) | (simp_all; omega) | grind, rfl, Le.of rfl⟩
      ·skip
       refine RW.k XK 137 5 rfl ?_
       (conv=>whnf);refine ⟨rfl,?_⟩
       refine RW.nil ?_
       exact ⟨_, by first | rfl | (simp_all; done) | (simp_all; omega) | grind, rfl, Le.of rfl⟩
     ·skip
      refine RW.k XK 137 11 rfl ?_
      (conv=>whnf);refine ⟨rfl,?_⟩
      refine RW.nil ?_
      exact ⟨_, by first | rfl | (simp_all; done) | (simp_all; omega) | grind, rfl, Le.of rfl⟩
    ·intro v17 hv21
     refine CW.cond rfl (fun h22 => ?_) (fun h22 => ?_)
     ·skip
      have hww := hv21.symm.trans h22
      have htm : msgTerms m.term_ m.logTerm m.entries = false := by rw [← hr, takeT hei, if_pos hww]
      refine CW.k XK 137 1 [2] rfl ?_
      (conv=>whnf);refine ⟨rfl,?_⟩
      refine CW.ret ?_
      exact Post.one (RV.b rfl (by exact (mokT htm).symm)) (AOs.a rfl AOs.e)
     ·skip
      have hww := hv21.symm.trans h22
      refine CW.skip ?_
      refine CW.keep 137 [1,5,47,48,49] rfl ?_;(conv=>whnf);refine ⟨?_⟩
      refine CW.region ?_
      refine RW.k XK 137 3 rfl ?_
      (conv=>whnf);refine ⟨rfl,?_⟩
      refine RW.nil ?_
      refine CW.keep 137 [1,3,47,48,49] rfl ?_;(conv=>whnf);refine ⟨?_⟩
      refine CW.region ?_
      refine RW.v rfl (V.inc rfl rfl rfl hii hl1) ?_
      refine RW.k XK 137 1 rfl ?_
      (conv=>whnf);refine ⟨rfl,?_⟩
      refine RW.nil ?_
      exact ⟨(i + 1, ei.term_), by simp only []; omega, ⟨by omega, by rw [← hr, takeT hei, if_neg (by rw [hww]; simp)]⟩, rfl, Le.c rfl <| Le.c rfl <| Le.c rfl <| Le.c rfl <| Le.c rfl <| Le.e⟩
   ·skip
    have hii : m.entries.length ≤ i := by have := h15; simp at this; first | exact this | omega | (simp; done) | (simp; omega)
    have hdi : m.entries.drop i = [] := List.drop_eq_nil_of_le hii
    refine CW.exit ?_
    refine CW.keep 137 [1] rfl ?_;(conv=>whnf);refine ⟨?_⟩
    refine CW.seqJ 137 (fun (v23 : Bool) => [(1, .rp (Message.c m)), (6, Bo v23)]) (fun v23 => v23 = (((m.kind == 5) && (confOk m.conf)) && decide ((m.data.size : Int) ≤ 60))) ?_ ?_
    ·refine CW.region ?_
     refine RW.k XK 137 4 rfl ?_
     (conv=>whnf);refine ⟨rfl,?_⟩
     refine RW.gv rfl rfl rfl rfl (fun h24 => V.fieldR rfl rfl rfl rfl (by decide) rfl (Nat.le_of_ble_eq_true rfl)) (fun h24 => ?_) (fun h24 => ?_)
     ·skip
      refine RW.k XK 137 1 rfl ?_
      (conv=>whnf);refine ⟨rfl,?_⟩
      refine RW.gcall rfl rfl rfl rfl (impl_ConfOk_fn m.conf) rfl (.cons (.one (.r .r)) (.nil)) fun g25 => ?_
      refine RW.k XK 137 2 rfl ?_
      (conv=>whnf);refine ⟨rfl,?_⟩
      refine RW.gv rfl rfl rfl rfl (fun h26 => V.fieldR rfl rfl rfl rfl (by decide) rfl (Nat.le_of_ble_eq_true rfl)) (fun h26 => ?_) (fun h26 => ?_)
      ·skip
       refine RW.k XK 137 5 rfl ?_
       (conv=>whnf);refine ⟨rfl,?_⟩
       refine RW.nil ?_
       exact ⟨_, by first | rfl | (simp_all; done) | (simp_all; omega) | grind, rfl, Le.of rfl⟩
      ·skip
       refine RW.k XK 137 5 rfl ?_
       (conv=>whnf);refine ⟨rfl,?_⟩
       refine RW.nil ?_
       exact ⟨_, by first | rfl | (simp_all; done) | (simp_all; omega) | grind, rfl, Le.of rfl⟩
     ·skip
      refine RW.k XK 137 10 rfl ?_
      (conv=>whnf);refine ⟨rfl,?_⟩
      refine RW.nil ?_
      exact ⟨_, by first | rfl | (simp_all; done) | (simp_all; omega) | grind, rfl, Le.of rfl⟩
    ·intro v23 hv27
     refine CW.seqJ 137 (fun (v28 : Bool) => [(1, .rp (Message.c m)), (6, Bo v23), (7, Bo v28)]) (fun v28 => v28 = ((((m.kind != 5) && ((m.conf.length : Int) == 0)) && (m.data.toList == (⟨#[]⟩ : ByteArray).toList)) && (!m.last))) ?_ ?_
     ·refine CW.region ?_
      refine RW.k XK 137 4 rfl ?_
      (conv=>whnf);refine ⟨rfl,?_⟩
      refine RW.gv rfl rfl rfl rfl (fun h29 => V.fieldR rfl rfl rfl rfl (by decide) rfl (Nat.le_of_ble_eq_true rfl)) (fun h29 => ?_) (fun h29 => ?_)
      ·skip
       refine RW.k XK 137 5 rfl ?_
       (conv=>whnf);refine ⟨rfl,?_⟩
       refine RW.gv rfl rfl rfl rfl (fun h30 => V.fieldR rfl rfl rfl rfl (by decide) rfl (Nat.le_of_ble_eq_true rfl)) (fun h30 => ?_) (fun h30 => ?_)
       ·skip
        refine RW.k XK 137 4 rfl ?_
        (conv=>whnf);refine ⟨rfl,?_⟩
        refine RW.gv rfl rfl rfl rfl (fun h31 => V.fieldR rfl rfl rfl rfl (by decide) rfl (Nat.le_of_ble_eq_true rfl)) (fun h31 => ?_) (fun h31 => ?_)
        ·skip
         refine RW.k XK 137 4 rfl ?_
         (conv=>whnf);refine ⟨rfl,?_⟩
         refine RW.nil ?_
         exact ⟨_, by first | rfl | (simp_all; done) | (simp_all; omega) | grind, rfl, Le.of rfl⟩
        ·skip
         refine RW.k XK 137 4 rfl ?_
         (conv=>whnf);refine ⟨rfl,?_⟩
         refine RW.nil ?_
         exact ⟨_, by first | rfl | (simp_all; done) | (simp_all; omega) | grind, rfl, Le.of rfl⟩
       ·skip
        refine RW.k XK 137 9 rfl ?_
        (conv=>whnf);refine ⟨rfl,?_⟩
        refine RW.nil ?_
        exact ⟨_, by first | rfl | (simp_all; done) | (simp_all; omega) | grind, rfl, Le.of rfl⟩
      ·skip
       refine RW.k XK 137 15 rfl ?_
       (conv=>whnf);refine ⟨rfl,?_⟩
       refine RW.nil ?_
       exact ⟨_, by first | rfl | (simp_all; done) | (simp_all; omega) | grind, rfl, Le.of rfl⟩
     ·intro v28 hv32
      refine CW.seqJ 137 (fun (v33 : Bool) => [(1, .rp (Message.c m)), (6, Bo v23), (7, Bo v28), (8, Bo v33)]) (fun v33 => v33 = (((m.entries.length : Int) == 0) || ((m.kind == 3) && decide ((m.entries.length : Int) ≤ 4)))) ?_ ?_
      ·refine CW.region ?_
       refine RW.k XK 137 5 rfl ?_
       (conv=>whnf);refine ⟨rfl,?_⟩
       refine RW.gv rfl rfl rfl rfl (fun h34 => V.fieldR rfl rfl rfl rfl (by decide) rfl (Nat.le_of_ble_eq_true rfl)) (fun h34 => ?_) (fun h34 => ?_)
       ·skip
        refine RW.k XK 137 3 rfl ?_
        (conv=>whnf);refine ⟨rfl,?_⟩
        refine RW.gv rfl rfl rfl rfl (fun h35 => V.fieldR rfl rfl rfl rfl (by decide) rfl (Nat.le_of_ble_eq_true rfl)) (fun h35 => ?_) (fun h35 => ?_)
        ·skip
         refine RW.k XK 137 6 rfl ?_
         (conv=>whnf);refine ⟨rfl,?_⟩
         refine RW.nil ?_
         exact ⟨_, by first | rfl | (simp_all; done) | (simp_all; omega) | grind, rfl, Le.of rfl⟩
        ·skip
         refine RW.k XK 137 6 rfl ?_
         (conv=>whnf);refine ⟨rfl,?_⟩
         refine RW.nil ?_
         exact ⟨_, by first | rfl | (simp_all; done) | (simp_all; omega) | grind, rfl, Le.of rfl⟩
       ·skip
        refine RW.k XK 137 10 rfl ?_
        (conv=>whnf);refine ⟨rfl,?_⟩
        refine RW.nil ?_
        exact ⟨_, by first | rfl | (simp_all; done) | (simp_all; omega) | grind, rfl, Le.of rfl⟩
      ·intro v33 hv36
       refine CW.seqJ 137 (fun (v37 : Bool) => [(2, Bo v37)]) (fun v37 => v37 = ((((inR m.index 0 1000000) && (inR m.commit 0 1000000)) && v33) && (v23 || v28))) ?_ ?_
       ·refine CW.region ?_
        refine RW.k XK 137 2 rfl ?_
        (conv=>whnf);refine ⟨rfl,?_⟩
        refine RW.call rfl (impl_isIndex_fn m.index) rfl (.cons (.one (.r .r)) (.nil)) fun g38 => ?_
        refine RW.k XK 137 1 rfl ?_
        (conv=>whnf);refine ⟨rfl,?_⟩
        refine RW.gv rfl rfl rfl rfl (fun h39 => V.fieldR rfl rfl rfl rfl (by decide) rfl (Nat.le_of_ble_eq_true rfl)) (fun h39 => ?_) (fun h39 => ?_)
        ·skip
         refine RW.k XK 137 1 rfl ?_
         (conv=>whnf);refine ⟨rfl,?_⟩
         refine RW.gcall rfl rfl rfl rfl (impl_isIndex_fn m.commit) rfl (.cons (.one (.r .r)) (.nil)) fun g40 => ?_
         refine RW.k XK 137 2 rfl ?_
         (conv=>whnf);refine ⟨rfl,?_⟩
         refine RW.gv rfl rfl rfl rfl (fun h41 => V.mv (d := Bo v33) rfl rfl) (fun h41 => ?_) (fun h41 => ?_)
         ·skip
          refine RW.k XK 137 2 rfl ?_
          (conv=>whnf);refine ⟨rfl,?_⟩
          refine RW.gv rfl rfl rfl rfl (fun h42 => V.mv (d := Bo v23) rfl rfl) (fun h42 => ?_) (fun h42 => ?_)
          ·skip
           refine RW.k XK 137 1 rfl ?_
           (conv=>whnf);refine ⟨rfl,?_⟩
           refine RW.gv rfl rfl rfl rfl (fun h43 => V.mv (d := Bo v28) rfl rfl) (fun h43 => ?_) (fun h43 => ?_)
           ·skip
            refine RW.k XK 137 3 rfl ?_
            (conv=>whnf);refine ⟨rfl,?_⟩
            refine RW.nil ?_
            exact ⟨_, by first | rfl | (simp_all; done) | (simp_all; omega) | grind, rfl, Le.of rfl⟩
           ·skip
            refine RW.k XK 137 3 rfl ?_
            (conv=>whnf);refine ⟨rfl,?_⟩
            refine RW.nil ?_
            exact ⟨_, by first | rfl | (simp_all; done) | (simp_all; omega) | grind, rfl, Le.of rfl⟩
          ·skip
           refine RW.k XK 137 5 rfl ?_
           (conv=>whnf);refine ⟨rfl,?_⟩
           refine RW.nil ?_
           exact ⟨_, by first | rfl | (simp_all; done) | (simp_all; omega) | grind, rfl, Le.of rfl⟩
         ·skip
          refine RW.k XK 137 8 rfl ?_
          (conv=>whnf);refine ⟨rfl,?_⟩
          refine RW.nil ?_
          exact ⟨_, by first | rfl | (simp_all; done) | (simp_all; omega) | grind, rfl, Le.of rfl⟩
        ·skip
         refine RW.k XK 137 13 rfl ?_
         (conv=>whnf);refine ⟨rfl,?_⟩
         refine RW.nil ?_
         exact ⟨_, by first | rfl | (simp_all; done) | (simp_all; omega) | grind, rfl, Le.of rfl⟩
       ·intro v37 hv44
        refine CW.ret ?_
        exact Post.one (RV.b rfl (by rw [hv44, show v33 = miE m from hv36, show v23 = miI m from hv27, show v28 = miN m from hv32]; exact mokI hq1 (by rw [← hr, List.drop_of_length_le hii] <;> rfl))) (AOs.a rfl AOs.e)
set_option maxHeartbeats 4000000 in
theorem spec_Encode_fn (m : Message) (hok : okToMessage m) : Eng.Fn E.P 22 [.agg ((Message.c m).map .r)] (.tup [.one (.w (.v (.string ((msgT m).1)))), .one (.w (.v (.bool ((msgT m).2))))]) [.agg ((Message.c m).map .r)] := by
 refine Eng.Fn.intro (E := E) (rvs := [.tmp 2, .tmp 3]) Try.func22 rfl rfl rfl (by simp [outSlots, moved, rvSlot, sl]) ?_
 intro B g bo
 refine CW.keep 87 [0] rfl ?_;(conv=>whnf);refine ⟨?_⟩
 have hl1 : m.entries.length ≤ maxLen := by have := hok.1.1; simp only [maxLen]; omega
 refine CW.seq ?_
 refine CW.region ?_
 refine RW.k XK 87 1 rfl ?_
 (conv=>whnf);intro b1;(conv=>whnf);refine ⟨rfl,?_⟩
 refine RW.freezeB (ts := (Message.c m)) 1 rfl (DRd.r (DRd.r (DRd.r (DRd.r (DRd.r (DRd.r (DRd.r (DRd.r (DRd.r (DRd.r (DRd.r (DRd.r DRd.e)))))))))))) ?_
 refine RW.k XK 87 2 rfl ?_
 (conv=>whnf);refine ⟨rfl,?_⟩
 refine RW.nil ?_
 refine CW.keep 87 [1] rfl ?_;(conv=>whnf);refine ⟨?_⟩
 refine CW.seq ?_
 refine CW.seq ?_
 refine CW.region ?_
 refine RW.k XK 87 1 rfl ?_
 (conv=>whnf);refine ⟨rfl,?_⟩
 refine RW.call rfl (spec_MessageOk_fn m hok) rfl (.cons (.agg (.cons (.r .r) (.cons (.r .r) (.cons (.r .r) (.cons (.r .r) (.cons (.r .r) (.cons (.r .r) (.cons (.r .r) (.cons (.r .r) (.cons (.r .r) (.cons (.r .r) (.cons (.r .r) (.cons (.r .r) (.nil)))))))))))))) (.nil)) fun g2 => ?_
 refine RW.k XK 87 1 rfl ?_
 (conv=>whnf);refine ⟨rfl,?_⟩
 refine RW.nil ?_
 refine CW.keep 87 [1,12] rfl ?_;(conv=>whnf);refine ⟨?_⟩
 refine CW.cond rfl (fun h3 => ?_) (fun h3 => ?_)
 ·skip
  have hmo := nT h3
  refine CW.k XK 87 1 [2,3] rfl ?_
  (conv=>whnf);refine ⟨rfl,?_⟩
  refine CW.ret ?_
  exact Post.tup (by decide) (RVs.c (RV.s rfl (by rw [msgT_no hmo] <;> rfl)) (RVs.c (RV.b rfl (by rw [msgT_no hmo] <;> rfl)) RVs.e)) (AOs.a rfl AOs.e)
 ·skip
  have hmo := nF h3
  have msz := MSz.of hmo
  refine CW.skip ?_
  refine CW.keep 87 [1] rfl ?_;(conv=>whnf);refine ⟨?_⟩
  refine CW.anyJ2 (fc := []) (L0 := [(1, .rp (Message.c m))]) 87 (fun (zz : Value × (Nat → Nat → Value) × (Nat → Nat → Value) × (Nat → Nat → Value) × (Nat → Nat → Value) × (Nat → Nat → Value) × (Nat → Nat → Value) × (Nat → Nat → Value)) => match zz with | (Xo4_9_1, go4_13_1, go4_17_1, go4_21_1, go4_25_1, go4_29_1, go4_33_1, go4_38_1) => [(4, S ((((((((bytesOf ([(IntKind.u8.wrap m.kind), (IntKind.u8.wrap m.from_), (IntKind.u8.wrap m.to)] : List Int)) ++ (varB m.term_.toNat)) ++ (varB m.index.toNat)) ++ (varB m.logTerm.toNat)) ++ (varB m.commit.toNat)) ++ (flagS m.ok)) ++ (flagS m.last)) ++ (varB (m.entries.length : Int).toNat)))]) (fun all hall f hf b0 hb K hK => ?_) ?_
  ·skip
   have ro4_23 : ∀ B, ∀ (Xo4_9_1 : Value), ∀ (go4_13_1 : Nat → Nat → Value), ∀ (go4_17_1 : Nat → Nat → Value), ∀ (go4_21_1 : Nat → Nat → Value), ∀ (go4_25_1 : Nat → Nat → Value), ∀ (go4_29_1 : Nat → Nat → Value), ∀ (go4_33_1 : Nat → Nat → Value), ∀ (go4_38_1 : Nat → Nat → Value), RA f E B all 0 (bt 41 2199023255551) ⟨87, [(4, S ((((((((bytesOf ([(IntKind.u8.wrap m.kind), (IntKind.u8.wrap m.from_), (IntKind.u8.wrap m.to)] : List Int)) ++ (varB m.term_.toNat)) ++ (varB m.index.toNat)) ++ (varB m.logTerm.toNat)) ++ (varB m.commit.toNat)) ++ (flagS m.ok)) ++ (flagS m.last)) ++ (varB (m.entries.length : Int).toNat)))] ++ b0⟩ K := by
    intro B Xo4_9_1 go4_13_1 go4_17_1 go4_21_1 go4_25_1 go4_29_1 go4_33_1 go4_38_1
    exact RA.of2 hall hf hb (RA.finH (Tell.of rfl) (by kernel_rfl) (hK (Xo4_9_1, go4_13_1, go4_17_1, go4_21_1, go4_25_1, go4_29_1, go4_33_1, go4_38_1) _ rfl (Le.of rfl)))
   have ro4_22 : ∀ B, ∀ (Xo4_9_1 : Value), ∀ (go4_13_1 : Nat → Nat → Value), ∀ (go4_17_1 : Nat → Nat → Value), ∀ (go4_21_1 : Nat → Nat → Value), ∀ (go4_25_1 : Nat → Nat → Value), ∀ (go4_29_1 : Nat → Nat → Value), ∀ (go4_33_1 : Nat → Nat → Value), RA f E B all 3 (bt 41 274877906943) ⟨87, [(47, S (((((((bytesOf ([(IntKind.u8.wrap m.kind), (IntKind.u8.wrap m.from_), (IntKind.u8.wrap m.to)] : List Int)) ++ (varB m.term_.toNat)) ++ (varB m.index.toNat)) ++ (varB m.logTerm.toNat)) ++ (varB m.commit.toNat)) ++ (flagS m.ok)) ++ (flagS m.last))), (50, I (m.entries.length : Int))] ++ b0⟩ K := by
    intro B Xo4_9_1 go4_13_1 go4_17_1 go4_21_1 go4_25_1 go4_29_1 go4_33_1
    refine RA.of2 hall hf hb (RA.stepH (L := [38]) (Tell.of rfl) (by kernel_rfl) (by simp) (RA.each ?_ (RA.each0)))
    ·skip
     refine RO.call rfl rfl (spec_l01Var_fn (m.entries.length : Int) (by first | exact msz.e | exact msz.i | exact msz.l | exact msz.c | exact ⟨by omega, by have h9 := msz.n; omega⟩)) rfl (.cons (.one (.r .r)) (.nil)) rfl fun go4_38_1 => ?_
     refine RA.first (i := 39) (ls' := (bt 41 1099511627775)) (Tell.of rfl) (by kernel_rfl) rfl rfl rfl (VF.p (V.cat rfl rfl rfl (by have z1 := msz.z1; have z2 := msz.z2; have z3 := msz.z3; have z4 := msz.z4; have z5 := msz.z5; have z6 := msz.z6; have z7 := msz.z7; have zd := msz.d; first | (simp only [ByteArray.size_append, maxLen, z6, z7]; omega) | (have h9 := hP.size msz; have h8 := entT_size 1 ei; have h7 := shB_size (s := (entT 1 ei).1) (by omega); simp only [ByteArray.size_append, maxLen]; omega) | (have h9 := hP.size msz; have h8 := confText_size (l := m.conf); have h7 := shB_size (s := (confText m.conf).1) (by omega); have h6 := shB_size (s := m.data) (by omega); simp only [ByteArray.size_append, maxLen]; omega)))) ?_
     refine RA.fr XK 87 0 [40] (bt 41 2199023255551) rfl rfl (by kernel_rfl) (Tell.of rfl) ?_
     (conv=>whnf);refine ⟨rfl,fun B=>?_⟩
     exact RA.to2 hall hf hb (ro4_23 B Xo4_9_1 go4_13_1 go4_17_1 go4_21_1 go4_25_1 go4_29_1 go4_33_1 go4_38_1) rfl rfl (by kernel_rfl)
   have ro4_21 : ∀ B, ∀ (Xo4_9_1 : Value), ∀ (go4_13_1 : Nat → Nat → Value), ∀ (go4_17_1 : Nat → Nat → Value), ∀ (go4_21_1 : Nat → Nat → Value), ∀ (go4_25_1 : Nat → Nat → Value), ∀ (go4_29_1 : Nat → Nat → Value), RA f E B all 5 (bt 41 249108103167) ⟨87, [(43, S ((((((bytesOf ([(IntKind.u8.wrap m.kind), (IntKind.u8.wrap m.from_), (IntKind.u8.wrap m.to)] : List Int)) ++ (varB m.term_.toNat)) ++ (varB m.index.toNat)) ++ (varB m.logTerm.toNat)) ++ (varB m.commit.toNat)) ++ (flagS m.ok))), (45, Bo m.last), (50, I (m.entries.length : Int))] ++ b0⟩ K := by
    intro B Xo4_9_1 go4_13_1 go4_17_1 go4_21_1 go4_25_1 go4_29_1
    refine RA.of2 hall hf hb (RA.stepH (L := [33]) (Tell.of rfl) (by kernel_rfl) (by simp) (RA.each ?_ (RA.each0)))
    ·skip
     refine RO.call rfl rfl (spec_l17Flag_fn m.last) rfl (.cons (.one (.r .r)) (.nil)) rfl fun go4_33_1 => ?_
     refine RA.first (i := 34) (ls' := (bt 41 274877906943)) (Tell.of rfl) (by kernel_rfl) rfl rfl rfl (VF.p (V.cat rfl rfl rfl (by have z1 := msz.z1; have z2 := msz.z2; have z3 := msz.z3; have z4 := msz.z4; have z5 := msz.z5; have z6 := msz.z6; have z7 := msz.z7; have zd := msz.d; first | (simp only [ByteArray.size_append, maxLen, z6, z7]; omega) | (have h9 := hP.size msz; have h8 := entT_size 1 ei; have h7 := shB_size (s := (entT 1 ei).1) (by omega); simp only [ByteArray.size_append, maxLen]; omega) | (have h9 := hP.size msz; have h8 := confText_size (l := m.conf); have h7 := shB_size (s := (confText m.conf).1) (by omega); have h6 := shB_size (s := m.data) (by omega); simp only [ByteArray.size_append, maxLen]; omega)))) ?_
     exact RA.to2 hall hf hb (ro4_22 B Xo4_9_1 go4_13_1 go4_17_1 go4_21_1 go4_25_1 go4_29_1 go4_33_1) rfl rfl (by kernel_rfl)
   have ro4_20 : ∀ B, ∀ (Xo4_9_1 : Value), ∀ (go4_13_1 : Nat → Nat → Value), ∀ (go4_17_1 : Nat → Nat → Value), ∀ (go4_21_1 : Nat → Nat → Value), ∀ (go4_25_1 : Nat → Nat → Value), RA f E B all 7 (bt 41 247497490431) ⟨87, [(39, S (((((bytesOf ([(IntKind.u8.wrap m.kind), (IntKind.u8.wrap m.from_), (IntKind.u8.wrap m.to)] : List Int)) ++ (varB m.term_.toNat)) ++ (varB m.index.toNat)) ++ (varB m.logTerm.toNat)) ++ (varB m.commit.toNat))), (41, Bo m.ok), (45, Bo m.last), (50, I (m.entries.length : Int))] ++ b0⟩ K := by
    intro B Xo4_9_1 go4_13_1 go4_17_1 go4_21_1 go4_25_1
    refine RA.of2 hall hf hb (RA.stepH (L := [29]) (Tell.of rfl) (by kernel_rfl) (by simp) (RA.each ?_ (RA.each0)))
    ·skip
     refine RO.call rfl rfl (spec_l17Flag_fn m.ok) rfl (.cons (.one (.r .r)) (.nil)) rfl fun go4_29_1 => ?_
     refine RA.first (i := 30) (ls' := (bt 41 249108103167)) (Tell.of rfl) (by kernel_rfl) rfl rfl rfl (VF.p (V.cat rfl rfl rfl (by have z1 := msz.z1; have z2 := msz.z2; have z3 := msz.z3; have z4 := msz.z4; have z5 := msz.z5; have z6 := msz.z6; have z7 := msz.z7; have zd := msz.d; first | (simp only [ByteArray.size_append, maxLen, z6, z7]; omega) | (have h9 := hP.size msz; have h8 := entT_size 1 ei; have h7 := shB_size (s := (entT 1 ei).1) (by omega); simp only [ByteArray.size_append, maxLen]; omega) | (have h9 := hP.size msz; have h8 := confText_size (l := m.conf); have h7 := shB_size (s := (confText m.conf).1) (by omega); have h6 := shB_size (s := m.data) (by omega); simp only [ByteArray.size_append, maxLen]; omega)))) ?_
     exact RA.to2 hall hf hb (ro4_21 B Xo4_9_1 go4_13_1 go4_17_1 go4_21_1 go4_25_1 go4_29_1) rfl rfl (by kernel_rfl)
   have ro4_19 : ∀ B, ∀ (Xo4_9_1 : Value), ∀ (go4_13_1 : Nat → Nat → Value), ∀ (go4_17_1 : Nat → Nat → Value), ∀ (go4_21_1 : Nat → Nat → Value), ∀ (go4_25_1 : Nat → Nat → Value), ∀ (go4_29_1 : Nat → Nat → Value), ∀ (go4_33_1 : Nat → Nat → Value), ∀ (go4_38_1 : Nat → Nat → Value), RA f E B all 9 (bt 41 531430620159) ⟨87, [(22, .w (sl 1 cU ([(IntKind.u8.wrap m.kind), (IntKind.u8.wrap m.from_), (IntKind.u8.wrap m.to)] : List Int)) Xo4_9_1), (26, S (varB m.term_.toNat)), (30, S (varB m.index.toNat)), (34, S (varB m.logTerm.toNat)), (38, S (varB m.commit.toNat)), (42, S (flagS m.ok)), (46, S (flagS m.last)), (51, S (varB (m.entries.length : Int).toNat))] ++ b0⟩ K := by
    intro B Xo4_9_1 go4_13_1 go4_17_1 go4_21_1 go4_25_1 go4_29_1 go4_33_1 go4_38_1
    refine RA.of2 hall hf hb (RA.stepH (L := [10]) (Tell.of rfl) (by kernel_rfl) (by simp) (RA.each ?_ (RA.each0)))
    ·skip
     refine RO.v rfl rfl (V.bytesStr (l := ([(IntKind.u8.wrap m.kind), (IntKind.u8.wrap m.from_), (IntKind.u8.wrap m.to)] : List Int)) rfl rfl rfl (by kernel_rfl) (by kernel_rfl) (.al (k := none) (i := 22) (sz := 1) (V := Xo4_9_1) rfl rfl nofun)) rfl ?_
     refine RA.first (i := 14) (ls' := (bt 41 531430637567)) (Tell.of rfl) (by kernel_rfl) rfl rfl rfl (VF.p (V.cat rfl rfl rfl (by have z1 := msz.z1; have z2 := msz.z2; have z3 := msz.z3; have z4 := msz.z4; have z5 := msz.z5; have z6 := msz.z6; have z7 := msz.z7; have zd := msz.d; first | (simp only [ByteArray.size_append, maxLen, z6, z7]; omega) | (have h9 := hP.size msz; have h8 := entT_size 1 ei; have h7 := shB_size (s := (entT 1 ei).1) (by omega); simp only [ByteArray.size_append, maxLen]; omega) | (have h9 := hP.size msz; have h8 := confText_size (l := m.conf); have h7 := shB_size (s := (confText m.conf).1) (by omega); have h6 := shB_size (s := m.data) (by omega); simp only [ByteArray.size_append, maxLen]; omega)))) ?_
     refine RA.first (i := 18) (ls' := (bt 41 531430899711)) (Tell.of rfl) (by kernel_rfl) rfl rfl rfl (VF.p (V.cat rfl rfl rfl (by have z1 := msz.z1; have z2 := msz.z2; have z3 := msz.z3; have z4 := msz.z4; have z5 := msz.z5; have z6 := msz.z6; have z7 := msz.z7; have zd := msz.d; first | (simp only [ByteArray.size_append, maxLen, z6, z7]; omega) | (have h9 := hP.size msz; have h8 := entT_size 1 ei; have h7 := shB_size (s := (entT 1 ei).1) (by omega); simp only [ByteArray.size_append, maxLen]; omega) | (have h9 := hP.size msz; have h8 := confText_size (l := m.conf); have h7 := shB_size (s := (confText m.conf).1) (by omega); have h6 := shB_size (s := m.data) (by omega); simp only [ByteArray.size_append, maxLen]; omega)))) ?_
     refine RA.first (i := 22) (ls' := (bt 41 531435094015)) (Tell.of rfl) (by kernel_rfl) rfl rfl rfl (VF.p (V.cat rfl rfl rfl (by have z1 := msz.z1; have z2 := msz.z2; have z3 := msz.z3; have z4 := msz.z4; have z5 := msz.z5; have z6 := msz.z6; have z7 := msz.z7; have zd := msz.d; first | (simp only [ByteArray.size_append, maxLen, z6, z7]; omega) | (have h9 := hP.size msz; have h8 := entT_size 1 ei; have h7 := shB_size (s := (entT 1 ei).1) (by omega); simp only [ByteArray.size_append, maxLen]; omega) | (have h9 := hP.size msz; have h8 := confText_size (l := m.conf); have h7 := shB_size (s := (confText m.conf).1) (by omega); have h6 := shB_size (s := m.data) (by omega); simp only [ByteArray.size_append, maxLen]; omega)))) ?_
     refine RA.first (i := 26) (ls' := (bt 41 531502202879)) (Tell.of rfl) (by kernel_rfl) rfl rfl rfl (VF.p (V.cat rfl rfl rfl (by have z1 := msz.z1; have z2 := msz.z2; have z3 := msz.z3; have z4 := msz.z4; have z5 := msz.z5; have z6 := msz.z6; have z7 := msz.z7; have zd := msz.d; first | (simp only [ByteArray.size_append, maxLen, z6, z7]; omega) | (have h9 := hP.size msz; have h8 := entT_size 1 ei; have h7 := shB_size (s := (entT 1 ei).1) (by omega); simp only [ByteArray.size_append, maxLen]; omega) | (have h9 := hP.size msz; have h8 := confText_size (l := m.conf); have h7 := shB_size (s := (confText m.conf).1) (by omega); have h6 := shB_size (s := m.data) (by omega); simp only [ByteArray.size_append, maxLen]; omega)))) ?_
     refine RA.first (i := 30) (ls' := (bt 41 532575944703)) (Tell.of rfl) (by kernel_rfl) rfl rfl rfl (VF.p (V.cat rfl rfl rfl (by have z1 := msz.z1; have z2 := msz.z2; have z3 := msz.z3; have z4 := msz.z4; have z5 := msz.z5; have z6 := msz.z6; have z7 := msz.z7; have zd := msz.d; first | (simp only [ByteArray.size_append, maxLen, z6, z7]; omega) | (have h9 := hP.size msz; have h8 := entT_size 1 ei; have h7 := shB_size (s := (entT 1 ei).1) (by omega); simp only [ByteArray.size_append, maxLen]; omega) | (have h9 := hP.size msz; have h8 := confText_size (l := m.conf); have h7 := shB_size (s := (confText m.conf).1) (by omega); have h6 := shB_size (s := m.data) (by omega); simp only [ByteArray.size_append, maxLen]; omega)))) ?_
     refine RA.first (i := 34) (ls' := (bt 41 549755813887)) (Tell.of rfl) (by kernel_rfl) rfl rfl rfl (VF.p (V.cat rfl rfl rfl (by have z1 := msz.z1; have z2 := msz.z2; have z3 := msz.z3; have z4 := msz.z4; have z5 := msz.z5; have z6 := msz.z6; have z7 := msz.z7; have zd := msz.d; first | (simp only [ByteArray.size_append, maxLen, z6, z7]; omega) | (have h9 := hP.size msz; have h8 := entT_size 1 ei; have h7 := shB_size (s := (entT 1 ei).1) (by omega); simp only [ByteArray.size_append, maxLen]; omega) | (have h9 := hP.size msz; have h8 := confText_size (l := m.conf); have h7 := shB_size (s := (confText m.conf).1) (by omega); have h6 := shB_size (s := m.data) (by omega); simp only [ByteArray.size_append, maxLen]; omega)))) ?_
     refine RA.first (i := 39) (ls' := (bt 41 1099511627775)) (Tell.of rfl) (by kernel_rfl) rfl rfl rfl (VF.p (V.cat rfl rfl rfl (by have z1 := msz.z1; have z2 := msz.z2; have z3 := msz.z3; have z4 := msz.z4; have z5 := msz.z5; have z6 := msz.z6; have z7 := msz.z7; have zd := msz.d; first | (simp only [ByteArray.size_append, maxLen, z6, z7]; omega) | (have h9 := hP.size msz; have h8 := entT_size 1 ei; have h7 := shB_size (s := (entT 1 ei).1) (by omega); simp only [ByteArray.size_append, maxLen]; omega) | (have h9 := hP.size msz; have h8 := confText_size (l := m.conf); have h7 := shB_size (s := (confText m.conf).1) (by omega); have h6 := shB_size (s := m.data) (by omega); simp only [ByteArray.size_append, maxLen]; omega)))) ?_
     refine RA.fr XK 87 0 [40] (bt 41 2199023255551) rfl rfl (by kernel_rfl) (Tell.of rfl) ?_
     (conv=>whnf);refine ⟨rfl,fun B=>?_⟩
     exact RA.to2 hall hf hb (ro4_23 B Xo4_9_1 go4_13_1 go4_17_1 go4_21_1 go4_25_1 go4_29_1 go4_33_1 go4_38_1) rfl rfl (by kernel_rfl)
   have ro4_18 : ∀ B, ∀ (Xo4_9_1 : Value), ∀ (go4_13_1 : Nat → Nat → Value), ∀ (go4_17_1 : Nat → Nat → Value), ∀ (go4_21_1 : Nat → Nat → Value), RA f E B all 9 (bt 41 247396827135) ⟨87, [(35, S ((((bytesOf ([(IntKind.u8.wrap m.kind), (IntKind.u8.wrap m.from_), (IntKind.u8.wrap m.to)] : List Int)) ++ (varB m.term_.toNat)) ++ (varB m.index.toNat)) ++ (varB m.logTerm.toNat))), (37, I m.commit), (41, Bo m.ok), (45, Bo m.last), (50, I (m.entries.length : Int))] ++ b0⟩ K := by
    intro B Xo4_9_1 go4_13_1 go4_17_1 go4_21_1
    refine RA.of2 hall hf hb (RA.stepH (L := [25]) (Tell.of rfl) (by kernel_rfl) (by simp) (RA.each ?_ (RA.each0)))
    ·skip
     refine RO.call rfl rfl (spec_l01Var_fn m.commit (by first | exact msz.e | exact msz.i | exact msz.l | exact msz.c | exact ⟨by omega, by have h9 := msz.n; omega⟩)) rfl (.cons (.one (.r .r)) (.nil)) rfl fun go4_25_1 => ?_
     refine RA.first (i := 26) (ls' := (bt 41 247497490431)) (Tell.of rfl) (by kernel_rfl) rfl rfl rfl (VF.p (V.cat rfl rfl rfl (by have z1 := msz.z1; have z2 := msz.z2; have z3 := msz.z3; have z4 := msz.z4; have z5 := msz.z5; have z6 := msz.z6; have z7 := msz.z7; have zd := msz.d; first | (simp only [ByteArray.size_append, maxLen, z6, z7]; omega) | (have h9 := hP.size msz; have h8 := entT_size 1 ei; have h7 := shB_size (s := (entT 1 ei).1) (by omega); simp only [ByteArray.size_append, maxLen]; omega) | (have h9 := hP.size msz; have h8 := confText_size (l := m.conf); have h7 := shB_size (s := (confText m.conf).1) (by omega); have h6 := shB_size (s := m.data) (by omega); simp only [ByteArray.size_append, maxLen]; omega)))) ?_
     exact RA.to2 hall hf hb (ro4_20 B Xo4_9_1 go4_13_1 go4_17_1 go4_21_1 go4_25_1) rfl rfl (by kernel_rfl)
   have ro4_17 : ∀ B, ∀ (go4_13_1 : Nat → Nat → Value), ∀ (go4_17_1 : Nat → Nat → Value), ∀ (go4_21_1 : Nat → Nat → Value), ∀ (go4_25_1 : Nat → Nat → Value), ∀ (go4_29_1 : Nat → Nat → Value), ∀ (go4_33_1 : Nat → Nat → Value), ∀ (go4_38_1 : Nat → Nat → Value), RA f E B all 10 (bt 41 531430619647) ⟨87, [(15, .r (.v (.int .u8 (IntKind.u8.wrap m.kind)))), (18, .r (.v (.int .u8 (IntKind.u8.wrap m.from_)))), (21, .r (.v (.int .u8 (IntKind.u8.wrap m.to)))), (26, S (varB m.term_.toNat)), (30, S (varB m.index.toNat)), (34, S (varB m.logTerm.toNat)), (38, S (varB m.commit.toNat)), (42, S (flagS m.ok)), (46, S (flagS m.last)), (51, S (varB (m.entries.length : Int).toNat))] ++ b0⟩ K := by
    intro B go4_13_1 go4_17_1 go4_21_1 go4_25_1 go4_29_1 go4_33_1 go4_38_1
    refine RA.of2 hall hf hb (RA.stepH (L := [9]) (Tell.of rfl) (by kernel_rfl) (by simp) (RA.each ?_ (RA.each0)))
    ·skip
     refine RO.buildV (c := cU) (L := [(IntKind.u8.wrap m.kind), (IntKind.u8.wrap m.from_), (IntKind.u8.wrap m.to)]) (vs := [(.int .u8 (IntKind.u8.wrap m.kind)), (.int .u8 (IntKind.u8.wrap m.from_)), (.int .u8 (IntKind.u8.wrap m.to))]) [.tmp 15, .tmp 18, .tmp 21] rfl rfl rfl rfl rfl rfl rfl rfl rfl rfl rfl rfl (by decide) (by decide) rfl rfl fun Xo4_9_1 => ?_
     exact RA.to2 hall hf hb (ro4_19 B Xo4_9_1 go4_13_1 go4_17_1 go4_21_1 go4_25_1 go4_29_1 go4_33_1 go4_38_1) rfl rfl (by kernel_rfl)
   have ro4_16 : ∀ B, ∀ (Xo4_9_1 : Value), ∀ (go4_13_1 : Nat → Nat → Value), ∀ (go4_17_1 : Nat → Nat → Value), ∀ (go4_21_1 : Nat → Nat → Value), ∀ (go4_25_1 : Nat → Nat → Value), ∀ (go4_29_1 : Nat → Nat → Value), ∀ (go4_33_1 : Nat → Nat → Value), RA f E B all 10 (bt 41 256552713215) ⟨87, [(22, .w (sl 1 cU ([(IntKind.u8.wrap m.kind), (IntKind.u8.wrap m.from_), (IntKind.u8.wrap m.to)] : List Int)) Xo4_9_1), (26, S (varB m.term_.toNat)), (30, S (varB m.index.toNat)), (34, S (varB m.logTerm.toNat)), (38, S (varB m.commit.toNat)), (42, S (flagS m.ok)), (46, S (flagS m.last)), (50, I (m.entries.length : Int))] ++ b0⟩ K := by
    intro B Xo4_9_1 go4_13_1 go4_17_1 go4_21_1 go4_25_1 go4_29_1 go4_33_1
    refine RA.of2 hall hf hb (RA.stepH (L := [10, 38]) (Tell.of rfl) (by kernel_rfl) (by simp) (RA.each ?_ (RA.each ?_ (RA.each0))))
    ·skip
     refine RO.v rfl rfl (V.bytesStr (l := ([(IntKind.u8.wrap m.kind), (IntKind.u8.wrap m.from_), (IntKind.u8.wrap m.to)] : List Int)) rfl rfl rfl (by kernel_rfl) (by kernel_rfl) (.al (k := none) (i := 22) (sz := 1) (V := Xo4_9_1) rfl rfl nofun)) rfl ?_
     refine RA.first (i := 14) (ls' := (bt 41 256552730623)) (Tell.of rfl) (by kernel_rfl) rfl rfl rfl (VF.p (V.cat rfl rfl rfl (by have z1 := msz.z1; have z2 := msz.z2; have z3 := msz.z3; have z4 := msz.z4; have z5 := msz.z5; have z6 := msz.z6; have z7 := msz.z7; have zd := msz.d; first | (simp only [ByteArray.size_append, maxLen, z6, z7]; omega) | (have h9 := hP.size msz; have h8 := entT_size 1 ei; have h7 := shB_size (s := (entT 1 ei).1) (by omega); simp only [ByteArray.size_append, maxLen]; omega) | (have h9 := hP.size msz; have h8 := confText_size (l := m.conf); have h7 := shB_size (s := (confText m.conf).1) (by omega); have h6 := shB_size (s := m.data) (by omega); simp only [ByteArray.size_append, maxLen]; omega)))) ?_
     refine RA.first (i := 18) (ls' := (bt 41 256552992767)) (Tell.of rfl) (by kernel_rfl) rfl rfl rfl (VF.p (V.cat rfl rfl rfl (by have z1 := msz.z1; have z2 := msz.z2; have z3 := msz.z3; have z4 := msz.z4; have z5 := msz.z5; have z6 := msz.z6; have z7 := msz.z7; have zd := msz.d; first | (simp only [ByteArray.size_append, maxLen, z6, z7]; omega) | (have h9 := hP.size msz; have h8 := entT_size 1 ei; have h7 := shB_size (s := (entT 1 ei).1) (by omega); simp only [ByteArray.size_append, maxLen]; omega) | (have h9 := hP.size msz; have h8 := confText_size (l := m.conf); have h7 := shB_size (s := (confText m.conf).1) (by omega); have h6 := shB_size (s := m.data) (by omega); simp only [ByteArray.size_append, maxLen]; omega)))) ?_
     refine RA.first (i := 22) (ls' := (bt 41 256557187071)) (Tell.of rfl) (by kernel_rfl) rfl rfl rfl (VF.p (V.cat rfl rfl rfl (by have z1 := msz.z1; have z2 := msz.z2; have z3 := msz.z3; have z4 := msz.z4; have z5 := msz.z5; have z6 := msz.z6; have z7 := msz.z7; have zd := msz.d; first | (simp only [ByteArray.size_append, maxLen, z6, z7]; omega) | (have h9 := hP.size msz; have h8 := entT_size 1 ei; have h7 := shB_size (s := (entT 1 ei).1) (by omega); simp only [ByteArray.size_append, maxLen]; omega) | (have h9 := hP.size msz; have h8 := confText_size (l := m.conf); have h7 := shB_size (s := (confText m.conf).1) (by omega); have h6 := shB_size (s := m.data) (by omega); simp only [ByteArray.size_append, maxLen]; omega)))) ?_
     refine RA.first (i := 26) (ls' := (bt 41 256624295935)) (Tell.of rfl) (by kernel_rfl) rfl rfl rfl (VF.p (V.cat rfl rfl rfl (by have z1 := msz.z1; have z2 := msz.z2; have z3 := msz.z3; have z4 := msz.z4; have z5 := msz.z5; have z6 := msz.z6; have z7 := msz.z7; have zd := msz.d; first | (simp only [ByteArray.size_append, maxLen, z6, z7]; omega) | (have h9 := hP.size msz; have h8 := entT_size 1 ei; have h7 := shB_size (s := (entT 1 ei).1) (by omega); simp only [ByteArray.size_append, maxLen]; omega) | (have h9 := hP.size msz; have h8 := confText_size (l := m.conf); have h7 := shB_size (s := (confText m.conf).1) (by omega); have h6 := shB_size (s := m.data) (by omega); simp only [ByteArray.size_append, maxLen]; omega)))) ?_
     refine RA.first (i := 30) (ls' := (bt 41 257698037759)) (Tell.of rfl) (by kernel_rfl) rfl rfl rfl (VF.p (V.cat rfl rfl rfl (by have z1 := msz.z1; have z2 := msz.z2; have z3 := msz.z3; have z4 := msz.z4; have z5 := msz.z5; have z6 := msz.z6; have z7 := msz.z7; have zd := msz.d; first | (simp only [ByteArray.size_append, maxLen, z6, z7]; omega) | (have h9 := hP.size msz; have h8 := entT_size 1 ei; have h7 := shB_size (s := (entT 1 ei).1) (by omega); simp only [ByteArray.size_append, maxLen]; omega) | (have h9 := hP.size msz; have h8 := confText_size (l := m.conf); have h7 := shB_size (s := (confText m.conf).1) (by omega); have h6 := shB_size (s := m.data) (by omega); simp only [ByteArray.size_append, maxLen]; omega)))) ?_
     refine RA.first (i := 34) (ls' := (bt 41 274877906943)) (Tell.of rfl) (by kernel_rfl) rfl rfl rfl (VF.p (V.cat rfl rfl rfl (by have z1 := msz.z1; have z2 := msz.z2; have z3 := msz.z3; have z4 := msz.z4; have z5 := msz.z5; have z6 := msz.z6; have z7 := msz.z7; have zd := msz.d; first | (simp only [ByteArray.size_append, maxLen, z6, z7]; omega) | (have h9 := hP.size msz; have h8 := entT_size 1 ei; have h7 := shB_size (s := (entT 1 ei).1) (by omega); simp only [ByteArray.size_append, maxLen]; omega) | (have h9 := hP.size msz; have h8 := confText_size (l := m.conf); have h7 := shB_size (s := (confText m.conf).1) (by omega); have h6 := shB_size (s := m.data) (by omega); simp only [ByteArray.size_append, maxLen]; omega)))) ?_
     exact RA.to2 hall hf hb (ro4_22 B Xo4_9_1 go4_13_1 go4_17_1 go4_21_1 go4_25_1 go4_29_1 go4_33_1) rfl rfl (by kernel_rfl)
    ·skip
     refine RO.call rfl rfl (spec_l01Var_fn (m.entries.length : Int) (by first | exact msz.e | exact msz.i | exact msz.l | exact msz.c | exact ⟨by omega, by have h9 := msz.n; omega⟩)) rfl (.cons (.one (.r .r)) (.nil)) rfl fun go4_38_1 => ?_
     exact RA.to2 hall hf hb (ro4_19 B Xo4_9_1 go4_13_1 go4_17_1 go4_21_1 go4_25_1 go4_29_1 go4_33_1 go4_38_1) rfl rfl (by kernel_rfl)
   have ro4_15 : ∀ B, ∀ (go4_13_1 : Nat → Nat → Value), ∀ (go4_17_1 : Nat → Nat → Value), ∀ (go4_21_1 : Nat → Nat → Value), ∀ (go4_25_1 : Nat → Nat → Value), ∀ (go4_29_1 : Nat → Nat → Value), ∀ (go4_33_1 : Nat → Nat → Value), RA f E B all 11 (bt 41 256552712703) ⟨87, [(15, .r (.v (.int .u8 (IntKind.u8.wrap m.kind)))), (18, .r (.v (.int .u8 (IntKind.u8.wrap m.from_)))), (21, .r (.v (.int .u8 (IntKind.u8.wrap m.to)))), (26, S (varB m.term_.toNat)), (30, S (varB m.index.toNat)), (34, S (varB m.logTerm.toNat)), (38, S (varB m.commit.toNat)), (42, S (flagS m.ok)), (46, S (flagS m.last)), (50, I (m.entries.length : Int))] ++ b0⟩ K := by
    intro B go4_13_1 go4_17_1 go4_21_1 go4_25_1 go4_29_1 go4_33_1
    refine RA.of2 hall hf hb (RA.stepH (L := [9, 38]) (Tell.of rfl) (by kernel_rfl) (by simp) (RA.each ?_ (RA.each ?_ (RA.each0))))
    ·skip
     refine RO.buildV (c := cU) (L := [(IntKind.u8.wrap m.kind), (IntKind.u8.wrap m.from_), (IntKind.u8.wrap m.to)]) (vs := [(.int .u8 (IntKind.u8.wrap m.kind)), (.int .u8 (IntKind.u8.wrap m.from_)), (.int .u8 (IntKind.u8.wrap m.to))]) [.tmp 15, .tmp 18, .tmp 21] rfl rfl rfl rfl rfl rfl rfl rfl rfl rfl rfl rfl (by decide) (by decide) rfl rfl fun Xo4_9_1 => ?_
     exact RA.to2 hall hf hb (ro4_16 B Xo4_9_1 go4_13_1 go4_17_1 go4_21_1 go4_25_1 go4_29_1 go4_33_1) rfl rfl (by kernel_rfl)
    ·skip
     refine RO.call rfl rfl (spec_l01Var_fn (m.entries.length : Int) (by first | exact msz.e | exact msz.i | exact msz.l | exact msz.c | exact ⟨by omega, by have h9 := msz.n; omega⟩)) rfl (.cons (.one (.r .r)) (.nil)) rfl fun go4_38_1 => ?_
     exact RA.to2 hall hf hb (ro4_17 B go4_13_1 go4_17_1 go4_21_1 go4_25_1 go4_29_1 go4_33_1 go4_38_1) rfl rfl (by kernel_rfl)
   have ro4_14 : ∀ B, ∀ (Xo4_9_1 : Value), ∀ (go4_13_1 : Nat → Nat → Value), ∀ (go4_17_1 : Nat → Nat → Value), ∀ (go4_21_1 : Nat → Nat → Value), ∀ (go4_25_1 : Nat → Nat → Value), ∀ (go4_29_1 : Nat → Nat → Value), RA f E B all 11 (bt 41 247962778623) ⟨87, [(22, .w (sl 1 cU ([(IntKind.u8.wrap m.kind), (IntKind.u8.wrap m.from_), (IntKind.u8.wrap m.to)] : List Int)) Xo4_9_1), (26, S (varB m.term_.toNat)), (30, S (varB m.index.toNat)), (34, S (varB m.logTerm.toNat)), (38, S (varB m.commit.toNat)), (42, S (flagS m.ok)), (45, Bo m.last), (50, I (m.entries.length : Int))] ++ b0⟩ K := by
    intro B Xo4_9_1 go4_13_1 go4_17_1 go4_21_1 go4_25_1 go4_29_1
    refine RA.of2 hall hf hb (RA.stepH (L := [10, 33]) (Tell.of rfl) (by kernel_rfl) (by simp) (RA.each ?_ (RA.each ?_ (RA.each0))))
    ·skip
     refine RO.v rfl rfl (V.bytesStr (l := ([(IntKind.u8.wrap m.kind), (IntKind.u8.wrap m.from_), (IntKind.u8.wrap m.to)] : List Int)) rfl rfl rfl (by kernel_rfl) (by kernel_rfl) (.al (k := none) (i := 22) (sz := 1) (V := Xo4_9_1) rfl rfl nofun)) rfl ?_
     refine RA.first (i := 14) (ls' := (bt 41 247962796031)) (Tell.of rfl) (by kernel_rfl) rfl rfl rfl (VF.p (V.cat rfl rfl rfl (by have z1 := msz.z1; have z2 := msz.z2; have z3 := msz.z3; have z4 := msz.z4; have z5 := msz.z5; have z6 := msz.z6; have z7 := msz.z7; have zd := msz.d; first | (simp only [ByteArray.size_append, maxLen, z6, z7]; omega) | (have h9 := hP.size msz; have h8 := entT_size 1 ei; have h7 := shB_size (s := (entT 1 ei).1) (by omega); simp only [ByteArray.size_append, maxLen]; omega) | (have h9 := hP.size msz; have h8 := confText_size (l := m.conf); have h7 := shB_size (s := (confText m.conf).1) (by omega); have h6 := shB_size (s := m.data) (by omega); simp only [ByteArray.size_append, maxLen]; omega)))) ?_
     refine RA.first (i := 18) (ls' := (bt 41 247963058175)) (Tell.of rfl) (by kernel_rfl) rfl rfl rfl (VF.p (V.cat rfl rfl rfl (by have z1 := msz.z1; have z2 := msz.z2; have z3 := msz.z3; have z4 := msz.z4; have z5 := msz.z5; have z6 := msz.z6; have z7 := msz.z7; have zd := msz.d; first | (simp only [ByteArray.size_append, maxLen, z6, z7]; omega) | (have h9 := hP.size msz; have h8 := entT_size 1 ei; have h7 := shB_size (s := (entT 1 ei).1) (by omega); simp only [ByteArray.size_append, maxLen]; omega) | (have h9 := hP.size msz; have h8 := confText_size (l := m.conf); have h7 := shB_size (s := (confText m.conf).1) (by omega); have h6 := shB_size (s := m.data) (by omega); simp only [ByteArray.size_append, maxLen]; omega)))) ?_
     refine RA.first (i := 22) (ls' := (bt 41 247967252479)) (Tell.of rfl) (by kernel_rfl) rfl rfl rfl (VF.p (V.cat rfl rfl rfl (by have z1 := msz.z1; have z2 := msz.z2; have z3 := msz.z3; have z4 := msz.z4; have z5 := msz.z5; have z6 := msz.z6; have z7 := msz.z7; have zd := msz.d; first | (simp only [ByteArray.size_append, maxLen, z6, z7]; omega) | (have h9 := hP.size msz; have h8 := entT_size 1 ei; have h7 := shB_size (s := (entT 1 ei).1) (by omega); simp only [ByteArray.size_append, maxLen]; omega) | (have h9 := hP.size msz; have h8 := confText_size (l := m.conf); have h7 := shB_size (s := (confText m.conf).1) (by omega); have h6 := shB_size (s := m.data) (by omega); simp only [ByteArray.size_append, maxLen]; omega)))) ?_
     refine RA.first (i := 26) (ls' := (bt 41 248034361343)) (Tell.of rfl) (by kernel_rfl) rfl rfl rfl (VF.p (V.cat rfl rfl rfl (by have z1 := msz.z1; have z2 := msz.z2; have z3 := msz.z3; have z4 := msz.z4; have z5 := msz.z5; have z6 := msz.z6; have z7 := msz.z7; have zd := msz.d; first | (simp only [ByteArray.size_append, maxLen, z6, z7]; omega) | (have h9 := hP.size msz; have h8 := entT_size 1 ei; have h7 := shB_size (s := (entT 1 ei).1) (by omega); simp only [ByteArray.size_append, maxLen]; omega) | (have h9 := hP.size msz; have h8 := confText_size (l := m.conf); have h7 := shB_size (s := (confText m.conf).1) (by omega); have h6 := shB_size (s := m.data) (by omega); simp only [ByteArray.size_append, maxLen]; omega)))) ?_
     refine RA.first (i := 30) (ls' := (bt 41 249108103167)) (Tell.of rfl) (by kernel_rfl) rfl rfl rfl (VF.p (V.cat rfl rfl rfl (by have z1 := msz.z1; have z2 := msz.z2; have z3 := msz.z3; have z4 := msz.z4; have z5 := msz.z5; have z6 := msz.z6; have z7 := msz.z7; have zd := msz.d; first | (simp only [ByteArray.size_append, maxLen, z6, z7]; omega) | (have h9 := hP.size msz; have h8 := entT_size 1 ei; have h7 := shB_size (s := (entT 1 ei).1) (by omega); simp only [ByteArray.size_append, maxLen]; omega) | (have h9 := hP.size msz; have h8 := confText_size (l := m.conf); have h7 := shB_size (s := (confText m.conf).1) (by omega); have h6 := shB_size (s := m.data) (by omega); simp only [ByteArray.size_append, maxLen]; omega)))) ?_
     exact RA.to2 hall hf hb (ro4_21 B Xo4_9_1 go4_13_1 go4_17_1 go4_21_1 go4_25_1 go4_29_1) rfl rfl (by kernel_rfl)
    ·skip
     refine RO.call rfl rfl (spec_l17Flag_fn m.last) rfl (.cons (.one (.r .r)) (.nil)) rfl fun go4_33_1 => ?_
     exact RA.to2 hall hf hb (ro4_16 B Xo4_9_1 go4_13_1 go4_17_1 go4_21_1 go4_25_1 go4_29_1 go4_33_1) rfl rfl (by kernel_rfl)
   have ro4_13 : ∀ B, ∀ (Xo4_9_1 : Value), ∀ (go4_13_1 : Nat → Nat → Value), ∀ (go4_17_1 : Nat → Nat → Value), RA f E B all 11 (bt 41 247390535679) ⟨87, [(31, S (((bytesOf ([(IntKind.u8.wrap m.kind), (IntKind.u8.wrap m.from_), (IntKind.u8.wrap m.to)] : List Int)) ++ (varB m.term_.toNat)) ++ (varB m.index.toNat))), (33, I m.logTerm), (37, I m.commit), (41, Bo m.ok), (45, Bo m.last), (50, I (m.entries.length : Int))] ++ b0⟩ K := by
    intro B Xo4_9_1 go4_13_1 go4_17_1
    refine RA.of2 hall hf hb (RA.stepH (L := [21]) (Tell.of rfl) (by kernel_rfl) (by simp) (RA.each ?_ (RA.each0)))
    ·skip
     refine RO.call rfl rfl (spec_l01Var_fn m.logTerm (by first | exact msz.e | exact msz.i | exact msz.l | exact msz.c | exact ⟨by omega, by have h9 := msz.n; omega⟩)) rfl (.cons (.one (.r .r)) (.nil)) rfl fun go4_21_1 => ?_
     refine RA.first (i := 22) (ls' := (bt 41 247396827135)) (Tell.of rfl) (by kernel_rfl) rfl rfl rfl (VF.p (V.cat rfl rfl rfl (by have z1 := msz.z1; have z2 := msz.z2; have z3 := msz.z3; have z4 := msz.z4; have z5 := msz.z5; have z6 := msz.z6; have z7 := msz.z7; have zd := msz.d; first | (simp only [ByteArray.size_append, maxLen, z6, z7]; omega) | (have h9 := hP.size msz; have h8 := entT_size 1 ei; have h7 := shB_size (s := (entT 1 ei).1) (by omega); simp only [ByteArray.size_append, maxLen]; omega) | (have h9 := hP.size msz; have h8 := confText_size (l := m.conf); have h7 := shB_size (s := (confText m.conf).1) (by omega); have h6 := shB_size (s := m.data) (by omega); simp only [ByteArray.size_append, maxLen]; omega)))) ?_
     exact RA.to2 hall hf hb (ro4_18 B Xo4_9_1 go4_13_1 go4_17_1 go4_21_1) rfl rfl (by kernel_rfl)
   have ro4_12 : ∀ B, ∀ (go4_13_1 : Nat → Nat → Value), ∀ (go4_17_1 : Nat → Nat → Value), ∀ (go4_21_1 : Nat → Nat → Value), ∀ (go4_25_1 : Nat → Nat → Value), ∀ (go4_29_1 : Nat → Nat → Value), RA f E B all 12 (bt 41 247962778111) ⟨87, [(15, .r (.v (.int .u8 (IntKind.u8.wrap m.kind)))), (18, .r (.v (.int .u8 (IntKind.u8.wrap m.from_)))), (21, .r (.v (.int .u8 (IntKind.u8.wrap m.to)))), (26, S (varB m.term_.toNat)), (30, S (varB m.index.toNat)), (34, S (varB m.logTerm.toNat)), (38, S (varB m.commit.toNat)), (42, S (flagS m.ok)), (45, Bo m.last), (50, I (m.entries.length : Int))] ++ b0⟩ K := by
    intro B go4_13_1 go4_17_1 go4_21_1 go4_25_1 go4_29_1
    refine RA.of2 hall hf hb (RA.stepH (L := [9, 33]) (Tell.of rfl) (by kernel_rfl) (by simp) (RA.each ?_ (RA.each ?_ (RA.each0))))
    ·skip
     refine RO.buildV (c := cU) (L := [(IntKind.u8.wrap m.kind), (IntKind.u8.wrap m.from_), (IntKind.u8.wrap m.to)]) (vs := [(.int .u8 (IntKind.u8.wrap m.kind)), (.int .u8 (IntKind.u8.wrap m.from_)), (.int .u8 (IntKind.u8.wrap m.to))]) [.tmp 15, .tmp 18, .tmp 21] rfl rfl rfl rfl rfl rfl rfl rfl rfl rfl rfl rfl (by decide) (by decide) rfl rfl fun Xo4_9_1 => ?_
     exact RA.to2 hall hf hb (ro4_14 B Xo4_9_1 go4_13_1 go4_17_1 go4_21_1 go4_25_1 go4_29_1) rfl rfl (by kernel_rfl)
    ·skip
     refine RO.call rfl rfl (spec_l17Flag_fn m.last) rfl (.cons (.one (.r .r)) (.nil)) rfl fun go4_33_1 => ?_
     exact RA.to2 hall hf hb (ro4_15 B go4_13_1 go4_17_1 go4_21_1 go4_25_1 go4_29_1 go4_33_1) rfl rfl (by kernel_rfl)
   have ro4_11 : ∀ B, ∀ (Xo4_9_1 : Value), ∀ (go4_13_1 : Nat → Nat → Value), ∀ (go4_17_1 : Nat → Nat → Value), ∀ (go4_21_1 : Nat → Nat → Value), ∀ (go4_25_1 : Nat → Nat → Value), RA f E B all 12 (bt 41 247425907711) ⟨87, [(22, .w (sl 1 cU ([(IntKind.u8.wrap m.kind), (IntKind.u8.wrap m.from_), (IntKind.u8.wrap m.to)] : List Int)) Xo4_9_1), (26, S (varB m.term_.toNat)), (30, S (varB m.index.toNat)), (34, S (varB m.logTerm.toNat)), (38, S (varB m.commit.toNat)), (41, Bo m.ok), (45, Bo m.last), (50, I (m.entries.length : Int))] ++ b0⟩ K := by
    intro B Xo4_9_1 go4_13_1 go4_17_1 go4_21_1 go4_25_1
    refine RA.of2 hall hf hb (RA.stepH (L := [10, 29]) (Tell.of rfl) (by kernel_rfl) (by simp) (RA.each ?_ (RA.each ?_ (RA.each0))))
    ·skip
     refine RO.v rfl rfl (V.bytesStr (l := ([(IntKind.u8.wrap m.kind), (IntKind.u8.wrap m.from_), (IntKind.u8.wrap m.to)] : List Int)) rfl rfl rfl (by kernel_rfl) (by kernel_rfl) (.al (k := none) (i := 22) (sz := 1) (V := Xo4_9_1) rfl rfl nofun)) rfl ?_
     refine RA.first (i := 14) (ls' := (bt 41 247425925119)) (Tell.of rfl) (by kernel_rfl) rfl rfl rfl (VF.p (V.cat rfl rfl rfl (by have z1 := msz.z1; have z2 := msz.z2; have z3 := msz.z3; have z4 := msz.z4; have z5 := msz.z5; have z6 := msz.z6; have z7 := msz.z7; have zd := msz.d; first | (simp only [ByteArray.size_append, maxLen, z6, z7]; omega) | (have h9 := hP.size msz; have h8 := entT_size 1 ei; have h7 := shB_size (s := (entT 1 ei).1) (by omega); simp only [ByteArray.size_append, maxLen]; omega) | (have h9 := hP.size msz; have h8 := confText_size (l := m.conf); have h7 := shB_size (s := (confText m.conf).1) (by omega); have h6 := shB_size (s := m.data) (by omega); simp only [ByteArray.size_append, maxLen]; omega)))) ?_
     refine RA.first (i := 18) (ls' := (bt 41 247426187263)) (Tell.of rfl) (by kernel_rfl) rfl rfl rfl (VF.p (V.cat rfl rfl rfl (by have z1 := msz.z1; have z2 := msz.z2; have z3 := msz.z3; have z4 := msz.z4; have z5 := msz.z5; have z6 := msz.z6; have z7 := msz.z7; have zd := msz.d; first | (simp only [ByteArray.size_append, maxLen, z6, z7]; omega) | (have h9 := hP.size msz; have h8 := entT_size 1 ei; have h7 := shB_size (s := (entT 1 ei).1) (by omega); simp only [ByteArray.size_append, maxLen]; omega) | (have h9 := hP.size msz; have h8 := confText_size (l := m.conf); have h7 := shB_size (s := (confText m.conf).1) (by omega); have h6 := shB_size (s := m.data) (by omega); simp only [ByteArray.size_append, maxLen]; omega)))) ?_
     refine RA.first (i := 22) (ls' := (bt 41 247430381567)) (Tell.of rfl) (by kernel_rfl) rfl rfl rfl (VF.p (V.cat rfl rfl rfl (by have z1 := msz.z1; have z2 := msz.z2; have z3 := msz.z3; have z4 := msz.z4; have z5 := msz.z5; have z6 := msz.z6; have z7 := msz.z7; have zd := msz.d; first | (simp only [ByteArray.size_append, maxLen, z6, z7]; omega) | (have h9 := hP.size msz; have h8 := entT_size 1 ei; have h7 := shB_size (s := (entT 1 ei).1) (by omega); simp only [ByteArray.size_append, maxLen]; omega) | (have h9 := hP.size msz; have h8 := confText_size (l := m.conf); have h7 := shB_size (s := (confText m.conf).1) (by omega); have h6 := shB_size (s := m.data) (by omega); simp only [ByteArray.size_append, maxLen]; omega)))) ?_
     refine RA.first (i := 26) (ls' := (bt 41 247497490431)) (Tell.of rfl) (by kernel_rfl) rfl rfl rfl (VF.p (V.cat rfl rfl rfl (by have z1 := msz.z1; have z2 := msz.z2; have z3 := msz.z3; have z4 := msz.z4; have z5 := msz.z5; have z6 := msz.z6; have z7 := msz.z7; have zd := msz.d; first | (simp only [ByteArray.size_append, maxLen, z6, z7]; omega) | (have h9 := hP.size msz; have h8 := entT_size 1 ei; have h7 := shB_size (s := (entT 1 ei).1) (by omega); simp only [ByteArray.size_append, maxLen]; omega) | (have h9 := hP.size msz; have h8 := confText_size (l := m.conf); have h7 := shB_size (s := (confText m.conf).1) (by omega); have h6 := shB_size (s := m.data) (by omega); simp only [ByteArray.size_append, maxLen]; omega)))) ?_
     exact RA.to2 hall hf hb (ro4_20 B Xo4_9_1 go4_13_1 go4_17_1 go4_21_1 go4_25_1) rfl rfl (by kernel_rfl)
    ·skip
     refine RO.call rfl rfl (spec_l17Flag_fn m.ok) rfl (.cons (.one (.r .r)) (.nil)) rfl fun go4_29_1 => ?_
     exact RA.to2 hall hf hb (ro4_14 B Xo4_9_1 go4_13_1 go4_17_1 go4_21_1 go4_25_1 go4_29_1) rfl rfl (by kernel_rfl)
   have ro4_10 : ∀ B, ∀ (go4_13_1 : Nat → Nat → Value), ∀ (go4_17_1 : Nat → Nat → Value), ∀ (go4_21_1 : Nat → Nat → Value), ∀ (go4_25_1 : Nat → Nat → Value), RA f E B all 13 (bt 41 247425907199) ⟨87, [(15, .r (.v (.int .u8 (IntKind.u8.wrap m.kind)))), (18, .r (.v (.int .u8 (IntKind.u8.wrap m.from_)))), (21, .r (.v (.int .u8 (IntKind.u8.wrap m.to)))), (26, S (varB m.term_.toNat)), (30, S (varB m.index.toNat)), (34, S (varB m.logTerm.toNat)), (38, S (varB m.commit.toNat)), (41, Bo m.ok), (45, Bo m.last), (50, I (m.entries.length : Int))] ++ b0⟩ K := by
    intro B go4_13_1 go4_17_1 go4_21_1 go4_25_1
    refine RA.of2 hall hf hb (RA.stepH (L := [9, 29]) (Tell.of rfl) (by kernel_rfl) (by simp) (RA.each ?_ (RA.each ?_ (RA.each0))))
    ·skip
     refine RO.buildV (c := cU) (L := [(IntKind.u8.wrap m.kind), (IntKind.u8.wrap m.from_), (IntKind.u8.wrap m.to)]) (vs := [(.int .u8 (IntKind.u8.wrap m.kind)), (.int .u8 (IntKind.u8.wrap m.from_)), (.int .u8 (IntKind.u8.wrap m.to))]) [.tmp 15, .tmp 18, .tmp 21] rfl rfl rfl rfl rfl rfl rfl rfl rfl rfl rfl rfl (by decide) (by decide) rfl rfl fun Xo4_9_1 => ?_
     exact RA.to2 hall hf hb (ro4_11 B Xo4_9_1 go4_13_1 go4_17_1 go4_21_1 go4_25_1) rfl rfl (by kernel_rfl)
    ·skip
     refine RO.call rfl rfl (spec_l17Flag_fn m.ok) rfl (.cons (.one (.r .r)) (.nil)) rfl fun go4_29_1 => ?_
     exact RA.to2 hall hf hb (ro4_12 B go4_13_1 go4_17_1 go4_21_1 go4_25_1 go4_29_1) rfl rfl (by kernel_rfl)
   have ro4_9 : ∀ B, ∀ (Xo4_9_1 : Value), ∀ (go4_13_1 : Nat → Nat → Value), ∀ (go4_17_1 : Nat → Nat → Value), ∀ (go4_21_1 : Nat → Nat → Value), RA f E B all 13 (bt 41 247392353279) ⟨87, [(22, .w (sl 1 cU ([(IntKind.u8.wrap m.kind), (IntKind.u8.wrap m.from_), (IntKind.u8.wrap m.to)] : List Int)) Xo4_9_1), (26, S (varB m.term_.toNat)), (30, S (varB m.index.toNat)), (34, S (varB m.logTerm.toNat)), (37, I m.commit), (41, Bo m.ok), (45, Bo m.last), (50, I (m.entries.length : Int))] ++ b0⟩ K := by
    intro B Xo4_9_1 go4_13_1 go4_17_1 go4_21_1
    refine RA.of2 hall hf hb (RA.stepH (L := [10, 25]) (Tell.of rfl) (by kernel_rfl) (by simp) (RA.each ?_ (RA.each ?_ (RA.each0))))
    ·skip
     refine RO.v rfl rfl (V.bytesStr (l := ([(IntKind.u8.wrap m.kind), (IntKind.u8.wrap m.from_), (IntKind.u8.wrap m.to)] : List Int)) rfl rfl rfl (by kernel_rfl) (by kernel_rfl) (.al (k := none) (i := 22) (sz := 1) (V := Xo4_9_1) rfl rfl nofun)) rfl ?_
     refine RA.first (i := 14) (ls' := (bt 41 247392370687)) (Tell.of rfl) (by kernel_rfl) rfl rfl rfl (VF.p (V.cat rfl rfl rfl (by have z1 := msz.z1; have z2 := msz.z2; have z3 := msz.z3; have z4 := msz.z4; have z5 := msz.z5; have z6 := msz.z6; have z7 := msz.z7; have zd := msz.d; first | (simp only [ByteArray.size_append, maxLen, z6, z7]; omega) | (have h9 := hP.size msz; have h8 := entT_size 1 ei; have h7 := shB_size (s := (entT 1 ei).1) (by omega); simp only [ByteArray.size_append, maxLen]; omega) | (have h9 := hP.size msz; have h8 := confText_size (l := m.conf); have h7 := shB_size (s := (confText m.conf).1) (by omega); have h6 := shB_size (s := m.data) (by omega); simp only [ByteArray.size_append, maxLen]; omega)))) ?_
     refine RA.first (i := 18) (ls' := (bt 41 247392632831)) (Tell.of rfl) (by kernel_rfl) rfl rfl rfl (VF.p (V.cat rfl rfl rfl (by have z1 := msz.z1; have z2 := msz.z2; have z3 := msz.z3; have z4 := msz.z4; have z5 := msz.z5; have z6 := msz.z6; have z7 := msz.z7; have zd := msz.d; first | (simp only [ByteArray.size_append, maxLen, z6, z7]; omega) | (have h9 := hP.size msz; have h8 := entT_size 1 ei; have h7 := shB_size (s := (entT 1 ei).1) (by omega); simp only [ByteArray.size_append, maxLen]; omega) | (have h9 := hP.size msz; have h8 := confText_size (l := m.conf); have h7 := shB_size (s := (confText m.conf).1) (by omega); have h6 := shB_size (s := m.data) (by omega); simp only [ByteArray.size_append, maxLen]; omega)))) ?_
     refine RA.first (i := 22) (ls' := (bt 41 247396827135)) (Tell.of rfl) (by kernel_rfl) rfl rfl rfl (VF.p (V.cat rfl rfl rfl (by have z1 := msz.z1; have z2 := msz.z2; have z3 := msz.z3; have z4 := msz.z4; have z5 := msz.z5; have z6 := msz.z6; have z7 := msz.z7; have zd := msz.d; first | (simp only [ByteArray.size_append, maxLen, z6, z7]; omega) | (have h9 := hP.size msz; have h8 := entT_size 1 ei; have h7 := shB_size (s := (entT 1 ei).1) (by omega); simp only [ByteArray.size_append, maxLen]; omega) | (have h9 := hP.size msz; have h8 := confText_size (l := m.conf); have h7 := shB_size (s := (confText m.conf).1) (by omega); have h6 := shB_size (s := m.data) (by omega); simp only [ByteArray.size_append, maxLen]; omega)))) ?_
     exact RA.to2 hall hf hb (ro4_18 B Xo4_9_1 go4_13_1 go4_17_1 go4_21_1) rfl rfl (by kernel_rfl)
    ·skip
     refine RO.call rfl rfl (spec_l01Var_fn m.commit (by first | exact msz.e | exact msz.i | exact msz.l | exact msz.c | exact ⟨by omega, by have h9 := msz.n; omega⟩)) rfl (.cons (.one (.r .r)) (.nil)) rfl fun go4_25_1 => ?_
     exact RA.to2 hall hf hb (ro4_11 B Xo4_9_1 go4_13_1 go4_17_1 go4_21_1 go4_25_1) rfl rfl (by kernel_rfl)
   have ro4_8 : ∀ B, ∀ (Xo4_9_1 : Value), ∀ (go4_13_1 : Nat → Nat → Value), RA f E B all 13 (bt 41 247390142463) ⟨87, [(27, S ((bytesOf ([(IntKind.u8.wrap m.kind), (IntKind.u8.wrap m.from_), (IntKind.u8.wrap m.to)] : List Int)) ++ (varB m.term_.toNat))), (29, I m.index), (33, I m.logTerm), (37, I m.commit), (41, Bo m.ok), (45, Bo m.last), (50, I (m.entries.length : Int))] ++ b0⟩ K := by
    intro B Xo4_9_1 go4_13_1
    refine RA.of2 hall hf hb (RA.stepH (L := [17]) (Tell.of rfl) (by kernel_rfl) (by simp) (RA.each ?_ (RA.each0)))
    ·skip
     refine RO.call rfl rfl (spec_l01Var_fn m.index (by first | exact msz.e | exact msz.i | exact msz.l | exact msz.c | exact ⟨by omega, by have h9 := msz.n; omega⟩)) rfl (.cons (.one (.r .r)) (.nil)) rfl fun go4_17_1 => ?_
     refine RA.first (i := 18) (ls' := (bt 41 247390535679)) (Tell.of rfl) (by kernel_rfl) rfl rfl rfl (VF.p (V.cat rfl rfl rfl (by have z1 := msz.z1; have z2 := msz.z2; have z3 := msz.z3; have z4 := msz.z4; have z5 := msz.z5; have z6 := msz.z6; have z7 := msz.z7; have zd := msz.d; first | (simp only [ByteArray.size_append, maxLen, z6, z7]; omega) | (have h9 := hP.size msz; have h8 := entT_size 1 ei; have h7 := shB_size (s := (entT 1 ei).1) (by omega); simp only [ByteArray.size_append, maxLen]; omega) | (have h9 := hP.size msz; have h8 := confText_size (l := m.conf); have h7 := shB_size (s := (confText m.conf).1) (by omega); have h6 := shB_size (s := m.data) (by omega); simp only [ByteArray.size_append, maxLen]; omega)))) ?_
     exact RA.to2 hall hf hb (ro4_13 B Xo4_9_1 go4_13_1 go4_17_1) rfl rfl (by kernel_rfl)
   have ro4_7 : ∀ B, ∀ (go4_13_1 : Nat → Nat → Value), ∀ (go4_17_1 : Nat → Nat → Value), ∀ (go4_21_1 : Nat → Nat → Value), RA f E B all 14 (bt 41 247392352767) ⟨87, [(15, .r (.v (.int .u8 (IntKind.u8.wrap m.kind)))), (18, .r (.v (.int .u8 (IntKind.u8.wrap m.from_)))), (21, .r (.v (.int .u8 (IntKind.u8.wrap m.to)))), (26, S (varB m.term_.toNat)), (30, S (varB m.index.toNat)), (34, S (varB m.logTerm.toNat)), (37, I m.commit), (41, Bo m.ok), (45, Bo m.last), (50, I (m.entries.length : Int))] ++ b0⟩ K := by
    intro B go4_13_1 go4_17_1 go4_21_1
    refine RA.of2 hall hf hb (RA.stepH (L := [9, 25]) (Tell.of rfl) (by kernel_rfl) (by simp) (RA.each ?_ (RA.each ?_ (RA.each0))))
    ·skip
     refine RO.buildV (c := cU) (L := [(IntKind.u8.wrap m.kind), (IntKind.u8.wrap m.from_), (IntKind.u8.wrap m.to)]) (vs := [(.int .u8 (IntKind.u8.wrap m.kind)), (.int .u8 (IntKind.u8.wrap m.from_)), (.int .u8 (IntKind.u8.wrap m.to))]) [.tmp 15, .tmp 18, .tmp 21] rfl rfl rfl rfl rfl rfl rfl rfl rfl rfl rfl rfl (by decide) (by decide) rfl rfl fun Xo4_9_1 => ?_
     exact RA.to2 hall hf hb (ro4_9 B Xo4_9_1 go4_13_1 go4_17_1 go4_21_1) rfl rfl (by kernel_rfl)
    ·skip
     refine RO.call rfl rfl (spec_l01Var_fn m.commit (by first | exact msz.e | exact msz.i | exact msz.l | exact msz.c | exact ⟨by omega, by have h9 := msz.n; omega⟩)) rfl (.cons (.one (.r .r)) (.nil)) rfl fun go4_25_1 => ?_
     exact RA.to2 hall hf hb (ro4_10 B go4_13_1 go4_17_1 go4_21_1 go4_25_1) rfl rfl (by kernel_rfl)
   have ro4_6 : ∀ B, ∀ (Xo4_9_1 : Value), ∀ (go4_13_1 : Nat → Nat → Value), ∀ (go4_17_1 : Nat → Nat → Value), RA f E B all 14 (bt 41 247390256127) ⟨87, [(22, .w (sl 1 cU ([(IntKind.u8.wrap m.kind), (IntKind.u8.wrap m.from_), (IntKind.u8.wrap m.to)] : List Int)) Xo4_9_1), (26, S (varB m.term_.toNat)), (30, S (varB m.index.toNat)), (33, I m.logTerm), (37, I m.commit), (41, Bo m.ok), (45, Bo m.last), (50, I (m.entries.length : Int))] ++ b0⟩ K := by
    intro B Xo4_9_1 go4_13_1 go4_17_1
    refine RA.of2 hall hf hb (RA.stepH (L := [10, 21]) (Tell.of rfl) (by kernel_rfl) (by simp) (RA.each ?_ (RA.each ?_ (RA.each0))))
    ·skip
     refine RO.v rfl rfl (V.bytesStr (l := ([(IntKind.u8.wrap m.kind), (IntKind.u8.wrap m.from_), (IntKind.u8.wrap m.to)] : List Int)) rfl rfl rfl (by kernel_rfl) (by kernel_rfl) (.al (k := none) (i := 22) (sz := 1) (V := Xo4_9_1) rfl rfl nofun)) rfl ?_
     refine RA.first (i := 14) (ls' := (bt 41 247390273535)) (Tell.of rfl) (by kernel_rfl) rfl rfl rfl (VF.p (V.cat rfl rfl rfl (by have z1 := msz.z1; have z2 := msz.z2; have z3 := msz.z3; have z4 := msz.z4; have z5 := msz.z5; have z6 := msz.z6; have z7 := msz.z7; have zd := msz.d; first | (simp only [ByteArray.size_append, maxLen, z6, z7]; omega) | (have h9 := hP.size msz; have h8 := entT_size 1 ei; have h7 := shB_size (s := (entT 1 ei).1) (by omega); simp only [ByteArray.size_append, maxLen]; omega) | (have h9 := hP.size msz; have h8 := confText_size (l := m.conf); have h7 := shB_size (s := (confText m.conf).1) (by omega); have h6 := shB_size (s := m.data) (by omega); simp only [ByteArray.size_append, maxLen]; omega)))) ?_
     refine RA.first (i := 18) (ls' := (bt 41 247390535679)) (Tell.of rfl) (by kernel_rfl) rfl rfl rfl (VF.p (V.cat rfl rfl rfl (by have z1 := msz.z1; have z2 := msz.z2; have z3 := msz.z3; have z4 := msz.z4; have z5 := msz.z5; have z6 := msz.z6; have z7 := msz.z7; have zd := msz.d; first | (simp only [ByteArray.size_append, maxLen, z6, z7]; omega) | (have h9 := hP.size msz; have h8 := entT_size 1 ei; have h7 := shB_size (s := (entT 1 ei).1) (by omega); simp only [ByteArray.size_append, maxLen]; omega) | (have h9 := hP.size msz; have h8 := confText_size (l := m.conf); have h7 := shB_size (s := (confText m.conf).1) (by omega); have h6 := shB_size (s := m.data) (by omega); simp only [ByteArray.size_append, maxLen]; omega)))) ?_
     exact RA.to2 hall hf hb (ro4_13 B Xo4_9_1 go4_13_1 go4_17_1) rfl rfl (by kernel_rfl)
    ·skip
     refine RO.call rfl rfl (spec_l01Var_fn m.logTerm (by first | exact msz.e | exact msz.i | exact msz.l | exact msz.c | exact ⟨by omega, by have h9 := msz.n; omega⟩)) rfl (.cons (.one (.r .r)) (.nil)) rfl fun go4_21_1 => ?_
     exact RA.to2 hall hf hb (ro4_9 B Xo4_9_1 go4_13_1 go4_17_1 go4_21_1) rfl rfl (by kernel_rfl)
   have ro4_5 : ∀ B, ∀ (go4_13_1 : Nat → Nat → Value), ∀ (go4_17_1 : Nat → Nat → Value), RA f E B all 15 (bt 41 247390255615) ⟨87, [(15, .r (.v (.int .u8 (IntKind.u8.wrap m.kind)))), (18, .r (.v (.int .u8 (IntKind.u8.wrap m.from_)))), (21, .r (.v (.int .u8 (IntKind.u8.wrap m.to)))), (26, S (varB m.term_.toNat)), (30, S (varB m.index.toNat)), (33, I m.logTerm), (37, I m.commit), (41, Bo m.ok), (45, Bo m.last), (50, I (m.entries.length : Int))] ++ b0⟩ K := by
    intro B go4_13_1 go4_17_1
    refine RA.of2 hall hf hb (RA.stepH (L := [9, 21]) (Tell.of rfl) (by kernel_rfl) (by simp) (RA.each ?_ (RA.each ?_ (RA.each0))))
    ·skip
     refine RO.buildV (c := cU) (L := [(IntKind.u8.wrap m.kind), (IntKind.u8.wrap m.from_), (IntKind.u8.wrap m.to)]) (vs := [(.int .u8 (IntKind.u8.wrap m.kind)), (.int .u8 (IntKind.u8.wrap m.from_)), (.int .u8 (IntKind.u8.wrap m.to))]) [.tmp 15, .tmp 18, .tmp 21] rfl rfl rfl rfl rfl rfl rfl rfl rfl rfl rfl rfl (by decide) (by decide) rfl rfl fun Xo4_9_1 => ?_
     exact RA.to2 hall hf hb (ro4_6 B Xo4_9_1 go4_13_1 go4_17_1) rfl rfl (by kernel_rfl)
    ·skip
     refine RO.call rfl rfl (spec_l01Var_fn m.logTerm (by first | exact msz.e | exact msz.i | exact msz.l | exact msz.c | exact ⟨by omega, by have h9 := msz.n; omega⟩)) rfl (.cons (.one (.r .r)) (.nil)) rfl fun go4_21_1 => ?_
     exact RA.to2 hall hf hb (ro4_7 B go4_13_1 go4_17_1 go4_21_1) rfl rfl (by kernel_rfl)
   have ro4_4 : ∀ B, ∀ (Xo4_9_1 : Value), ∀ (go4_13_1 : Nat → Nat → Value), RA f E B all 15 (bt 41 247390125055) ⟨87, [(22, .w (sl 1 cU ([(IntKind.u8.wrap m.kind), (IntKind.u8.wrap m.from_), (IntKind.u8.wrap m.to)] : List Int)) Xo4_9_1), (26, S (varB m.term_.toNat)), (29, I m.index), (33, I m.logTerm), (37, I m.commit), (41, Bo m.ok), (45, Bo m.last), (50, I (m.entries.length : Int))] ++ b0⟩ K := by
    intro B Xo4_9_1 go4_13_1
    refine RA.of2 hall hf hb (RA.stepH (L := [10, 17]) (Tell.of rfl) (by kernel_rfl) (by simp) (RA.each ?_ (RA.each ?_ (RA.each0))))
    ·skip
     refine RO.v rfl rfl (V.bytesStr (l := ([(IntKind.u8.wrap m.kind), (IntKind.u8.wrap m.from_), (IntKind.u8.wrap m.to)] : List Int)) rfl rfl rfl (by kernel_rfl) (by kernel_rfl) (.al (k := none) (i := 22) (sz := 1) (V := Xo4_9_1) rfl rfl nofun)) rfl ?_
     refine RA.first (i := 14) (ls' := (bt 41 247390142463)) (Tell.of rfl) (by kernel_rfl) rfl rfl rfl (VF.p (V.cat rfl rfl rfl (by have z1 := msz.z1; have z2 := msz.z2; have z3 := msz.z3; have z4 := msz.z4; have z5 := msz.z5; have z6 := msz.z6; have z7 := msz.z7; have zd := msz.d; first | (simp only [ByteArray.size_append, maxLen, z6, z7]; omega) | (have h9 := hP.size msz; have h8 := entT_size 1 ei; have h7 := shB_size (s := (entT 1 ei).1) (by omega); simp only [ByteArray.size_append, maxLen]; omega) | (have h9 := hP.size msz; have h8 := confText_size (l := m.conf); have h7 := shB_size (s := (confText m.conf).1) (by omega); have h6 := shB_size (s := m.data) (by omega); simp only [ByteArray.size_append, maxLen]; omega)))) ?_
     exact RA.to2 hall hf hb (ro4_8 B Xo4_9_1 go4_13_1) rfl rfl (by kernel_rfl)
    ·skip
     refine RO.call rfl rfl (spec_l01Var_fn m.index (by first | exact msz.e | exact msz.i | exact msz.l | exact msz.c | exact ⟨by omega, by have h9 := msz.n; omega⟩)) rfl (.cons (.one (.r .r)) (.nil)) rfl fun go4_17_1 => ?_
     exact RA.to2 hall hf hb (ro4_6 B Xo4_9_1 go4_13_1 go4_17_1) rfl rfl (by kernel_rfl)
   have ro4_3 : ∀ B, ∀ (Xo4_9_1 : Value), RA f E B all 15 (bt 41 247390117887) ⟨87, [(23, S (bytesOf ([(IntKind.u8.wrap m.kind), (IntKind.u8.wrap m.from_), (IntKind.u8.wrap m.to)] : List Int))), (25, I m.term_), (29, I m.index), (33, I m.logTerm), (37, I m.commit), (41, Bo m.ok), (45, Bo m.last), (50, I (m.entries.length : Int))] ++ b0⟩ K := by
    intro B Xo4_9_1
    refine RA.of2 hall hf hb (RA.stepH (L := [13]) (Tell.of rfl) (by kernel_rfl) (by simp) (RA.each ?_ (RA.each0)))
    ·skip
     refine RO.call rfl rfl (spec_l01Var_fn m.term_ (by first | exact msz.e | exact msz.i | exact msz.l | exact msz.c | exact ⟨by omega, by have h9 := msz.n; omega⟩)) rfl (.cons (.one (.r .r)) (.nil)) rfl fun go4_13_1 => ?_
     refine RA.first (i := 14) (ls' := (bt 41 247390142463)) (Tell.of rfl) (by kernel_rfl) rfl rfl rfl (VF.p (V.cat rfl rfl rfl (by have z1 := msz.z1; have z2 := msz.z2; have z3 := msz.z3; have z4 := msz.z4; have z5 := msz.z5; have z6 := msz.z6; have z7 := msz.z7; have zd := msz.d; first | (simp only [ByteArray.size_append, maxLen, z6, z7]; omega) | (have h9 := hP.size msz; have h8 := entT_size 1 ei; have h7 := shB_size (s := (entT 1 ei).1) (by omega); simp only [ByteArray.size_append, maxLen]; omega) | (have h9 := hP.size msz; have h8 := confText_size (l := m.conf); have h7 := shB_size (s := (confText m.conf).1) (by omega); have h6 := shB_size (s := m.data) (by omega); simp only [ByteArray.size_append, maxLen]; omega)))) ?_
     exact RA.to2 hall hf hb (ro4_8 B Xo4_9_1 go4_13_1) rfl rfl (by kernel_rfl)
   have ro4_2 : ∀ B, ∀ (go4_13_1 : Nat → Nat → Value), RA f E B all 16 (bt 41 247390124543) ⟨87, [(15, .r (.v (.int .u8 (IntKind.u8.wrap m.kind)))), (18, .r (.v (.int .u8 (IntKind.u8.wrap m.from_)))), (21, .r (.v (.int .u8 (IntKind.u8.wrap m.to)))), (26, S (varB m.term_.toNat)), (29, I m.index), (33, I m.logTerm), (37, I m.commit), (41, Bo m.ok), (45, Bo m.last), (50, I (m.entries.length : Int))] ++ b0⟩ K := by
    intro B go4_13_1
    refine RA.of2 hall hf hb (RA.stepH (L := [9, 17]) (Tell.of rfl) (by kernel_rfl) (by simp) (RA.each ?_ (RA.each ?_ (RA.each0))))
    ·skip
     refine RO.buildV (c := cU) (L := [(IntKind.u8.wrap m.kind), (IntKind.u8.wrap m.from_), (IntKind.u8.wrap m.to)]) (vs := [(.int .u8 (IntKind.u8.wrap m.kind)), (.int .u8 (IntKind.u8.wrap m.from_)), (.int .u8 (IntKind.u8.wrap m.to))]) [.tmp 15, .tmp 18, .tmp 21] rfl rfl rfl rfl rfl rfl rfl rfl rfl rfl rfl rfl (by decide) (by decide) rfl rfl fun Xo4_9_1 => ?_
     exact RA.to2 hall hf hb (ro4_4 B Xo4_9_1 go4_13_1) rfl rfl (by kernel_rfl)
    ·skip
     refine RO.call rfl rfl (spec_l01Var_fn m.index (by first | exact msz.e | exact msz.i | exact msz.l | exact msz.c | exact ⟨by omega, by have h9 := msz.n; omega⟩)) rfl (.cons (.one (.r .r)) (.nil)) rfl fun go4_17_1 => ?_
     exact RA.to2 hall hf hb (ro4_5 B go4_13_1 go4_17_1) rfl rfl (by kernel_rfl)
   have ro4_1 : ∀ B, ∀ (Xo4_9_1 : Value), RA f E B all 16 (bt 41 247390116863) ⟨87, [(22, .w (sl 1 cU ([(IntKind.u8.wrap m.kind), (IntKind.u8.wrap m.from_), (IntKind.u8.wrap m.to)] : List Int)) Xo4_9_1), (25, I m.term_), (29, I m.index), (33, I m.logTerm), (37, I m.commit), (41, Bo m.ok), (45, Bo m.last), (50, I (m.entries.length : Int))] ++ b0⟩ K := by
    intro B Xo4_9_1
    refine RA.of2 hall hf hb (RA.stepH (L := [10, 13]) (Tell.of rfl) (by kernel_rfl) (by simp) (RA.each ?_ (RA.each ?_ (RA.each0))))
    ·skip
     refine RO.v rfl rfl (V.bytesStr (l := ([(IntKind.u8.wrap m.kind), (IntKind.u8.wrap m.from_), (IntKind.u8.wrap m.to)] : List Int)) rfl rfl rfl (by kernel_rfl) (by kernel_rfl) (.al (k := none) (i := 22) (sz := 1) (V := Xo4_9_1) rfl rfl nofun)) rfl ?_
     exact RA.to2 hall hf hb (ro4_3 B Xo4_9_1) rfl rfl (by kernel_rfl)
    ·skip
     refine RO.call rfl rfl (spec_l01Var_fn m.term_ (by first | exact msz.e | exact msz.i | exact msz.l | exact msz.c | exact ⟨by omega, by have h9 := msz.n; omega⟩)) rfl (.cons (.one (.r .r)) (.nil)) rfl fun go4_13_1 => ?_
     exact RA.to2 hall hf hb (ro4_4 B Xo4_9_1 go4_13_1) rfl rfl (by kernel_rfl)
   have ro4_0 : ∀ B, RA f E B all 17 (bt 41 247390116351) ⟨87, [(15, .r (.v (.int .u8 (IntKind.u8.wrap m.kind)))), (18, .r (.v (.int .u8 (IntKind.u8.wrap m.from_)))), (21, .r (.v (.int .u8 (IntKind.u8.wrap m.to)))), (25, I m.term_), (29, I m.index), (33, I m.logTerm), (37, I m.commit), (41, Bo m.ok), (45, Bo m.last), (50, I (m.entries.length : Int))] ++ b0⟩ K := by
    intro B
    refine RA.of2 hall hf hb (RA.stepH (L := [9, 13]) (Tell.of rfl) (by kernel_rfl) (by simp) (RA.each ?_ (RA.each ?_ (RA.each0))))
    ·skip
     refine RO.buildV (c := cU) (L := [(IntKind.u8.wrap m.kind), (IntKind.u8.wrap m.from_), (IntKind.u8.wrap m.to)]) (vs := [(.int .u8 (IntKind.u8.wrap m.kind)), (.int .u8 (IntKind.u8.wrap m.from_)), (.int .u8 (IntKind.u8.wrap m.to))]) [.tmp 15, .tmp 18, .tmp 21] rfl rfl rfl rfl rfl rfl rfl rfl rfl rfl rfl rfl (by decide) (by decide) rfl rfl fun Xo4_9_1 => ?_
     exact RA.to2 hall hf hb (ro4_1 B Xo4_9_1) rfl rfl (by kernel_rfl)
    ·skip
     refine RO.call rfl rfl (spec_l01Var_fn m.term_ (by first | exact msz.e | exact msz.i | exact msz.l | exact msz.c | exact ⟨by omega, by have h9 := msz.n; omega⟩)) rfl (.cons (.one (.r .r)) (.nil)) rfl fun go4_13_1 => ?_
     exact RA.to2 hall hf hb (ro4_2 B go4_13_1) rfl rfl (by kernel_rfl)
   refine RA.start (by kernel_rfl) (by kernel_rfl) (m := 41) (ls' := (bt 41 0)) ?_
   refine RA.fr XK 87 17 [0,1,2,3,4,5,6,7,8,11,12,15,16,19,20,23,24,27,28,31,32,35,36,37] (bt 41 247390116351) rfl rfl (by kernel_rfl) (Tell.of rfl) ?_
   (conv=>whnf);refine ⟨rfl,fun B=>?_⟩
   exact RA.to2 hall hf hb (ro4_0 B) rfl rfl (by kernel_rfl)
  ·rintro ⟨Xo4_9_1, go4_13_1, go4_17_1, go4_21_1, go4_25_1, go4_29_1, go4_33_1, go4_38_1⟩
   refine CW.seq ?_
   refine CW.k XK 87 1 [1,4,5] rfl ?_
   (conv=>whnf);refine ⟨rfl,?_⟩
   refine CW.block ?_
   refine CW.loopI 87 (fun (zz : Nat × ByteArray) => match zz with | (i, s) => [(1, .rp (Message.c m)), (4, S s), (5, I (i : Int))]) (fun (zz : Nat × ByteArray) => match zz with | (i, s) => EnP m i s) (fun (zz : Nat × ByteArray) => match zz with | (i, s) => m.entries.length - i) (0, _) rfl (Le.c rfl <| Le.c rfl <| Le.c rfl <| Le.e) ⟨by omega, rfl⟩ ?_
   rintro ⟨i, s⟩ hP
   have hb := hP.le
   refine CW.seq ?_
   refine CW.k XK 87 1 [1,4,5,57] rfl ?_
   (conv=>whnf);refine ⟨rfl,?_⟩
   refine CW.cond rfl (fun h5 => ?_) (fun h5 => ?_)
   ·skip
    have hii : i < m.entries.length := by have := h5; simp at this; first | exact this | omega | (simp; done) | (simp; omega)
    obtain ⟨ei, hei⟩ : ∃ e, m.entries[i]? = some e := ⟨_, List.getElem?_eq_getElem hii⟩
    have hdi := drop_get hei
    refine CW.skip ?_
    refine CW.keep 87 [1,4,5] rfl ?_;(conv=>whnf);refine ⟨?_⟩
    refine CW.seq ?_
    refine CW.block ?_
    refine CW.seq ?_
    refine CW.region ?_
    refine RW.k XK 87 3 rfl ?_
    (conv=>whnf);refine ⟨rfl,?_⟩
    refine RW.v rfl (V.indexS rfl rfl rfl rfl rfl rfl Entry.len hei) ?_
    refine RW.k XK 87 1 rfl ?_
    (conv=>whnf);refine ⟨rfl,?_⟩
    refine RW.call rfl (spec_EntryText_fn 1 ei (hok.1.2 ei (List.mem_of_getElem? hei))) rfl (.cons (.one (.r .r)) (.cons (.agg (.cons (.r .r) (.cons (.r .r) (.cons (.r .r) (.nil))))) (.nil))) fun g6 => ?_
    refine RW.k XK 87 5 rfl ?_
    (conv=>whnf);refine ⟨rfl,?_⟩
    refine RW.nil ?_
    refine CW.keep 87 [1,4,5,6] rfl ?_;(conv=>whnf);refine ⟨?_⟩
    refine CW.region ?_
    refine RW.k XK 87 2 rfl ?_
    (conv=>whnf);refine ⟨rfl,?_⟩
    refine RW.call rfl (spec_l05Short_fn ((entT 1 ei).1) (by first | (have h9 := entT_size 1 ei; omega) | (have h9 := confText_size (l := m.conf); omega) | (have h9 := msz.d; omega))) rfl (.cons (.one (.r .r)) (.nil)) fun g7 => ?_
    refine RW.v rfl (V.cat rfl rfl rfl (by have z1 := msz.z1; have z2 := msz.z2; have z3 := msz.z3; have z4 := msz.z4; have z5 := msz.z5; have z6 := msz.z6; have z7 := msz.z7; have zd := msz.d; first | (simp only [ByteArray.size_append, maxLen, z6, z7]; omega) | (have h9 := hP.size msz; have h8 := entT_size 1 ei; have h7 := shB_size (s := (entT 1 ei).1) (by omega); simp only [ByteArray.size_append, maxLen]; omega) | (have h9 := hP.size msz; have h8 := confText_size (l := m.conf); have h7 := shB_size (s := (confText m.conf).1) (by omega); have h6 := shB_size (s := m.data) (by omega); simp only [ByteArray.size_append, maxLen]; omega))) ?_
    refine RW.k XK 87 1 rfl ?_
    (conv=>whnf);refine ⟨rfl,?_⟩
    refine RW.nil ?_
    refine CW.keep 87 [1,4,5] rfl ?_;(conv=>whnf);refine ⟨?_⟩
    refine CW.region ?_
    refine RW.k XK 87 1 rfl ?_
    (conv=>whnf);refine ⟨rfl,?_⟩
    refine RW.v rfl (V.inc rfl rfl rfl hii hl1) ?_
    refine RW.k XK 87 1 rfl ?_
    (conv=>whnf);refine ⟨rfl,?_⟩
    refine RW.nil ?_
    exact ⟨(i + 1, _), by simp only []; omega, ⟨hii, by rw [entsB_snoc hei, ← hP.eq]⟩, rfl, Le.c rfl <| Le.c rfl <| Le.c rfl <| Le.e⟩
   ·skip
    have hii : m.entries.length ≤ i := by have := h5; simp at this; first | exact this | omega | (simp; done) | (simp; omega)
    have hdi : m.entries.drop i = [] := List.drop_eq_nil_of_le hii
    refine CW.exit ?_
    refine CW.keep 87 [1,4] rfl ?_;(conv=>whnf);refine ⟨?_⟩
    refine CW.seq ?_
    refine CW.region ?_
    refine RW.k XK 87 2 rfl ?_
    (conv=>whnf);refine ⟨rfl,?_⟩
    refine RW.call rfl (spec_ConfText_fn m.conf hok.2.1.1) rfl (.cons (.one (.r .r)) (.nil)) fun g8 => ?_
    refine RW.k XK 87 5 rfl ?_
    (conv=>whnf);refine ⟨rfl,?_⟩
    refine RW.nil ?_
    refine CW.keep 87 [1,4,8] rfl ?_;(conv=>whnf);refine ⟨?_⟩
    refine CW.anyJ2 (fc := []) (L0 := []) 87 (fun (zz : (Nat → Nat → Value) × (Nat → Nat → Value)) => match zz with | (go9_2_1, go9_6_1) => [(2, S ((s ++ (shB ((confText m.conf).1))) ++ (shB m.data))), (3, Bo true)]) (fun all hall f hf b0 hb K hK => ?_) ?_
    ·skip
     have ro9_2 : ∀ B, ∀ (go9_2_1 : Nat → Nat → Value), ∀ (go9_6_1 : Nat → Nat → Value), RA f E B all 0 (bt 10 1023) ⟨87, [(2, S ((s ++ (shB ((confText m.conf).1))) ++ (shB m.data))), (3, Bo true)] ++ b0⟩ K := by
      intro B go9_2_1 go9_6_1
      exact RA.of2 hall hf hb (RA.finH (Tell.of rfl) (by kernel_rfl) (hK (go9_2_1, go9_6_1) _ rfl (Le.of rfl)))
     have ro9_1 : ∀ B, ∀ (go9_2_1 : Nat → Nat → Value), RA f E B all 4 (bt 10 63) ⟨87, [(82, S (s ++ (shB ((confText m.conf).1)))), (84, S m.data)] ++ b0⟩ K := by
      intro B go9_2_1
      refine RA.of2 hall hf hb (RA.stepH (L := [6]) (Tell.of rfl) (by kernel_rfl) (by simp) (RA.each ?_ (RA.each0)))
      ·skip
       refine RO.call rfl rfl (spec_l05Short_fn m.data (by first | (have h9 := entT_size 1 ei; omega) | (have h9 := confText_size (l := m.conf); omega) | (have h9 := msz.d; omega))) rfl (.cons (.one (.r .r)) (.nil)) rfl fun go9_6_1 => ?_
       refine RA.first (i := 7) (ls' := (bt 10 255)) (Tell.of rfl) (by kernel_rfl) rfl rfl rfl (VF.p (V.cat rfl rfl rfl (by have z1 := msz.z1; have z2 := msz.z2; have z3 := msz.z3; have z4 := msz.z4; have z5 := msz.z5; have z6 := msz.z6; have z7 := msz.z7; have zd := msz.d; first | (simp only [ByteArray.size_append, maxLen, z6, z7]; omega) | (have h9 := hP.size msz; have h8 := entT_size 1 ei; have h7 := shB_size (s := (entT 1 ei).1) (by omega); simp only [ByteArray.size_append, maxLen]; omega) | (have h9 := hP.size msz; have h8 := confText_size (l := m.conf); have h7 := shB_size (s := (confText m.conf).1) (by omega); have h6 := shB_size (s := m.data) (by omega); simp only [ByteArray.size_append, maxLen]; omega)))) ?_
       refine RA.fr XK 87 0 [8,9] (bt 10 1023) rfl rfl (by kernel_rfl) (Tell.of rfl) ?_
       (conv=>whnf);refine ⟨rfl,fun B=>?_⟩
       exact RA.to2 hall hf hb (ro9_2 B go9_2_1 go9_6_1) rfl rfl (by kernel_rfl)
     have ro9_0 : ∀ B, RA f E B all 6 (bt 10 51) ⟨87, [(79, S s), (80, S ((confText m.conf).1)), (84, S m.data)] ++ b0⟩ K := by
      intro B
      refine RA.of2 hall hf hb (RA.stepH (L := [2]) (Tell.of rfl) (by kernel_rfl) (by simp) (RA.each ?_ (RA.each0)))
      ·skip
       refine RO.call rfl rfl (spec_l05Short_fn ((confText m.conf).1) (by first | (have h9 := entT_size 1 ei; omega) | (have h9 := confText_size (l := m.conf); omega) | (have h9 := msz.d; omega))) rfl (.cons (.one (.r .r)) (.nil)) rfl fun go9_2_1 => ?_
       refine RA.first (i := 3) (ls' := (bt 10 63)) (Tell.of rfl) (by kernel_rfl) rfl rfl rfl (VF.p (V.cat rfl rfl rfl (by have z1 := msz.z1; have z2 := msz.z2; have z3 := msz.z3; have z4 := msz.z4; have z5 := msz.z5; have z6 := msz.z6; have z7 := msz.z7; have zd := msz.d; first | (simp only [ByteArray.size_append, maxLen, z6, z7]; omega) | (have h9 := hP.size msz; have h8 := entT_size 1 ei; have h7 := shB_size (s := (entT 1 ei).1) (by omega); simp only [ByteArray.size_append, maxLen]; omega) | (have h9 := hP.size msz; have h8 := confText_size (l := m.conf); have h7 := shB_size (s := (confText m.conf).1) (by omega); have h6 := shB_size (s := m.data) (by omega); simp only [ByteArray.size_append, maxLen]; omega)))) ?_
       exact RA.to2 hall hf hb (ro9_1 B go9_2_1) rfl rfl (by kernel_rfl)
     refine RA.start (by kernel_rfl) (by kernel_rfl) (m := 10) (ls' := (bt 10 0)) ?_
     refine RA.fr XK 87 6 [0,1,4,5] (bt 10 51) rfl rfl (by kernel_rfl) (Tell.of rfl) ?_
     (conv=>whnf);refine ⟨rfl,fun B=>?_⟩
     exact RA.to2 hall hf hb (ro9_0 B) rfl rfl (by kernel_rfl)
    ·rintro ⟨go9_2_1, go9_6_1⟩
     refine CW.ret ?_
     exact Post.tup (by decide) (RVs.c (RV.s rfl (by rw [msgT_yes hmo hP hii] <;> rfl)) (RVs.c (RV.b rfl (by rw [msgT_yes hmo hP hii] <;> rfl)) RVs.e)) (AOs.a rfl AOs.e)
end Go.Proofs.Ytmhnehgpmndiiaa.Y
