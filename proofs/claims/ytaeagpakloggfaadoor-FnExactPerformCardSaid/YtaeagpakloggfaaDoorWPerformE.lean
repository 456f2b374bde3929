import Derived.Test.YtaeagpakloggfaaDoorWPerformD
namespace Go.Proofs.YtaeagpakloggfaaDoor.Y
open Go Go.RowKit Go.Eng Go.Proofs
set_option maxRecDepth 10000
set_option maxHeartbeats 4000000 in
theorem spec_Perform_fn (k : Keep) (n : Int) (x : Command) (hok : okToKeep k) : Eng.Fn E.P 21 [.agg ((Keep.c k).map .r), .one (.r (.v (.int .i64 n))), .agg ((Command.c x).map .r)] (.tup [.agg ((Keep.c ((perfK k n x).1)).map .w), .one (.w (.v (.string ((perfK k n x).2.1)))), .one (.w (.v (.bool ((perfK k n x).2.2))))]) [.agg ((Keep.c k).map .r), .one (.r (.v (.int .i64 n))), .agg ((Command.c x).map .r)] := by
 refine Eng.Fn.intro (E := E) (rvs := [.cell 6 31, .tmp 7, .tmp 8]) Tryd.func21 rfl rfl rfl (by simp [outSlots, moved, rvSlot, sl]) ?_
 intro B g bo
 refine CW.keep 120 [0,1,2] rfl ?_;(conv=>whnf);refine ⟨?_⟩
 have hl1 : k.sessions.length ≤ maxLen := by have := hok.1.1; simp only [maxLen]; omega
 have hl2 : k.items.length ≤ maxLen := by have := hok.2.1; simp only [maxLen]; omega
 refine CW.seq ?_
 refine CW.region ?_
 refine RW.k XK 120 1 rfl ?_
 (conv=>whnf);intro b1;(conv=>whnf);refine ⟨rfl,?_⟩
 refine RW.freezeB (ts := (Keep.c k)) 3 rfl (DRd.r (DRd.r DRd.e)) ?_
 refine RW.k XK 120 1 rfl ?_
 (conv=>whnf);intro b2;(conv=>whnf);refine ⟨rfl,?_⟩
 refine RW.freezeB (ts := (Command.c x)) 5 rfl (DRd.r (DRd.r (DRd.r (DRd.r (DRd.r (DRd.r DRd.e)))))) ?_
 refine RW.k XK 120 3 rfl ?_
 (conv=>whnf);intro b3;(conv=>whnf);refine ⟨rfl,?_⟩
 refine RW.nil ?_
 refine CW.keep 120 [1,3,5,6] rfl ?_;(conv=>whnf);refine ⟨?_⟩
 refine CW.seq ?_
 refine CW.seqJ 120 (fun (v4 : Bool) => [(1, I n), (3, .rp (Keep.c k)), (5, .rp (Command.c x)), (6, .obj b3 [.r (.v (.slice none 0 0)), .r (.v (.slice none 0 0))]), (32, Bo v4)]) (fun v4 => v4 = ((((!(keepOk k)) || (!(inR n 1 1000000))) || decide (n > 400000)) || (!(cmdOk x)))) ?_ ?_
 ·refine CW.region ?_
  refine RW.k XK 120 1 rfl ?_
  (conv=>whnf);refine ⟨rfl,?_⟩
  refine RW.call rfl (spec_KeepOk_fn k hok) rfl (.cons (.agg (.cons (.r .r) (.cons (.r .r) (.nil)))) (.nil)) fun g5 => ?_
  refine RW.k XK 120 2 rfl ?_
  (conv=>whnf);refine ⟨rfl,?_⟩
  refine RW.gv rfl rfl rfl rfl (fun h6 => V.mv (d := I n) rfl rfl) (fun h6 => ?_) (fun h6 => ?_)
  ·skip
   refine RW.gcall rfl rfl rfl rfl (spec_l01In_fn n 1 1000000) rfl (.cons (.one (.r .r)) (.cons (.one (.r .r)) (.cons (.one (.r .r)) (.nil)))) fun g7 => ?_
   refine RW.k XK 120 3 rfl ?_
   (conv=>whnf);refine ⟨rfl,?_⟩
   refine RW.gv rfl rfl rfl rfl (fun h8 => V.mv (d := I n) rfl rfl) (fun h8 => ?_) (fun h8 => ?_)
   ·skip
    refine RW.k XK 120 3 rfl ?_
    (conv=>whnf);refine ⟨rfl,?_⟩
    refine RW.gv rfl rfl rfl rfl (fun h9 => V.loadAggR rfl rfl rfl rfl (Nat.le_of_ble_eq_true rfl)) (fun h9 => ?_) (fun h9 => ?_)
    ·skip
     refine RW.gcall rfl rfl rfl rfl (spec_CommandOk_fn x) rfl (.cons (.agg (.cons (.r .r) (.cons (.r .r) (.cons (.r .r) (.cons (.r .r) (.cons (.r .r) (.cons (.r .r) (.nil)))))))) (.nil)) fun g10 => ?_
     refine RW.k XK 120 2 rfl ?_
     (conv=>whnf);refine ⟨rfl,?_⟩
     refine RW.nil ?_
     exact ⟨_, by first | rfl | (simp_all; done) | (simp_all; omega) | grind, rfl, Le.of rfl⟩
    ·skip
     refine RW.k XK 120 3 rfl ?_
     (conv=>whnf);refine ⟨rfl,?_⟩
     refine RW.nil ?_
     exact ⟨_, by first | rfl | (simp_all; done) | (simp_all; omega) | grind, rfl, Le.of rfl⟩
   ·skip
    refine RW.k XK 120 7 rfl ?_
    (conv=>whnf);refine ⟨rfl,?_⟩
    refine RW.nil ?_
    exact ⟨_, by first | rfl | (simp_all; done) | (simp_all; omega) | grind, rfl, Le.of rfl⟩
  ·skip
   refine RW.k XK 120 12 rfl ?_
   (conv=>whnf);refine ⟨rfl,?_⟩
   refine RW.nil ?_
   exact ⟨_, by first | rfl | (simp_all; done) | (simp_all; omega) | grind, rfl, Le.of rfl⟩
 ·intro v4 hv11
  refine CW.cond rfl (fun h12 => ?_) (fun h12 => ?_)
  ·skip
   refine CW.k XK 120 1 [6,7,8] rfl ?_
   (conv=>whnf);refine ⟨rfl,?_⟩
   refine CW.ret ?_
   exact Post.tup (by decide) (RVs.c (RV.c (f := fun e => (Keep.c e).map .w) (e' := (⟨[], []⟩ : Keep)) rfl rfl rfl rfl (DT.n (DT.n DT.e)) (by rw [perf_no (k := k) (n := n) (x := x) (by rw [hv11, pfS] at h12; simpa using h12)] <;> rfl)) (RVs.c (RV.s rfl (by rw [perf_no (k := k) (n := n) (x := x) (by rw [hv11, pfS] at h12; simpa using h12)] <;> rfl)) (RVs.c (RV.b rfl (by rw [perf_no (k := k) (n := n) (x := x) (by rw [hv11, pfS] at h12; simpa using h12)] <;> rfl)) RVs.e))) (AOs.a rfl (AOs.r (AOs.a rfl AOs.e)))
  ·skip
   have hpf : PfOk k n x := PfOk.of (by rw [hv11, pfS] at h12; simpa using h12)
   refine CW.skip ?_
   refine CW.keep 120 [1,3,5,6] rfl ?_;(conv=>whnf);refine ⟨?_⟩
   refine CW.seq ?_
   refine CW.k XK 120 1 [1,3,5,6,36] rfl ?_
   (conv=>whnf);refine ⟨rfl,?_⟩
   refine CW.cond rfl (fun h13 => ?_) (fun h13 => ?_)
   ·skip
    refine CW.seq ?_
    refine CW.region ?_
    refine RW.k XK 120 2 rfl ?_
    (conv=>whnf);refine ⟨rfl,?_⟩
    refine RW.call rfl (spec_l15Open_fn k n hok hpf.k hpf.n) rfl (.cons (.agg (.cons (.r .r) (.cons (.r .r) (.nil)))) (.cons (.one (.r .r)) (.nil))) fun g14 => ?_
    refine RW.k XK 120 5 rfl ?_
    (conv=>whnf);intro b15;(conv=>whnf);refine ⟨rfl,?_⟩
    refine RW.keep 120 [6,9,41,42] rfl ?_;(conv=>whnf);refine ⟨?_⟩
    refine RW.pullA (k := 9) (l := 41) (j := 0) 9 41 0 rfl rfl rfl (by decide) rfl rfl rfl rfl ?_
    refine RW.keep 120 [6,9,41,42] rfl ?_;(conv=>whnf);refine ⟨?_⟩
    refine RW.pullA (k := 9) (l := 41) (j := 1) 9 41 1 rfl rfl rfl (by decide) rfl rfl rfl rfl ?_
    refine RW.keep 120 [6,9,42] rfl ?_;(conv=>whnf);refine ⟨?_⟩
    refine RW.k XK 120 1 rfl ?_
    (conv=>whnf);refine ⟨rfl,?_⟩
    refine RW.nil ?_
    refine CW.keep 120 [6,9,10] rfl ?_;(conv=>whnf);refine ⟨?_⟩
    refine CW.seq ?_
    refine CW.region ?_
    refine RW.k XK 120 3 rfl ?_
    (conv=>whnf);refine ⟨rfl,?_⟩
    refine RW.keep 120 [6,9,44] rfl ?_;(conv=>whnf);refine ⟨?_⟩
    refine RW.pullO (k := 6) (l := 9) (j := 0) 6 9 0 rfl rfl rfl (by decide) rfl rfl rfl rfl ?_
    refine RW.keep 120 [6,9,44] rfl ?_;(conv=>whnf);refine ⟨?_⟩
    refine RW.pullO (k := 6) (l := 9) (j := 1) 6 9 1 rfl rfl rfl (by decide) rfl rfl rfl rfl ?_
    refine RW.keep 120 [6,44] rfl ?_;(conv=>whnf);refine ⟨?_⟩
    refine RW.k XK 120 2 rfl ?_
    (conv=>whnf);refine ⟨rfl,?_⟩
    refine RW.nil ?_
    refine CW.keep 120 [6,7,8] rfl ?_;(conv=>whnf);refine ⟨?_⟩
    refine CW.ret ?_
    exact Post.tup (by decide) (RVs.c (RV.c (f := fun e => (Keep.c e).map .w) (e' := (openK k n)) rfl rfl rfl rfl (DT.w (DT.w DT.e)) (by rw [perf_open hpf h13] <;> rfl)) (RVs.c (RV.s rfl (by rw [perf_open hpf h13] <;> rfl)) (RVs.c (RV.b rfl (by rw [perf_open hpf h13] <;> rfl)) RVs.e))) (AOs.a rfl (AOs.r (AOs.a rfl AOs.e)))
   ·skip
    refine CW.skip ?_
    refine CW.keep 120 [1,3,5,6] rfl ?_;(conv=>whnf);refine ⟨?_⟩
    refine CW.k XK 120 1 [1,3,5,6,11] rfl ?_
    (conv=>whnf);refine ⟨rfl,?_⟩
    refine CW.seq ?_
    refine CW.k XK 120 1 [1,3,5,6,11,12] rfl ?_
    (conv=>whnf);refine ⟨rfl,?_⟩
    refine CW.block ?_
    refine CW.loopI 120 (fun (zz : Nat × Int) => match zz with | (i, a) => [(1, I n), (3, .rp (Keep.c k)), (5, .rp (Command.c x)), (6, .obj b3 [.r (.v (.slice none 0 0)), .r (.v (.slice none 0 0))]), (11, I a), (12, I (i : Int))]) (fun (zz : Nat × Int) => match zz with | (i, a) => SP k x i a) (fun (zz : Nat × Int) => match zz with | (i, a) => k.sessions.length - i) (0, _) rfl (Le.c rfl <| Le.c rfl <| Le.c rfl <| Le.c rfl <| Le.c rfl <| Le.c rfl <| Le.e) (SP.init _ _) ?_
    rintro ⟨i, a⟩ hP
    have hPe := hP.le
    refine CW.seq ?_
    refine CW.k XK 120 1 [1,3,5,6,11,12,49] rfl ?_
    (conv=>whnf);refine ⟨rfl,?_⟩
    refine CW.cond rfl (fun h16 => ?_) (fun h16 => ?_)
    ·skip
     have hii : i < k.sessions.length := by have := h16; simp at this; first | exact this | omega | (simp; done) | (simp; omega)
     obtain ⟨ei, hei⟩ : ∃ e, k.sessions[i]? = some e := ⟨_, List.getElem?_eq_getElem hii⟩
     have hdi := drop_get hei
     refine CW.skip ?_
     refine CW.keep 120 [1,3,5,6,11,12] rfl ?_;(conv=>whnf);refine ⟨?_⟩
     refine CW.seq ?_
     refine CW.block ?_
     refine CW.seq ?_
     refine CW.drawn (by kernel_rfl) ?_
     refine RQ.k XK 120 3 rfl ?_
     (conv=>whnf);refine ⟨rfl,?_⟩
     refine RQ.v rfl (V.indexS rfl rfl rfl rfl rfl rfl Session.len hei) ?_
     refine RQ.k XK 120 5 rfl ?_
     (conv=>whnf);refine ⟨rfl,?_⟩
     refine RQ.nil ?_
     refine CW.keep 120 [1,3,5,6,11,12,60] rfl ?_;(conv=>whnf);refine ⟨?_⟩
     refine CW.cond rfl (fun h17 => ?_) (fun h17 => ?_)
     ·skip
      refine CW.region ?_
      refine RW.k XK 120 2 rfl ?_
      (conv=>whnf);refine ⟨rfl,?_⟩
      refine RW.nil ?_
      refine CW.keep 120 [1,3,5,6,11,12] rfl ?_;(conv=>whnf);refine ⟨?_⟩
      refine CW.region ?_
      refine RW.k XK 120 1 rfl ?_
      (conv=>whnf);refine ⟨rfl,?_⟩
      refine RW.v rfl (V.inc rfl rfl rfl hii hl1) ?_
      refine RW.k XK 120 1 rfl ?_
      (conv=>whnf);refine ⟨rfl,?_⟩
      refine RW.nil ?_
      exact ⟨(i + 1, (i : Int)), by simp only []; omega, (by first | exact hP.hit hpf.k hei (by assumption) | exact hP.miss hei (by assumption)), rfl, Le.c rfl <| Le.c rfl <| Le.c rfl <| Le.c rfl <| Le.c rfl <| Le.c rfl <| Le.e⟩
     ·skip
      refine CW.skip ?_
      refine CW.keep 120 [1,3,5,6,11,12] rfl ?_;(conv=>whnf);refine ⟨?_⟩
      refine CW.region ?_
      refine RW.k XK 120 1 rfl ?_
      (conv=>whnf);refine ⟨rfl,?_⟩
      refine RW.v rfl (V.inc rfl rfl rfl hii hl1) ?_
      refine RW.k XK 120 1 rfl ?_
      (conv=>whnf);refine ⟨rfl,?_⟩
      refine RW.nil ?_
      exact ⟨(i + 1, a), by simp only []; omega, (by first | exact hP.hit hpf.k hei (by assumption) | exact hP.miss hei (by assumption)), rfl, Le.c rfl <| Le.c rfl <| Le.c rfl <| Le.c rfl <| Le.c rfl <| Le.c rfl <| Le.e⟩
    ·skip
     have hii : k.sessions.length ≤ i := by have := h16; simp at this; first | exact this | omega | (simp; done) | (simp; omega)
     have hdi : k.sessions.drop i = [] := List.drop_eq_nil_of_le hii
     refine CW.exit ?_
     refine CW.keep 120 [1,3,5,6,11] rfl ?_;(conv=>whnf);refine ⟨?_⟩
     refine CW.seq ?_
     refine CW.k XK 120 1 [1,3,5,6,11,63] rfl ?_
     (conv=>whnf);refine ⟨rfl,?_⟩
     refine CW.cond rfl (fun h18 => ?_) (fun h18 => ?_)
     ·skip
      have hno := hP.none h18
      refine CW.seq ?_
      refine CW.region ?_
      refine RW.k XK 120 1 rfl ?_
      (conv=>whnf);refine ⟨rfl,?_⟩
      refine RW.call rfl (spec_l15Copy_fn k hok) rfl (.cons (.agg (.cons (.r .r) (.cons (.r .r) (.nil)))) (.nil)) fun g19 => ?_
      refine RW.k XK 120 1 rfl ?_
      (conv=>whnf);refine ⟨rfl,?_⟩
      refine RW.keep 120 [6,65] rfl ?_;(conv=>whnf);refine ⟨?_⟩
      refine RW.pullA (k := 6) (l := 65) (j := 0) 6 65 0 rfl rfl rfl (by decide) rfl rfl rfl rfl ?_
      refine RW.keep 120 [6,65] rfl ?_;(conv=>whnf);refine ⟨?_⟩
      refine RW.pullA (k := 6) (l := 65) (j := 1) 6 65 1 rfl rfl rfl (by decide) rfl rfl rfl rfl ?_
      refine RW.keep 120 [6] rfl ?_;(conv=>whnf);refine ⟨?_⟩
      refine RW.k XK 120 2 rfl ?_
      (conv=>whnf);refine ⟨rfl,?_⟩
      refine RW.nil ?_
      refine CW.keep 120 [6,7,8] rfl ?_;(conv=>whnf);refine ⟨?_⟩
      refine CW.ret ?_
      exact Post.tup (by decide) (RVs.c (RV.c (f := fun e => (Keep.c e).map .w) (e' := k) rfl rfl rfl rfl (DT.w (DT.w DT.e)) (by rw [perf_none hpf h13 hno hii] <;> rfl)) (RVs.c (RV.s rfl (by rw [perf_none hpf h13 hno hii] <;> rfl)) (RVs.c (RV.b rfl (by rw [perf_none hpf h13 hno hii] <;> rfl)) RVs.e))) (AOs.a rfl (AOs.r (AOs.a rfl AOs.e)))
     ·skip
      obtain ⟨m, es, rfl, hat⟩ := hP.some h18
      refine CW.skip ?_
      refine CW.keep 120 [1,3,5,6,11] rfl ?_;(conv=>whnf);refine ⟨?_⟩
      refine CW.seq ?_
      refine CW.region ?_
      refine RW.k XK 120 3 rfl ?_
      (conv=>whnf);refine ⟨rfl,?_⟩
      refine RW.v rfl (V.indexS rfl rfl rfl rfl rfl rfl Session.len hat.fs) ?_
      refine RW.k XK 120 3 rfl ?_
      (conv=>whnf);intro b20;(conv=>whnf);refine ⟨rfl,?_⟩
      refine RW.freezeB (ts := (Session.c es)) 13 rfl (DRd.r (DRd.r (DRd.r DRd.e))) ?_
      refine RW.nil ?_
      refine CW.keep 120 [1,3,5,6,11,13] rfl ?_;(conv=>whnf);refine ⟨?_⟩
      refine CW.seq ?_
      refine CW.seqJ 120 (fun (v21 : Bool) => [(1, I n), (3, .rp (Keep.c k)), (5, .rp (Command.c x)), (6, .obj b3 [.r (.v (.slice none 0 0)), .r (.v (.slice none 0 0))]), (11, I (m : Int)), (13, .rp (Session.c es)), (80, Bo v21)]) (fun v21 => v21 = ((x.seq == 0) || decide (x.seq < es.last))) ?_ ?_
      ·refine CW.region ?_
       refine RW.k XK 120 4 rfl ?_
       (conv=>whnf);refine ⟨rfl,?_⟩
       refine RW.gv rfl rfl rfl rfl (fun h22 => V.fieldR rfl rfl rfl rfl (by decide) rfl (Nat.le_of_ble_eq_true rfl)) (fun h22 => ?_) (fun h22 => ?_)
       ·skip
        refine RW.k XK 120 5 rfl ?_
        (conv=>whnf);refine ⟨rfl,?_⟩
        refine RW.nil ?_
        exact ⟨_, by first | rfl | (simp_all; done) | (simp_all; omega) | grind, rfl, Le.of rfl⟩
       ·skip
        refine RW.k XK 120 5 rfl ?_
        (conv=>whnf);refine ⟨rfl,?_⟩
        refine RW.nil ?_
        exact ⟨_, by first | rfl | (simp_all; done) | (simp_all; omega) | grind, rfl, Le.of rfl⟩
      ·intro v21 hv23
       refine CW.cond rfl (fun h24 => ?_) (fun h24 => ?_)
       ·skip
        refine CW.seq ?_
        refine CW.region ?_
        refine RW.k XK 120 1 rfl ?_
        (conv=>whnf);refine ⟨rfl,?_⟩
        refine RW.call rfl (spec_l15Copy_fn k hok) rfl (.cons (.agg (.cons (.r .r) (.cons (.r .r) (.nil)))) (.nil)) fun g25 => ?_
        refine RW.k XK 120 1 rfl ?_
        (conv=>whnf);refine ⟨rfl,?_⟩
        refine RW.keep 120 [6,82] rfl ?_;(conv=>whnf);refine ⟨?_⟩
        refine RW.pullA (k := 6) (l := 82) (j := 0) 6 82 0 rfl rfl rfl (by decide) rfl rfl rfl rfl ?_
        refine RW.keep 120 [6,82] rfl ?_;(conv=>whnf);refine ⟨?_⟩
        refine RW.pullA (k := 6) (l := 82) (j := 1) 6 82 1 rfl rfl rfl (by decide) rfl rfl rfl rfl ?_
        refine RW.keep 120 [6] rfl ?_;(conv=>whnf);refine ⟨?_⟩
        refine RW.k XK 120 2 rfl ?_
        (conv=>whnf);refine ⟨rfl,?_⟩
        refine RW.nil ?_
        refine CW.keep 120 [6,7,8] rfl ?_;(conv=>whnf);refine ⟨?_⟩
        refine CW.ret ?_
        exact Post.tup (by decide) (RVs.c (RV.c (f := fun e => (Keep.c e).map .w) (e' := k) rfl rfl rfl rfl (DT.w (DT.w DT.e)) (by rw [perfS_old hpf h13 hat (hv23.symm.trans h24)] <;> rfl)) (RVs.c (RV.s rfl (by rw [perfS_old hpf h13 hat (hv23.symm.trans h24)] <;> rfl)) (RVs.c (RV.b rfl (by rw [perfS_old hpf h13 hat (hv23.symm.trans h24)] <;> rfl)) RVs.e))) (AOs.a rfl (AOs.r (AOs.a rfl AOs.e)))
       ·skip
        refine CW.skip ?_
        refine CW.keep 120 [1,3,5,6,11,13] rfl ?_;(conv=>whnf);refine ⟨?_⟩
        refine CW.seq ?_
        refine CW.k XK 120 1 [1,3,5,6,11,13,87] rfl ?_
        (conv=>whnf);refine ⟨rfl,?_⟩
        refine CW.cond rfl (fun h26 => ?_) (fun h26 => ?_)
        ·skip
         refine CW.anyJ2 (fc := []) (L0 := []) 120 (fun (go27_1_1 : (Nat → Nat → Value)) => [(6, .obj b3 [.w (sl 3 Session.c k.sessions) (go27_1_1 0 0), .w (sl 3 Item.c k.items) (go27_1_1 0 1)]), (7, S es.reply), (8, Bo true)]) (fun all hall f hf b0 hb K hK => ?_) ?_
         ·skip
          have ro27_2 : ∀ B, ∀ (go27_1_1 : Nat → Nat → Value), RA f E B all 0 (bt 7 127) ⟨120, [(6, .obj b3 [.w (sl 3 Session.c k.sessions) (go27_1_1 0 0), .w (sl 3 Item.c k.items) (go27_1_1 0 1)]), (7, S es.reply), (8, Bo true)] ++ b0⟩ K := by
           intro B go27_1_1
           exact RA.of2 hall hf hb (RA.finH (Tell.of rfl) (by kernel_rfl) (hK go27_1_1 _ rfl (Le.of rfl)))
          have ro27_1 : ∀ B, ∀ (go27_1_1 : Nat → Nat → Value), RA f E B all 3 (bt 7 15) ⟨120, [(6, .obj b3 [.r (.v (.slice none 0 0)), .r (.v (.slice none 0 0))]), (89, .agg [.w (sl 3 Session.c k.sessions) (go27_1_1 0 0), .w (sl 3 Item.c k.items) (go27_1_1 0 1)]), (91, S es.reply)] ++ b0⟩ K := by
           intro B go27_1_1
           refine RA.of2 hall hf hb (RA.stepH (L := [4]) (Tell.of rfl) (by kernel_rfl) (by simp) (RA.each ?_ (RA.each0)))
           ·skip
            refine RO.storeAgg (es := [.al 89 (some 0) 3 k.sessions.length (go27_1_1 0 0) 0, .al 89 (some 1) 3 k.items.length (go27_1_1 0 1) 0]) rfl rfl rfl rfl rfl rfl rfl rfl rfl rfl (Nat.le_of_ble_eq_true rfl) rfl ?_
            refine RA.keep 120 [6,89,91] rfl ?_;(conv=>whnf);refine ⟨?_⟩
            refine RA.pullA (k := 6) (l := 89) (j := 0) 6 89 0 rfl rfl rfl (by decide) rfl rfl rfl rfl ?_
            refine RA.keep 120 [6,89,91] rfl ?_;(conv=>whnf);refine ⟨?_⟩
            refine RA.pullA (k := 6) (l := 89) (j := 1) 6 89 1 rfl rfl rfl (by decide) rfl rfl rfl rfl ?_
            refine RA.keep 120 [6,91] rfl ?_;(conv=>whnf);refine ⟨?_⟩
            refine RA.fr XK 120 0 [5,6] (bt 7 127) rfl rfl (by kernel_rfl) (Tell.of rfl) ?_
            (conv=>whnf);refine ⟨rfl,fun B=>?_⟩
            exact RA.to2 hall hf hb (ro27_2 B go27_1_1) rfl rfl (by kernel_rfl)
          have ro27_0 : ∀ B, RA f E B all 4 (bt 7 13) ⟨120, [(6, .obj b3 [.r (.v (.slice none 0 0)), .r (.v (.slice none 0 0))]), (88, .agg ((Keep.c k).map .r)), (91, S es.reply)] ++ b0⟩ K := by
           intro B
           refine RA.of2 hall hf hb (RA.stepH (L := [1]) (Tell.of rfl) (by kernel_rfl) (by simp) (RA.each ?_ (RA.each0)))
           ·skip
            refine RO.call rfl rfl (spec_l15Copy_fn k hok) rfl (.cons (.agg (.cons (.r .r) (.cons (.r .r) (.nil)))) (.nil)) rfl fun go27_1_1 => ?_
            exact RA.to2 hall hf hb (ro27_1 B go27_1_1) rfl rfl (by kernel_rfl)
          refine RA.start (by kernel_rfl) (by kernel_rfl) (m := 7) (ls' := (bt 7 0)) ?_
          refine RA.fr XK 120 4 [0,2,3] (bt 7 13) rfl rfl (by kernel_rfl) (Tell.of rfl) ?_
          (conv=>whnf);refine ⟨rfl,fun B=>?_⟩
          exact RA.to2 hall hf hb (ro27_0 B) rfl rfl (by kernel_rfl)
         ·rintro go27_1_1
          refine CW.ret ?_
          exact Post.tup (by decide) (RVs.c (RV.c (f := fun e => (Keep.c e).map .w) (e' := k) rfl rfl rfl rfl (DT.w (DT.w DT.e)) (by rw [perfS_same hpf h13 hat (hv23.symm.trans h24) h26] <;> rfl)) (RVs.c (RV.s rfl (by rw [perfS_same hpf h13 hat (hv23.symm.trans h24) h26] <;> rfl)) (RVs.c (RV.b rfl (by rw [perfS_same hpf h13 hat (hv23.symm.trans h24) h26] <;> rfl)) RVs.e))) (AOs.a rfl (AOs.r (AOs.a rfl AOs.e)))
        ·skip
         refine CW.skip ?_
         refine CW.keep 120 [1,3,5,6,11,13] rfl ?_;(conv=>whnf);refine ⟨?_⟩
         refine CW.seq ?_
         refine CW.k XK 120 1 [1,3,5,6,11,97] rfl ?_
         (conv=>whnf);refine ⟨rfl,?_⟩
         refine CW.cond rfl (fun h28 => ?_) (fun h28 => ?_)
         ·skip
          refine CW.seq ?_
          refine CW.region ?_
          refine RW.k XK 120 1 rfl ?_
          (conv=>whnf);refine ⟨rfl,?_⟩
          refine RW.call rfl (spec_l15Copy_fn k hok) rfl (.cons (.agg (.cons (.r .r) (.cons (.r .r) (.nil)))) (.nil)) fun g29 => ?_
          refine RW.k XK 120 1 rfl ?_
          (conv=>whnf);refine ⟨rfl,?_⟩
          refine RW.keep 120 [6,99] rfl ?_;(conv=>whnf);refine ⟨?_⟩
          refine RW.pullA (k := 6) (l := 99) (j := 0) 6 99 0 rfl rfl rfl (by decide) rfl rfl rfl rfl ?_
          refine RW.keep 120 [6,99] rfl ?_;(conv=>whnf);refine ⟨?_⟩
          refine RW.pullA (k := 6) (l := 99) (j := 1) 6 99 1 rfl rfl rfl (by decide) rfl rfl rfl rfl ?_
          refine RW.keep 120 [6] rfl ?_;(conv=>whnf);refine ⟨?_⟩
          refine RW.k XK 120 2 rfl ?_
          (conv=>whnf);refine ⟨rfl,?_⟩
          refine RW.nil ?_
          refine CW.keep 120 [6,7,8] rfl ?_;(conv=>whnf);refine ⟨?_⟩
          refine CW.ret ?_
          exact Post.tup (by decide) (RVs.c (RV.c (f := fun e => (Keep.c e).map .w) (e' := k) rfl rfl rfl rfl (DT.w (DT.w DT.e)) (by rw [perfS_gap hpf h13 hat h28] <;> rfl)) (RVs.c (RV.s rfl (by rw [perfS_gap hpf h13 hat h28] <;> rfl)) (RVs.c (RV.b rfl (by rw [perfS_gap hpf h13 hat h28] <;> rfl)) RVs.e))) (AOs.a rfl (AOs.r (AOs.a rfl AOs.e)))
         ·skip
          refine CW.skip ?_
          refine CW.keep 120 [1,3,5,6,11] rfl ?_;(conv=>whnf);refine ⟨?_⟩
          refine CW.seq ?_
          refine CW.region ?_
          refine RW.k XK 120 1 rfl ?_
          (conv=>whnf);refine ⟨rfl,?_⟩
          refine RW.call rfl (spec_l15Copy_fn k hok) rfl (.cons (.agg (.cons (.r .r) (.cons (.r .r) (.nil)))) (.nil)) fun g30 => ?_
          refine RW.k XK 120 2 rfl ?_
          (conv=>whnf);intro b31;(conv=>whnf);refine ⟨rfl,?_⟩
          refine RW.keep 120 [1,5,6,11,14,101] rfl ?_;(conv=>whnf);refine ⟨?_⟩
          refine RW.pullA (k := 14) (l := 101) (j := 0) 14 101 0 rfl rfl rfl (by decide) rfl rfl rfl rfl ?_
          refine RW.keep 120 [1,5,6,11,14,101] rfl ?_;(conv=>whnf);refine ⟨?_⟩
          refine RW.pullA (k := 14) (l := 101) (j := 1) 14 101 1 rfl rfl rfl (by decide) rfl rfl rfl rfl ?_
          refine RW.keep 120 [1,5,6,11,14] rfl ?_;(conv=>whnf);refine ⟨?_⟩
          refine RW.nil ?_
          refine CW.keep 120 [1,5,6,11,14] rfl ?_;(conv=>whnf);refine ⟨?_⟩
          refine CW.seq ?_
          refine CW.region ?_
          refine RW.k XK 120 2 rfl ?_
          (conv=>whnf);refine ⟨rfl,?_⟩
          refine RW.callW (k := 14) (spec_l15Do_fn k n x hok hpf.k hpf.n) rfl rfl (Nat.le_of_ble_eq_true rfl) (by decide) (.here (AsW.ob (DT.w (DT.w DT.e)) rfl) (.cons (.one (.r .r)) (.cons (.agg (.cons (.r .r) (.cons (.r .r) (.cons (.r .r) (.cons (.r .r) (.cons (.r .r) (.cons (.r .r) (.nil)))))))) (.nil)))) rfl fun g32 q33 => ?_
          refine RW.k XK 120 1 rfl ?_
          (conv=>whnf);refine ⟨rfl,?_⟩
          refine RW.nil ?_
          refine CW.keep 120 [5,6,11,14,15] rfl ?_;(conv=>whnf);refine ⟨?_⟩
          refine CW.seq ?_
          refine CW.region ?_
          refine RW.k XK 120 5 rfl ?_
          (conv=>whnf);refine ⟨rfl,?_⟩
          refine RW.swapO 106 14 0 (by decide) rfl rfl rfl ?_
          refine RW.v rfl (V.indexW rfl rfl rfl rfl rfl rfl rfl (by have hm := (List.getElem?_eq_some_iff.1 hat.fs).1; first | exact hm | (rw [do_sess]; exact hm) | (rw [List.length_set]; exact hm) | (rw [List.length_set, do_sess]; exact hm))) ?_
          refine RW.k XK 120 1 rfl ?_
          (conv=>whnf);refine ⟨rfl,?_⟩
          refine RW.storeF (m := m) (off := 1) (v := es) (v' := (⟨es.token, x.seq, es.reply⟩ : Session)) (u := .v (.int .i64 x.seq)) (c := Session.c) rfl rfl rfl rfl rfl rfl rfl (.inl rfl) Session.len (by first | exact hat.fs | (rw [do_sess]; exact hat.fs)) (by decide) rfl rfl ?_
          refine RW.pullN (k := 14) (l := 106) (j := 0) 14 106 0 rfl rfl rfl (by decide) rfl rfl rfl (by simp) ?_
          refine RW.nil ?_
          refine CW.keep 120 [6,11,14,15] rfl ?_;(conv=>whnf);refine ⟨?_⟩
          refine CW.seq ?_
          refine CW.region ?_
          refine RW.k XK 120 4 rfl ?_
          (conv=>whnf);refine ⟨rfl,?_⟩
          refine RW.swapO 113 14 0 (by decide) rfl rfl rfl ?_
          refine RW.v rfl (V.indexW rfl rfl rfl rfl rfl rfl rfl (by have hm := (List.getElem?_eq_some_iff.1 hat.fs).1; first | exact hm | (rw [do_sess]; exact hm) | (rw [List.length_set]; exact hm) | (rw [List.length_set, do_sess]; exact hm))) ?_
          refine RW.k XK 120 1 rfl ?_
          (conv=>whnf);refine ⟨rfl,?_⟩
          refine RW.storeF (m := m) (off := 2) (v := (⟨es.token, x.seq, es.reply⟩ : Session)) (v' := (⟨(⟨es.token, x.seq, es.reply⟩ : Session).token, (⟨es.token, x.seq, es.reply⟩ : Session).last, ((doK k n x).2)⟩ : Session)) (u := .v (.string ((doK k n x).2))) (c := Session.c) rfl rfl rfl rfl rfl rfl rfl (.inl rfl) Session.len (List.getElem?_set_self (by have hm := (List.getElem?_eq_some_iff.1 hat.fs).1; first | exact hm | (rw [do_sess]; exact hm))) (by decide) rfl rfl ?_
          refine RW.pullN (k := 14) (l := 113) (j := 0) 14 113 0 rfl rfl rfl (by decide) rfl rfl rfl (by simp) ?_
          refine RW.nil ?_
          refine CW.keep 120 [6,14,15] rfl ?_;(conv=>whnf);refine ⟨?_⟩
          refine CW.seq ?_
          refine CW.region ?_
          refine RW.k XK 120 3 rfl ?_
          (conv=>whnf);refine ⟨rfl,?_⟩
          refine RW.keep 120 [6,14,119] rfl ?_;(conv=>whnf);refine ⟨?_⟩
          refine RW.pullO (k := 6) (l := 14) (j := 0) 6 14 0 rfl rfl rfl (by decide) rfl rfl rfl rfl ?_
          refine RW.keep 120 [6,14,119] rfl ?_;(conv=>whnf);refine ⟨?_⟩
          refine RW.pullO (k := 6) (l := 14) (j := 1) 6 14 1 rfl rfl rfl (by decide) rfl rfl rfl rfl ?_
          refine RW.keep 120 [6,119] rfl ?_;(conv=>whnf);refine ⟨?_⟩
          refine RW.k XK 120 2 rfl ?_
          (conv=>whnf);refine ⟨rfl,?_⟩
          refine RW.nil ?_
          refine CW.keep 120 [6,7,8] rfl ?_;(conv=>whnf);refine ⟨?_⟩
          refine CW.ret ?_
          exact Post.tup (by decide) (RVs.c (RV.c (f := fun e => (Keep.c e).map .w) (e' := (⟨(((((doK k n x).1).sessions).set m (⟨es.token, x.seq, es.reply⟩ : Session)).set m (⟨(⟨es.token, x.seq, es.reply⟩ : Session).token, (⟨es.token, x.seq, es.reply⟩ : Session).last, ((doK k n x).2)⟩ : Session)), ((doK k n x).1).items⟩ : Keep)) rfl rfl rfl rfl (DT.w (DT.w DT.e)) (by rw [perfS_do hpf h13 hat (hv23.symm.trans h24) h26 h28]; simp [do_sess, List.set_set])) (RVs.c (RV.s rfl (by rw [perfS_do hpf h13 hat (hv23.symm.trans h24) h26 h28] <;> rfl)) (RVs.c (RV.b rfl (by rw [perfS_do hpf h13 hat (hv23.symm.trans h24) h26 h28] <;> rfl)) RVs.e))) (AOs.a rfl (AOs.r (AOs.a rfl AOs.e)))
end Go.Proofs.YtaeagpakloggfaaDoor.Y
