import Derived.Test.YtmhnehgpmndiiaaWMessagesE
namespace Go.Proofs.Ytmhnehgpmndiiaa.Y
open Go Go.RowKit Go.Eng Go.Proofs
set_option maxRecDepth 10000
set_option maxHeartbeats 4000000 in
theorem spec_DrawEncode_fn (code : List Int) : Eng.FnX E.P (α := {m : Message // MD 5 m}) 11 [.one (.r (sl 1 cU code))] (fun y => .one (.agg ((Message.c y.1).map .w))) (fun y => [.one (.r (sl 1 cU code))]) := by
 refine Eng.FnX.intro (E := E) (rvs := [.cell 2 25]) Try.func11 rfl rfl rfl (by intro y; simp [outSlots, moved, rvSlot, sl]) ?_
 intro B g bo
 refine CW.bound (x := .tmp 0) (n := code.length) (AsT.r) (fun hl0 => ?_)
 refine CW.keep 6 [0] rfl ?_;(conv=>whnf);refine ⟨?_⟩
 refine CW.k XK 6 1 [0,2] rfl ?_
 (conv=>whnf);intro b1;(conv=>whnf);refine ⟨rfl,?_⟩
 refine CW.seq ?_
 refine CW.region ?_
 refine RW.k XK 6 1 rfl ?_
 (conv=>whnf);refine ⟨rfl,?_⟩
 refine RW.call rfl (spec_l01New_fn code) rfl (.cons (.one (.r .r)) (.nil)) fun g2 => ?_
 refine RW.callPX (k := 4) (spec_l17Any_fn (cur0 code) (cur0_ok hl0).2) rfl rfl (Nat.le_of_ble_eq_true rfl) (by decide) rfl (DT.r (DT.r (DT.r DT.e))) (AsPs.here (os := []) (outs := []) rfl (.nil)) (fun _ => AsPs.here rfl (.nil)) fun y3 g4 q5 => ?_
 refine RW.k XK 6 1 rfl ?_
 (conv=>whnf);refine ⟨rfl,?_⟩
 refine RW.keep 6 [2,5] rfl ?_;(conv=>whnf);refine ⟨?_⟩
 refine RW.pullA (k := 2) (l := 5) (j := 8) 2 5 8 rfl rfl rfl (by decide) rfl rfl rfl rfl ?_
 refine RW.keep 6 [2,5] rfl ?_;(conv=>whnf);refine ⟨?_⟩
 refine RW.pullA (k := 2) (l := 5) (j := 9) 2 5 9 rfl rfl rfl (by decide) rfl rfl rfl rfl ?_
 refine RW.keep 6 [2] rfl ?_;(conv=>whnf);refine ⟨?_⟩
 refine RW.nil ?_
 refine CW.keep 6 [2] rfl ?_;(conv=>whnf);refine ⟨?_⟩
 refine CW.ret ?_
 refine ⟨⟨y3.v, y3.h⟩, ?_⟩
 exact Post.one (RV.c (f := fun e => (Message.c e).map .w) (e' := y3.v) rfl rfl rfl rfl (DT.v (DT.v (DT.v (DT.v (DT.v (DT.v (DT.v (DT.v (DT.w (DT.w (DT.v (DT.v DT.e)))))))))))) (by rfl)) (AOs.r AOs.e)
set_option maxHeartbeats 4000000 in
theorem spec_l02Spoilt_fn (c : l01Cur) (s : ByteArray) (hc : curOk c) (hs : s.size ≤ 1000) : Eng.FnX E.P (α := Drw (fun s : ByteArray => s.size ≤ 10000)) 53 [.ob ((l01Cur.c c).map .r), .one (.r (.v (.string s)))] (fun y => .one (.one (.w (.v (.string y.v))))) (fun y => [.ob ((l01Cur.c y.d).map .r), .one (.r (.v (.string s)))]) := by
 refine Eng.FnX.intro (E := E) (rvs := [.tmp 4]) Try.func53 rfl rfl rfl (by intro y; simp [outSlots, moved, rvSlot, sl]) ?_
 intro B g bo
 refine CW.keep 45 [0,1] rfl ?_;(conv=>whnf);refine ⟨?_⟩
 refine CW.k XK 45 1 [0,1] rfl ?_
 (conv=>whnf);refine ⟨rfl,?_⟩
 refine CW.seq ?_
 refine CW.seq ?_
 refine CW.region ?_
 refine RW.k XK 45 1 rfl ?_
 (conv=>whnf);refine ⟨rfl,?_⟩
 refine RW.callPX (k := 0) (spec_l01Below_fn_dx c 12 hc) rfl rfl (Nat.le_of_ble_eq_true rfl) (by decide) rfl (DT.r (DT.r (DT.r DT.e))) (AsPs.here (os := []) (outs := []) rfl (.cons (.one (.r .r)) (.nil))) (fun _ => AsPs.here rfl (.cons (.one (.r .r)) (.nil))) fun y1 g2 q3 => ?_
 refine RW.nil ?_
 refine CW.keep 45 [0,1,7] rfl ?_;(conv=>whnf);refine ⟨?_⟩
 refine CW.block ?_
 refine CW.k XK 45 1 [0,1,7,8] rfl ?_
 (conv=>whnf);refine ⟨rfl,?_⟩
 refine CW.cond rfl (fun h4 => ?_) (fun h4 => ?_)
 ·skip
  refine CW.seq ?_
  refine CW.region ?_
  refine RW.k XK 45 2 rfl ?_
  (conv=>whnf);refine ⟨rfl,?_⟩
  refine RW.callPX (k := 0) (spec_l01Text_fn y1.d 1 y1.hd) rfl rfl (Nat.le_of_ble_eq_true rfl) (by decide) rfl (DT.r (DT.r (DT.r DT.e))) (AsPs.here (os := []) (outs := []) rfl (.cons (.one (.r .r)) (.nil))) (fun _ => AsPs.here rfl (.cons (.one (.r .r)) (.nil))) fun y5 g6 q7 => ?_
  refine RW.v rfl (V.cat rfl rfl rfl (by have h9 := y5.h; have e1 := extract_le s; simp only [ByteArray.size_append, maxLen]; first | omega | (have e2 := extract_le s 0 0; exact cat_le hs y5.h) | exact cat_le2 hs y5.h)) ?_
  refine RW.k XK 45 1 rfl ?_
  (conv=>whnf);refine ⟨rfl,?_⟩
  refine RW.nil ?_
  refine CW.keep 45 [0,4] rfl ?_;(conv=>whnf);refine ⟨?_⟩
  refine CW.ret ?_
  refine ⟨⟨(s ++ y5.v), y5.d, (by rw [ByteArray.size_append]; have h9 := y5.h; omega), y5.hd⟩, ?_⟩
  exact Post.one (RV.s rfl (by rfl)) (AOs.obE (f := fun e => (l01Cur.c e).map .r) (e' := y5.d) rfl (DT.r (DT.r (DT.r DT.e))) (by rfl) (AOs.r AOs.e))
 ·skip
  refine CW.k XK 45 1 [0,1,7,14] rfl ?_
  (conv=>whnf);refine ⟨rfl,?_⟩
  refine CW.cond rfl (fun h8 => ?_) (fun h8 => ?_)
  ·skip
   refine CW.seq ?_
   refine CW.region ?_
   refine RW.k XK 45 5 rfl ?_
   (conv=>whnf);refine ⟨rfl,?_⟩
   refine RW.callPX (k := 0) (spec_l01Below_fn_dx y1.d (IntKind.i64.wrap ((s.size : Int) + 1)) y1.hd) rfl rfl (Nat.le_of_ble_eq_true rfl) (by decide) rfl (DT.r (DT.r (DT.r DT.e))) (AsPs.here (os := []) (outs := []) rfl (.cons (.one (.r .r)) (.nil))) (fun _ => AsPs.here rfl (.cons (.one (.r .r)) (.nil))) fun y9 g10 q11 => ?_
   refine RW.v rfl (V.strSlice (l := 0) (h := y9.v) rfl (by kernel_rfl) rfl (.inl ⟨rfl, rfl⟩) (.inr ⟨_, _, rfl, rfl⟩) (by have h9 := y9.h; first | omega | exact sl_le h9 (by omega) (by omega) | (rw [wrap_small (by omega) (by omega)]; omega))) ?_
   refine RW.k XK 45 1 rfl ?_
   (conv=>whnf);refine ⟨rfl,?_⟩
   refine RW.nil ?_
   refine CW.keep 45 [0,4] rfl ?_;(conv=>whnf);refine ⟨?_⟩
   refine CW.ret ?_
   refine ⟨⟨(s.extract (0 : Int).toNat y9.v.toNat), y9.d, (Nat.le_trans (extract_le _ _ _) (by omega)), y9.hd⟩, ?_⟩
   exact Post.one (RV.s rfl (by rfl)) (AOs.obE (f := fun e => (l01Cur.c e).map .r) (e' := y9.d) rfl (DT.r (DT.r (DT.r DT.e))) (by rfl) (AOs.r AOs.e))
  ·skip
   refine CW.seq ?_
   refine CW.k XK 45 1 [0,1,7,23] rfl ?_
   (conv=>whnf);refine ⟨rfl,?_⟩
   refine CW.cond rfl (fun h12 => ?_) (fun h12 => ?_)
   ·skip
    refine CW.le [(0, .obj (bo 0) ((l01Cur.c y1.d).map .r)), (1, S s), (23, Bo true)] rfl (Le.c rfl <| Le.c rfl <| Le.c (congrArg Bo h12) <| Le.e) ?_
    refine CW.skip ?_
    refine CW.keep 45 [0,1,23] rfl ?_;(conv=>whnf);refine ⟨?_⟩
    refine CW.condT rfl ?_
    refine CW.k XK 45 1 [0,1,28] rfl ?_
    (conv=>whnf);refine ⟨rfl,?_⟩
    refine CW.cond rfl (fun h14 => ?_) (fun h14 => ?_)
    ·skip
     have hsp := of_decide_eq_true h14
     refine CW.seq ?_
     refine CW.region ?_
     refine RW.k XK 45 3 rfl ?_
     (conv=>whnf);refine ⟨rfl,?_⟩
     refine RW.callPX (k := 0) (spec_l01Below_fn_dx y1.d (s.size : Int) y1.hd) rfl rfl (Nat.le_of_ble_eq_true rfl) (by decide) rfl (DT.r (DT.r (DT.r DT.e))) (AsPs.here (os := []) (outs := []) rfl (.cons (.one (.r .r)) (.nil))) (fun _ => AsPs.here rfl (.cons (.one (.r .r)) (.nil))) fun y15 g16 q17 => ?_
     refine RW.k XK 45 1 rfl ?_
     (conv=>whnf);refine ⟨rfl,?_⟩
     refine RW.nil ?_
     refine CW.keep 45 [0,1,5] rfl ?_;(conv=>whnf);refine ⟨?_⟩
     refine CW.anyJ2 (fc := []) (L0 := []) 45 (fun (zz : (Nat → Nat → Value) × (Nat → Value) × (Drw (fun s : ByteArray => s.size ≤ 5000))) => match zz with | (go18_4_2, qo18_4_3, yo18_4_1) => [(0, .obj (bo 0) ((l01Cur.c yo18_4_1.d).map .r)), (4, S (((s.extract (0 : Int).toNat y15.v.toNat) ++ yo18_4_1.v) ++ (s.extract (IntKind.i64.wrap (y15.v + 1)).toNat (s.size : Int).toNat)))]) (fun all hall f hf b0 hb K hK => ?_) ?_
     ·skip
      have ro18_1 : ∀ B, ∀ (go18_4_2 : Nat → Nat → Value), ∀ (qo18_4_3 : Nat → Value), ∀ (yo18_4_1 : Drw (fun s : ByteArray => s.size ≤ 5000)), RA f E B all 0 (bt 12 4095) ⟨45, [(0, .obj (bo 0) ((l01Cur.c yo18_4_1.d).map .r)), (4, S (((s.extract (0 : Int).toNat y15.v.toNat) ++ yo18_4_1.v) ++ (s.extract (IntKind.i64.wrap (y15.v + 1)).toNat (s.size : Int).toNat)))] ++ b0⟩ K := by
       intro B go18_4_2 qo18_4_3 yo18_4_1
       exact RA.of2 hall hf hb (RA.finH (Tell.of rfl) (by kernel_rfl) (hK (go18_4_2, qo18_4_3, yo18_4_1) _ rfl (Le.of rfl)))
      have ro18_0 : ∀ B, RA f E B all 4 (bt 12 975) ⟨45, [(0, .obj (bo 0) ((l01Cur.c y15.d).map .r)), (35, S (s.extract (0 : Int).toNat y15.v.toNat)), (36, .pt 0 (bo 0) 0), (42, S (s.extract (IntKind.i64.wrap (y15.v + 1)).toNat (s.size : Int).toNat))] ++ b0⟩ K := by
       intro B
       refine RA.of2 hall hf hb (RA.stepH (L := [4]) (Tell.of rfl) (by kernel_rfl) (by simp) (RA.each ?_ (RA.each0)))
       ·skip
        refine RO.callPX (k := 0) (spec_l01Text_fn y15.d 1 y15.hd) rfl rfl rfl rfl (Nat.le_of_ble_eq_true rfl) (by decide) rfl (DT.r (DT.r (DT.r DT.e))) (AsPs.here (os := []) (outs := []) rfl (.cons (.one (.r .r)) (.nil))) (fun _ => AsPs.here rfl (.cons (.one (.r .r)) (.nil))) fun yo18_4_1 go18_4_2 qo18_4_3 => ?_
        refine RA.first (i := 5) (ls' := (bt 12 1023)) (Tell.of rfl) (by kernel_rfl) rfl rfl rfl (VF.p (V.cat rfl rfl rfl (by have h9 := yo18_4_1.h; have e1 := extract_le s; simp only [ByteArray.size_append, maxLen]; first | omega | (have e2 := extract_le s 0 0; exact cat_le hs yo18_4_1.h) | exact cat_le2 hs yo18_4_1.h))) ?_
        refine RA.first (i := 10) (ls' := (bt 12 2047)) (Tell.of rfl) (by kernel_rfl) rfl rfl rfl (VF.p (V.cat rfl rfl rfl (by have h9 := yo18_4_1.h; have e1 := extract_le s; simp only [ByteArray.size_append, maxLen]; first | omega | (have e2 := extract_le s 0 0; exact cat_le hs yo18_4_1.h) | exact cat_le2 hs yo18_4_1.h))) ?_
        refine RA.fr XK 45 0 [11] (bt 12 4095) rfl rfl (by kernel_rfl) (Tell.of rfl) ?_
        (conv=>whnf);refine ⟨rfl,fun B=>?_⟩
        exact RA.to2 hall hf hb (ro18_1 B go18_4_2 qo18_4_3 yo18_4_1) rfl rfl (by kernel_rfl)
      refine RA.start (by kernel_rfl) (by kernel_rfl) (m := 12) (ls' := (bt 12 0)) ?_
      refine RA.fr XK 45 10 [0,1] (bt 12 3) rfl rfl (by kernel_rfl) (Tell.of rfl) ?_
      (conv=>whnf);refine ⟨rfl,fun B=>?_⟩
      refine RA.first (i := 2) (ls' := (bt 12 7)) (Tell.of rfl) (by kernel_rfl) rfl rfl rfl (VF.p (V.strSlice (l := 0) (h := y15.v) rfl (by kernel_rfl) rfl (.inl ⟨rfl, rfl⟩) (.inr ⟨_, _, rfl, rfl⟩) (by have h9 := y15.h; first | omega | exact sl_le h9 (by omega) (by omega) | (rw [wrap_small (by omega) (by omega)]; omega)))) ?_
      refine RA.fr XK 45 5 [3,6,7,8] (bt 12 463) rfl rfl (by kernel_rfl) (Tell.of rfl) ?_
      (conv=>whnf);refine ⟨rfl,fun B=>?_⟩
      refine RA.first (i := 9) (ls' := (bt 12 975)) (Tell.of rfl) (by kernel_rfl) rfl rfl rfl (VF.p (V.strSlice (l := (IntKind.i64.wrap (y15.v + 1))) (h := (s.size : Int)) rfl (by kernel_rfl) rfl (.inr ⟨_, _, rfl, rfl⟩) (.inl ⟨rfl, rfl⟩) (by have h9 := y15.h; first | omega | exact sl_le h9 (by omega) (by omega) | (rw [wrap_small (by omega) (by omega)]; omega)))) ?_
      exact RA.to2 hall hf hb (ro18_0 B) rfl rfl (by kernel_rfl)
     ·rintro ⟨go18_4_2, qo18_4_3, yo18_4_1⟩
      refine CW.ret ?_
      refine ⟨⟨(((s.extract (0 : Int).toNat y15.v.toNat) ++ yo18_4_1.v) ++ (s.extract (IntKind.i64.wrap (y15.v + 1)).toNat (s.size : Int).toNat)), yo18_4_1.d, (spoilt_le hs yo18_4_1.h), yo18_4_1.hd⟩, ?_⟩
      exact Post.one (RV.s rfl (by rfl)) (AOs.obE (f := fun e => (l01Cur.c e).map .r) (e' := yo18_4_1.d) rfl (DT.r (DT.r (DT.r DT.e))) (by rfl) (AOs.r AOs.e))
    ·skip
     refine CW.skip ?_
     refine CW.keep 45 [0,1] rfl ?_;(conv=>whnf);refine ⟨?_⟩
     refine CW.k XK 45 1 [0,4] rfl ?_
     (conv=>whnf);refine ⟨rfl,?_⟩
     refine CW.ret ?_
     refine ⟨⟨s, y1.d, (by omega), y1.hd⟩, ?_⟩
     exact Post.one (RV.s rfl (by rfl)) (AOs.obE (f := fun e => (l01Cur.c e).map .r) (e' := y1.d) rfl (DT.r (DT.r (DT.r DT.e))) (by rfl) (AOs.r AOs.e))
   ·skip
    refine CW.region ?_
    refine RW.k XK 45 2 rfl ?_
    (conv=>whnf);refine ⟨rfl,?_⟩
    refine RW.nil ?_
    refine CW.keep 45 [0,1,23] rfl ?_;(conv=>whnf);refine ⟨?_⟩
    refine CW.cond rfl (fun h19 => ?_) (fun h19 => ?_)
    ·skip
     refine CW.k XK 45 1 [0,1,28] rfl ?_
     (conv=>whnf);refine ⟨rfl,?_⟩
     refine CW.cond rfl (fun h20 => ?_) (fun h20 => ?_)
     ·skip
      have hsp := of_decide_eq_true h20
      refine CW.seq ?_
      refine CW.region ?_
      refine RW.k XK 45 3 rfl ?_
      (conv=>whnf);refine ⟨rfl,?_⟩
      refine RW.callPX (k := 0) (spec_l01Below_fn_dx y1.d (s.size : Int) y1.hd) rfl rfl (Nat.le_of_ble_eq_true rfl) (by decide) rfl (DT.r (DT.r (DT.r DT.e))) (AsPs.here (os := []) (outs := []) rfl (.cons (.one (.r .r)) (.nil))) (fun _ => AsPs.here rfl (.cons (.one (.r .r)) (.nil))) fun y21 g22 q23 => ?_
      refine RW.k XK 45 1 rfl ?_
      (conv=>whnf);refine ⟨rfl,?_⟩
      refine RW.nil ?_
      refine CW.keep 45 [0,1,5] rfl ?_;(conv=>whnf);refine ⟨?_⟩
      refine CW.anyJ2 (fc := []) (L0 := []) 45 (fun (zz : (Nat → Nat → Value) × (Nat → Value) × (Drw (fun s : ByteArray => s.size ≤ 5000))) => match zz with | (go24_4_2, qo24_4_3, yo24_4_1) => [(0, .obj (bo 0) ((l01Cur.c yo24_4_1.d).map .r)), (4, S (((s.extract (0 : Int).toNat y21.v.toNat) ++ yo24_4_1.v) ++ (s.extract (IntKind.i64.wrap (y21.v + 1)).toNat (s.size : Int).toNat)))]) (fun all hall f hf b0 hb K hK => ?_) ?_
      ·skip
       have ro24_1 : ∀ B, ∀ (go24_4_2 : Nat → Nat → Value), ∀ (qo24_4_3 : Nat → Value), ∀ (yo24_4_1 : Drw (fun s : ByteArray => s.size ≤ 5000)), RA f E B all 0 (bt 12 4095) ⟨45, [(0, .obj (bo 0) ((l01Cur.c yo24_4_1.d).map .r)), (4, S (((s.extract (0 : Int).toNat y21.v.toNat) ++ yo24_4_1.v) ++ (s.extract (IntKind.i64.wrap (y21.v + 1)).toNat (s.size : Int).toNat)))] ++ b0⟩ K := by
        intro B go24_4_2 qo24_4_3 yo24_4_1
        exact RA.of2 hall hf hb (RA.finH (Tell.of rfl) (by kernel_rfl) (hK (go24_4_2, qo24_4_3, yo24_4_1) _ rfl (Le.of rfl)))
       have ro24_0 : ∀ B, RA f E B all 4 (bt 12 975) ⟨45, [(0, .obj (bo 0) ((l01Cur.c y21.d).map .r)), (35, S (s.extract (0 : Int).toNat y21.v.toNat)), (36, .pt 0 (bo 0) 0), (42, S (s.extract (IntKind.i64.wrap (y21.v + 1)).toNat (s.size : Int).toNat))] ++ b0⟩ K := by
        intro B
        refine RA.of2 hall hf hb (RA.stepH (L := [4]) (Tell.of rfl) (by kernel_rfl) (by simp) (RA.each ?_ (RA.each0)))
        ·skip
         refine RO.callPX (k := 0) (spec_l01Text_fn y21.d 1 y21.hd) rfl rfl rfl rfl (Nat.le_of_ble_eq_true rfl) (by decide) rfl (DT.r (DT.r (DT.r DT.e))) (AsPs.here (os := []) (outs := []) rfl (.cons (.one (.r .r)) (.nil))) (fun _ => AsPs.here rfl (.cons (.one (.r .r)) (.nil))) fun yo24_4_1 go24_4_2 qo24_4_3 => ?_
         refine RA.first (i := 5) (ls' := (bt 12 1023)) (Tell.of rfl) (by kernel_rfl) rfl rfl rfl (VF.p (V.cat rfl rfl rfl (by have h9 := yo24_4_1.h; have e1 := extract_le s; simp only [ByteArray.size_append, maxLen]; first | omega | (have e2 := extract_le s 0 0; exact cat_le hs yo24_4_1.h) | exact cat_le2 hs yo24_4_1.h))) ?_
         refine RA.first (i := 10) (ls' := (bt 12 2047)) (Tell.of rfl) (by kernel_rfl) rfl rfl rfl (VF.p (V.cat rfl rfl rfl (by have h9 := yo24_4_1.h; have e1 := extract_le s; simp only [ByteArray.size_append, maxLen]; first | omega | (have e2 := extract_le s 0 0; exact cat_le hs yo24_4_1.h) | exact cat_le2 hs yo24_4_1.h))) ?_
         refine RA.fr XK 45 0 [11] (bt 12 4095) rfl rfl (by kernel_rfl) (Tell.of rfl) ?_
         (conv=>whnf);refine ⟨rfl,fun B=>?_⟩
         exact RA.to2 hall hf hb (ro24_1 B go24_4_2 qo24_4_3 yo24_4_1) rfl rfl (by kernel_rfl)
       refine RA.start (by kernel_rfl) (by kernel_rfl) (m := 12) (ls' := (bt 12 0)) ?_
       refine RA.fr XK 45 10 [0,1] (bt 12 3) rfl rfl (by kernel_rfl) (Tell.of rfl) ?_
       (conv=>whnf);refine ⟨rfl,fun B=>?_⟩
       refine RA.first (i := 2) (ls' := (bt 12 7)) (Tell.of rfl) (by kernel_rfl) rfl rfl rfl (VF.p (V.strSlice (l := 0) (h := y21.v) rfl (by kernel_rfl) rfl (.inl ⟨rfl, rfl⟩) (.inr ⟨_, _, rfl, rfl⟩) (by have h9 := y21.h; first | omega | exact sl_le h9 (by omega) (by omega) | (rw [wrap_small (by omega) (by omega)]; omega)))) ?_
       refine RA.fr XK 45 5 [3,6,7,8] (bt 12 463) rfl rfl (by kernel_rfl) (Tell.of rfl) ?_
       (conv=>whnf);refine ⟨rfl,fun B=>?_⟩
       refine RA.first (i := 9) (ls' := (bt 12 975)) (Tell.of rfl) (by kernel_rfl) rfl rfl rfl (VF.p (V.strSlice (l := (IntKind.i64.wrap (y21.v + 1))) (h := (s.size : Int)) rfl (by kernel_rfl) rfl (.inr ⟨_, _, rfl, rfl⟩) (.inl ⟨rfl, rfl⟩) (by have h9 := y21.h; first | omega | exact sl_le h9 (by omega) (by omega) | (rw [wrap_small (by omega) (by omega)]; omega)))) ?_
       exact RA.to2 hall hf hb (ro24_0 B) rfl rfl (by kernel_rfl)
      ·rintro ⟨go24_4_2, qo24_4_3, yo24_4_1⟩
       refine CW.ret ?_
       refine ⟨⟨(((s.extract (0 : Int).toNat y21.v.toNat) ++ yo24_4_1.v) ++ (s.extract (IntKind.i64.wrap (y21.v + 1)).toNat (s.size : Int).toNat)), yo24_4_1.d, (spoilt_le hs yo24_4_1.h), yo24_4_1.hd⟩, ?_⟩
       exact Post.one (RV.s rfl (by rfl)) (AOs.obE (f := fun e => (l01Cur.c e).map .r) (e' := yo24_4_1.d) rfl (DT.r (DT.r (DT.r DT.e))) (by rfl) (AOs.r AOs.e))
     ·skip
      refine CW.skip ?_
      refine CW.keep 45 [0,1] rfl ?_;(conv=>whnf);refine ⟨?_⟩
      refine CW.k XK 45 1 [0,4] rfl ?_
      (conv=>whnf);refine ⟨rfl,?_⟩
      refine CW.ret ?_
      refine ⟨⟨s, y1.d, (by omega), y1.hd⟩, ?_⟩
      exact Post.one (RV.s rfl (by rfl)) (AOs.obE (f := fun e => (l01Cur.c e).map .r) (e' := y1.d) rfl (DT.r (DT.r (DT.r DT.e))) (by rfl) (AOs.r AOs.e))
    ·skip
     refine CW.skip ?_
     refine CW.keep 45 [0,1] rfl ?_;(conv=>whnf);refine ⟨?_⟩
     refine CW.k XK 45 1 [0,4] rfl ?_
     (conv=>whnf);refine ⟨rfl,?_⟩
     refine CW.ret ?_
     refine ⟨⟨s, y1.d, (by omega), y1.hd⟩, ?_⟩
     exact Post.one (RV.s rfl (by rfl)) (AOs.obE (f := fun e => (l01Cur.c e).map .r) (e' := y1.d) rfl (DT.r (DT.r (DT.r DT.e))) (by rfl) (AOs.r AOs.e))
set_option maxHeartbeats 4000000 in
theorem spec_DrawDecode_fn (code : List Int) : Eng.FnX E.P (α := {s : ByteArray // s.size ≤ 10000}) 16 [.one (.r (sl 1 cU code))] (fun y => .one (.one (.w (.v (.string y.1))))) (fun y => [.one (.r (sl 1 cU code))]) := by
 refine Eng.FnX.intro (E := E) (rvs := [.tmp 2]) Try.func16 rfl rfl rfl (by intro y; simp [outSlots, moved, rvSlot, sl]) ?_
 intro B g bo
 refine CW.bound (x := .tmp 0) (n := code.length) (AsT.r) (fun hl0 => ?_)
 refine CW.keep 17 [0] rfl ?_;(conv=>whnf);refine ⟨?_⟩
 refine CW.k XK 17 1 [0] rfl ?_
 (conv=>whnf);refine ⟨rfl,?_⟩
 refine CW.seq ?_
 refine CW.region ?_
 refine RW.k XK 17 1 rfl ?_
 (conv=>whnf);refine ⟨rfl,?_⟩
 refine RW.call rfl (spec_l01New_fn code) rfl (.cons (.one (.r .r)) (.nil)) fun g1 => ?_
 refine RW.k XK 17 1 rfl ?_
 (conv=>whnf);refine ⟨rfl,?_⟩
 refine RW.nil ?_
 refine CW.keep 17 [3,7] rfl ?_;(conv=>whnf);refine ⟨?_⟩
 refine CW.seq ?_
 refine CW.region ?_
 refine RW.k XK 17 1 rfl ?_
 (conv=>whnf);refine ⟨rfl,?_⟩
 refine RW.callPX (k := 7) (spec_l17Any_fn (cur0 code) (cur0_ok hl0).2) rfl rfl (Nat.le_of_ble_eq_true rfl) (by decide) rfl (DT.r (DT.r (DT.r DT.e))) (AsPs.here (os := []) (outs := []) rfl (.nil)) (fun _ => AsPs.here rfl (.nil)) fun y2 g3 q4 => ?_
 refine RW.callOwn rfl (spec_Encode_fn y2.v (MD.to y2.h (by omega))) rfl (.cons (.agg (.cons (.r .r) (.cons (.r .r) (.cons (.r .r) (.cons (.r .r) (.cons (.r .r) (.cons (.r .r) (.cons (.r .r) (.cons (.r .r) (.cons (.r (.ala (k := none) (i := 10) (j := 8) (sz := 3) (V := (g3 0 8)) rfl rfl rfl nofun)) (.cons (.r (.ala (k := none) (i := 10) (j := 9) (sz := 1) (V := (g3 0 9)) rfl rfl rfl nofun)) (.cons (.r .r) (.cons (.r .r) (.nil)))))))))))))) (.nil)) rfl fun g5 => ?_
 refine RW.k XK 17 5 rfl ?_
 (conv=>whnf);refine ⟨rfl,?_⟩
 refine RW.nil ?_
 refine CW.keep 17 [3,4,7] rfl ?_;(conv=>whnf);refine ⟨?_⟩
 refine CW.seq ?_
 refine CW.region ?_
 refine RW.k XK 17 2 rfl ?_
 (conv=>whnf);refine ⟨rfl,?_⟩
 refine RW.callPX (k := 7) (spec_l02Spoilt_fn y2.d ((msgT y2.v).1) y2.hd (msgT_size _)) rfl rfl (Nat.le_of_ble_eq_true rfl) (by decide) rfl (DT.r (DT.r (DT.r DT.e))) (AsPs.here (os := []) (outs := []) rfl (.cons (.one (.r .r)) (.nil))) (fun _ => AsPs.here rfl (.cons (.one (.r .r)) (.nil))) fun y6 g7 q8 => ?_
 refine RW.k XK 17 1 rfl ?_
 (conv=>whnf);refine ⟨rfl,?_⟩
 refine RW.nil ?_
 refine CW.keep 17 [2] rfl ?_;(conv=>whnf);refine ⟨?_⟩
 refine CW.ret ?_
 refine ⟨⟨y6.v, y6.h⟩, ?_⟩
 exact Post.one (RV.s rfl (by rfl)) (AOs.r AOs.e)
set_option maxHeartbeats 4000000 in
theorem impl_VarText_fn (n : Int) : Eng.Fn E.P 71 [.one (.r (.v (.int .i64 n)))] (.tup [.one (.w (.v (.string (if inR n 0 1000000000 then varB n.toNat else ⟨#[]⟩)))), .one (.w (.v (.bool (inR n 0 1000000000))))]) [.one (.r (.v (.int .i64 n)))] := by
 refine Eng.Fn.intro (E := E) (rvs := [.tmp 2, .tmp 3]) Try.func71 rfl rfl rfl (by simp [outSlots, moved, rvSlot, sl]) ?_
 intro B g bo
 refine CW.keep 26 [0] rfl ?_;(conv=>whnf);refine ⟨?_⟩
 refine CW.k XK 26 1 [0] rfl ?_
 (conv=>whnf);refine ⟨rfl,?_⟩
 refine CW.seq ?_
 refine CW.seq ?_
 refine CW.region ?_
 refine RW.k XK 26 1 rfl ?_
 (conv=>whnf);refine ⟨rfl,?_⟩
 refine RW.call rfl (impl_within_fn n 0 1000000000) rfl (.cons (.one (.r .r)) (.cons (.one (.r .r)) (.cons (.one (.r .r)) (.nil)))) fun g1 => ?_
 refine RW.k XK 26 1 rfl ?_
 (conv=>whnf);refine ⟨rfl,?_⟩
 refine RW.nil ?_
 refine CW.keep 26 [0,7] rfl ?_;(conv=>whnf);refine ⟨?_⟩
 refine CW.cond rfl (fun h2 => ?_) (fun h2 => ?_)
 ·skip
  have hno := nT h2
  refine CW.k XK 26 1 [2,3] rfl ?_
  (conv=>whnf);refine ⟨rfl,?_⟩
  refine CW.ret ?_
  exact Post.tup (by decide) (RVs.c (RV.s rfl (by rw [hno]; rfl)) (RVs.c (RV.b rfl (by rw [hno])) RVs.e)) (AOs.r AOs.e)
 ·skip
  have hin : inR n 0 1000000000 = true := nF h2
  refine CW.skip ?_
  refine CW.keep 26 [0] rfl ?_;(conv=>whnf);refine ⟨?_⟩
  refine CW.seq ?_
  refine CW.region ?_
  refine RW.build0 cU rfl rfl rfl rfl rfl fun X3 => ?_
  refine RW.assignMove rfl rfl rfl (by decide) (Nat.le_of_ble_eq_true rfl) (Nat.le_of_ble_eq_true rfl) ?_
  refine RW.nil ?_
  refine CW.keep 26 [0,4] rfl ?_;(conv=>whnf);refine ⟨?_⟩
  refine CW.seq ?_
  refine CW.block ?_
  refine CW.loopI 26 (fun (zz : Int × List Int × Value) => match zz with | (m, l, X) => [(0, I m), (4, .w (sl 1 cU l) X)]) (fun (zz : Int × List Int × Value) => match zz with | (m, l, X) => VbP n m l) (fun (zz : Int × List Int × Value) => match zz with | (m, l, X) => m.toNat) (_, [], _) rfl (Le.c rfl <| Le.c rfl <| Le.e) (VbP.init (by simp [inR] at hin; omega)) ?_
  rintro ⟨m, l, X⟩ hP
  refine CW.seq ?_
  refine CW.k XK 26 1 [0,4,10] rfl ?_
  (conv=>whnf);refine ⟨rfl,?_⟩
  refine CW.cond rfl (fun h4 => ?_) (fun h4 => ?_)
  ·skip
   have hgt := h4
   refine CW.skip ?_
   refine CW.keep 26 [0,4] rfl ?_;(conv=>whnf);refine ⟨?_⟩
   refine CW.block ?_
   refine CW.seq ?_
   refine CW.region ?_
   refine RW.k XK 26 5 rfl ?_
   (conv=>whnf);refine ⟨rfl,?_⟩
   refine RW.build1c (c := cU) (v := (IntKind.u8.wrap (IntKind.i64.wrap ((Int.tmod m 128) + 128)))) (u := .v (.int .u8 (IntKind.u8.wrap (IntKind.i64.wrap ((Int.tmod m 128) + 128))))) rfl rfl rfl rfl rfl rfl (.inl rfl) rfl rfl fun X5 => ?_
   refine RW.appendSR (c := cU) (l1 := l) (l2 := [(IntKind.u8.wrap (IntKind.i64.wrap ((Int.tmod m 128) + 128)))]) rfl rfl rfl rfl rfl rfl rfl rfl (.al (k := none) (i := 16) (sz := 1) (V := X5) rfl rfl nofun) (by decide) (Nat.le_of_ble_eq_true rfl) cU.len (fun _ => rfl) rfl (by have h9 := hP.len; simp only [maxLen, List.length_singleton]; omega) (by have h9 := hP.len; simp only [maxLen, List.length_singleton]; omega) fun X6 => ?_
   refine RW.assignMove rfl rfl rfl (by decide) (Nat.le_of_ble_eq_true rfl) (Nat.le_of_ble_eq_true rfl) ?_
   refine RW.nil ?_
   refine CW.keep 26 [0,4] rfl ?_;(conv=>whnf);refine ⟨?_⟩
   refine CW.region ?_
   refine RW.k XK 26 3 rfl ?_
   (conv=>whnf);refine ⟨rfl,?_⟩
   refine RW.nil ?_
   exact ⟨(_, _, _), (hP.step hgt).2, (hP.step hgt).1, rfl, Le.c rfl <| Le.c rfl <| Le.e⟩
  ·skip
   have hgt := h4
   refine CW.exit ?_
   refine CW.keep 26 [0,4] rfl ?_;(conv=>whnf);refine ⟨?_⟩
   refine CW.seq ?_
   refine CW.region ?_
   refine RW.k XK 26 3 rfl ?_
   (conv=>whnf);refine ⟨rfl,?_⟩
   refine RW.build1c (c := cU) (v := (IntKind.u8.wrap m)) (u := .v (.int .u8 (IntKind.u8.wrap m))) rfl rfl rfl rfl rfl rfl (.inl rfl) rfl rfl fun X7 => ?_
   refine RW.appendSR (c := cU) (l1 := l) (l2 := [(IntKind.u8.wrap m)]) rfl rfl rfl rfl rfl rfl rfl rfl (.al (k := none) (i := 23) (sz := 1) (V := X7) rfl rfl nofun) (by decide) (Nat.le_of_ble_eq_true rfl) cU.len (fun _ => rfl) rfl (by have h9 := hP.len; simp only [maxLen, List.length_singleton]; omega) (by have h9 := hP.len; simp only [maxLen, List.length_singleton]; omega) fun X8 => ?_
   refine RW.v rfl (V.bytesStr (l := (l ++ ([(IntKind.u8.wrap m)]))) rfl rfl rfl (by kernel_rfl) (by kernel_rfl) (.al (k := none) (i := 24) (sz := 1) (V := X8) rfl rfl nofun)) ?_
   refine RW.k XK 26 2 rfl ?_
   (conv=>whnf);refine ⟨rfl,?_⟩
   refine RW.nil ?_
   refine CW.keep 26 [2,3] rfl ?_;(conv=>whnf);refine ⟨?_⟩
   refine CW.ret ?_
   exact Post.tup (by decide) (RVs.c (RV.s rfl (by rw [if_pos hin]; exact hP.fin hgt)) (RVs.c (RV.b rfl (by exact hin.symm)) RVs.e)) (AOs.r AOs.e)
set_option maxHeartbeats 4000000 in
theorem impl_flag_fn (b : Bool) : Eng.Fn E.P 40 [.one (.r (.v (.bool b)))] (.one (.one (.w (.v (.int .i64 (flagI b)))))) [.one (.r (.v (.bool b)))] := by
 refine Eng.Fn.intro (E := E) (rvs := [.tmp 2]) Try.func40 rfl rfl rfl (by simp [outSlots, moved, rvSlot, sl]) ?_
 intro B g bo
 refine CW.keep 4 [0] rfl ?_;(conv=>whnf);refine ⟨?_⟩
 refine CW.k XK 4 1 [0] rfl ?_
 (conv=>whnf);refine ⟨rfl,?_⟩
 refine CW.seq ?_
 refine CW.k XK 4 1 [3] rfl ?_
 (conv=>whnf);refine ⟨rfl,?_⟩
 refine CW.cond rfl (fun h1 => ?_) (fun h1 => ?_)
 ·skip
  refine CW.k XK 4 1 [2] rfl ?_
  (conv=>whnf);refine ⟨rfl,?_⟩
  refine CW.ret ?_
  exact Post.one (RV.i rfl (by simp_all [flagI])) (AOs.r AOs.e)
 ·skip
  refine CW.skip ?_
  refine CW.keep 4 [] rfl ?_;(conv=>whnf);refine ⟨?_⟩
  refine CW.k XK 4 1 [2] rfl ?_
  (conv=>whnf);refine ⟨rfl,?_⟩
  refine CW.ret ?_
  exact Post.one (RV.i rfl (by simp_all [flagI])) (AOs.r AOs.e)
set_option maxHeartbeats 4000000 in
theorem impl_byteTexts_fn (l : List Int) (hm : l.length ≤ 1048576) : Eng.Fn E.P 38 [.one (.r (sl 1 cI l))] (.one (.one (.w (.v (.string (byT l)))))) [.one (.r (sl 1 cI l))] := by
 refine Eng.Fn.intro (E := E) (rvs := [.tmp 2]) Try.func38 rfl rfl rfl (by simp [outSlots, moved, rvSlot, sl]) ?_
 intro B g bo
 refine CW.bound (x := .tmp 0) (n := l.length) (AsT.r) (fun hl0 => ?_)
 refine CW.keep 21 [0] rfl ?_;(conv=>whnf);refine ⟨?_⟩
 refine CW.k XK 21 1 [0] rfl ?_
 (conv=>whnf);refine ⟨rfl,?_⟩
 refine CW.seq ?_
 refine CW.region ?_
 refine RW.build0 cU rfl rfl rfl rfl rfl fun X1 => ?_
 refine RW.assignMove rfl rfl rfl (by decide) (Nat.le_of_ble_eq_true rfl) (Nat.le_of_ble_eq_true rfl) ?_
 refine RW.nil ?_
 refine CW.keep 21 [0,3] rfl ?_;(conv=>whnf);refine ⟨?_⟩
 refine CW.seq ?_
 refine CW.k XK 21 1 [3,7,8,9] rfl ?_
 (conv=>whnf);refine ⟨rfl,?_⟩
 refine CW.block ?_
 refine CW.loopI 21 (fun (zz : Nat × Value) => match zz with | (i, X) => [(3, .w (sl 1 cU ((l.take i).map fun x => IntKind.u8.wrap x)) X), (7, .r (sl 1 cI l)), (8, I (l.length : Int)), (9, I (i : Int))]) (fun (zz : Nat × Value) => match zz with | (i, X) => i ≤ l.length) (fun (zz : Nat × Value) => match zz with | (i, X) => l.length - i) (0, _) rfl (Le.c rfl <| Le.c rfl <| Le.c rfl <| Le.c rfl <| Le.e) (by omega) ?_
 rintro ⟨i, X⟩ hb
 refine CW.k XK 21 1 [3,7,8,9,10] rfl ?_
 (conv=>whnf);refine ⟨rfl,?_⟩
 refine CW.seq ?_
 refine CW.cond rfl (fun h2 => ?_) (fun h2 => ?_)
 ·skip
  have hii : i < l.length := by have := h2; simp at this; first | exact this | omega | (simp; done) | (simp; omega)
  obtain ⟨ei, hei⟩ : ∃ e, l[i]? = some e := ⟨_, List.getElem?_eq_getElem hii⟩
  have hdi := drop_get hei
  refine CW.skip ?_
  refine CW.keep 21 [3,7,8,9] rfl ?_;(conv=>whnf);refine ⟨?_⟩
  refine CW.seq ?_
  refine CW.block ?_
  refine CW.seq ?_
  refine CW.region ?_
  refine RW.v rfl (V.indexS rfl rfl rfl rfl rfl rfl cI.len hei) ?_
  refine RW.k XK 21 2 rfl ?_
  (conv=>whnf);refine ⟨rfl,?_⟩
  refine RW.nil ?_
  refine CW.keep 21 [3,5,7,8,9] rfl ?_;(conv=>whnf);refine ⟨?_⟩
  refine CW.region ?_
  refine RW.k XK 21 3 rfl ?_
  (conv=>whnf);refine ⟨rfl,?_⟩
  refine RW.build1c (c := cU) (v := (IntKind.u8.wrap ei)) (u := .v (.int .u8 (IntKind.u8.wrap ei))) rfl rfl rfl rfl rfl rfl (.inl rfl) rfl rfl fun X3 => ?_
  refine RW.appendSR (c := cU) (l1 := ((l.take i).map fun x => IntKind.u8.wrap x)) (l2 := [(IntKind.u8.wrap ei)]) rfl rfl rfl rfl rfl rfl rfl rfl (.al (k := none) (i := 16) (sz := 1) (V := X3) rfl rfl nofun) (by decide) (Nat.le_of_ble_eq_true rfl) cU.len (fun _ => rfl) rfl (by simp only [maxLen, List.length_map, List.length_take, List.length_singleton]; omega) (by simp only [maxLen, List.length_map, List.length_take, List.length_singleton]; omega) fun X4 => ?_
  refine RW.assignMove rfl rfl rfl (by decide) (Nat.le_of_ble_eq_true rfl) (Nat.le_of_ble_eq_true rfl) ?_
  refine RW.nil ?_
  refine CW.keep 21 [3,7,8,9] rfl ?_;(conv=>whnf);refine ⟨?_⟩
  refine CW.region ?_
  refine RW.v rfl (V.inc rfl rfl rfl hii hl0) ?_
  refine RW.k XK 21 1 rfl ?_
  (conv=>whnf);refine ⟨rfl,?_⟩
  refine RW.nil ?_
  exact ⟨(i + 1, _), by simp only []; omega, (by omega), rfl, Le.c (Dw_congr (by rw [take_snoc hei, List.map_append]; rfl)) <| Le.c rfl <| Le.c rfl <| Le.c rfl <| Le.e⟩
 ·skip
  have hii : l.length ≤ i := by have := h2; simp at this; first | exact this | omega | (simp; done) | (simp; omega)
  have hdi : l.drop i = [] := List.drop_eq_nil_of_le hii
  refine CW.exit ?_
  refine CW.keep 21 [3] rfl ?_;(conv=>whnf);refine ⟨?_⟩
  refine CW.seq ?_
  refine CW.region ?_
  refine RW.k XK 21 1 rfl ?_
  (conv=>whnf);refine ⟨rfl,?_⟩
  refine RW.v rfl (V.bytesStr (l := ((l.take i).map fun x => IntKind.u8.wrap x)) rfl rfl rfl (by kernel_rfl) (by kernel_rfl) (.al (k := none) (i := 3) (sz := 1) (V := X) rfl rfl nofun)) ?_
  refine RW.k XK 21 1 rfl ?_
  (conv=>whnf);refine ⟨rfl,?_⟩
  refine RW.nil ?_
  refine CW.keep 21 [2] rfl ?_;(conv=>whnf);refine ⟨?_⟩
  refine CW.ret ?_
  exact Post.one (RV.s rfl (by rw [List.take_of_length_le hii]; rfl)) (AOs.r AOs.e)
set_option maxHeartbeats 4000000 in
theorem impl_varTexts_fn (l : List Int) (hl : l.length ≤ 10) : Eng.Fn E.P 39 [.one (.r (sl 1 cI l))] (.one (.one (.w (.v (.string (varTs l)))))) [.one (.r (sl 1 cI l))] := by
 refine Eng.Fn.intro (E := E) (rvs := [.tmp 2]) Try.func39 rfl rfl rfl (by simp [outSlots, moved, rvSlot, sl]) ?_
 intro B g bo
 refine CW.bound (x := .tmp 0) (n := l.length) (AsT.r) (fun hl0 => ?_)
 refine CW.keep 24 [0] rfl ?_;(conv=>whnf);refine ⟨?_⟩
 refine CW.k XK 24 2 [0,3] rfl ?_
 (conv=>whnf);refine ⟨rfl,?_⟩
 refine CW.seq ?_
 refine CW.k XK 24 1 [3,8,9,10] rfl ?_
 (conv=>whnf);refine ⟨rfl,?_⟩
 refine CW.block ?_
 refine CW.loopI 24 (fun (zz : Nat × ByteArray) => match zz with | (i, s) => [(3, S s), (8, .r (sl 1 cI l)), (9, I (l.length : Int)), (10, I (i : Int))]) (fun (zz : Nat × ByteArray) => match zz with | (i, s) => i ≤ l.length ∧ s = varTs (l.take i)) (fun (zz : Nat × ByteArray) => match zz with | (i, s) => l.length - i) (0, _) rfl (Le.c rfl <| Le.c rfl <| Le.c rfl <| Le.c rfl <| Le.e) ⟨by omega, rfl⟩ ?_
 rintro ⟨i, s⟩ ⟨hb, hs⟩
 refine CW.k XK 24 1 [3,8,9,10,11] rfl ?_
 (conv=>whnf);refine ⟨rfl,?_⟩
 refine CW.seq ?_
 refine CW.cond rfl (fun h1 => ?_) (fun h1 => ?_)
 ·skip
  have hii : i < l.length := by have := h1; simp at this; first | exact this | omega | (simp; done) | (simp; omega)
  obtain ⟨ei, hei⟩ : ∃ e, l[i]? = some e := ⟨_, List.getElem?_eq_getElem hii⟩
  have hdi := drop_get hei
  refine CW.skip ?_
  refine CW.keep 24 [3,8,9,10] rfl ?_;(conv=>whnf);refine ⟨?_⟩
  refine CW.seq ?_
  refine CW.block ?_
  refine CW.seq ?_
  refine CW.region ?_
  refine RW.v rfl (V.indexS rfl rfl rfl rfl rfl rfl cI.len hei) ?_
  refine RW.k XK 24 2 rfl ?_
  (conv=>whnf);refine ⟨rfl,?_⟩
  refine RW.nil ?_
  refine CW.keep 24 [3,5,8,9,10] rfl ?_;(conv=>whnf);refine ⟨?_⟩
  refine CW.seq ?_
  refine CW.region ?_
  refine RW.k XK 24 1 rfl ?_
  (conv=>whnf);refine ⟨rfl,?_⟩
  refine RW.call rfl (impl_VarText_fn ei) rfl (.cons (.one (.r .r)) (.nil)) fun g2 => ?_
  refine RW.k XK 24 5 rfl ?_
  (conv=>whnf);refine ⟨rfl,?_⟩
  refine RW.nil ?_
  refine CW.keep 24 [3,6,8,9,10] rfl ?_;(conv=>whnf);refine ⟨?_⟩
  refine CW.region ?_
  refine RW.k XK 24 2 rfl ?_
  (conv=>whnf);refine ⟨rfl,?_⟩
  refine RW.v rfl (V.cat rfl rfl rfl (by have h9 := varTs_size (l.take i); rw [← hs] at h9; have h8 := take_len l i; have h7 := vT_size ei; simp only [vT] at h7; simp only [maxLen]; omega)) ?_
  refine RW.k XK 24 1 rfl ?_
  (conv=>whnf);refine ⟨rfl,?_⟩
  refine RW.nil ?_
  refine CW.keep 24 [3,8,9,10] rfl ?_;(conv=>whnf);refine ⟨?_⟩
  refine CW.region ?_
  refine RW.v rfl (V.inc rfl rfl rfl hii hl0) ?_
  refine RW.k XK 24 1 rfl ?_
  (conv=>whnf);refine ⟨rfl,?_⟩
  refine RW.nil ?_
  exact ⟨(i + 1, _), by simp only []; omega, ⟨by omega, by rw [varTs_snoc hei, ← hs]; rfl⟩, rfl, Le.c rfl <| Le.c rfl <| Le.c rfl <| Le.c rfl <| Le.e⟩
 ·skip
  have hii : l.length ≤ i := by have := h1; simp at this; first | exact this | omega | (simp; done) | (simp; omega)
  have hdi : l.drop i = [] := List.drop_eq_nil_of_le hii
  refine CW.exit ?_
  refine CW.keep 24 [3] rfl ?_;(conv=>whnf);refine ⟨?_⟩
  refine CW.k XK 24 1 [2] rfl ?_
  (conv=>whnf);refine ⟨rfl,?_⟩
  refine CW.ret ?_
  exact Post.one (RV.s rfl (by rw [hs, List.take_of_length_le hii])) (AOs.r AOs.e)
set_option maxHeartbeats 4000000 in
theorem impl_ShortText_fn (t : ByteArray) : Eng.Fn E.P 72 [.one (.r (.v (.string t)))] (.tup [.one (.w (.v (.string (shT t)))), .one (.w (.v (.bool (decide ((t.size : Int) ≤ 20000)))))]) [.one (.r (.v (.string t)))] := by
 refine Eng.Fn.intro (E := E) (rvs := [.tmp 2, .tmp 3]) Try.func72 rfl rfl rfl (by simp [outSlots, moved, rvSlot, sl]) ?_
 intro B g bo
 refine CW.keep 18 [0] rfl ?_;(conv=>whnf);refine ⟨?_⟩
 refine CW.k XK 18 1 [0] rfl ?_
 (conv=>whnf);refine ⟨rfl,?_⟩
 refine CW.seq ?_
 refine CW.k XK 18 1 [0,8] rfl ?_
 (conv=>whnf);refine ⟨rfl,?_⟩
 refine CW.cond rfl (fun h1 => ?_) (fun h1 => ?_)
 ·skip
  refine CW.k XK 18 1 [2,3] rfl ?_
  (conv=>whnf);refine ⟨rfl,?_⟩
  refine CW.ret ?_
  exact Post.tup (by decide) (RVs.c (RV.s rfl (by have h8 : ¬ (t.size : Int) ≤ 20000 := (by have h9 := of_decide_eq_true h1; omega); rw [shT, if_neg h8])) (RVs.c (RV.b rfl (by have h9 := of_decide_eq_true h1; simp; omega)) RVs.e)) (AOs.r AOs.e)
 ·skip
  refine CW.skip ?_
  refine CW.keep 18 [0] rfl ?_;(conv=>whnf);refine ⟨?_⟩
  refine CW.seq ?_
  refine CW.region ?_
  refine RW.k XK 18 2 rfl ?_
  (conv=>whnf);refine ⟨rfl,?_⟩
  refine RW.call rfl (impl_VarText_fn (t.size : Int)) rfl (.cons (.one (.r .r)) (.nil)) fun g2 => ?_
  refine RW.k XK 18 5 rfl ?_
  (conv=>whnf);refine ⟨rfl,?_⟩
  refine RW.nil ?_
  refine CW.keep 18 [0,4] rfl ?_;(conv=>whnf);refine ⟨?_⟩
  refine CW.seq ?_
  refine CW.region ?_
  refine RW.k XK 18 2 rfl ?_
  (conv=>whnf);refine ⟨rfl,?_⟩
  refine RW.v rfl (V.cat rfl rfl rfl (by have h9 := of_decide_eq_false h1; have h7 := vT_size t.size; simp only [vT] at h7; simp only [maxLen]; omega)) ?_
  refine RW.k XK 18 2 rfl ?_
  (conv=>whnf);refine ⟨rfl,?_⟩
  refine RW.nil ?_
  refine CW.keep 18 [2,3] rfl ?_;(conv=>whnf);refine ⟨?_⟩
  refine CW.ret ?_
  exact Post.tup (by decide) (RVs.c (RV.s rfl (by have h8 : (t.size : Int) ≤ 20000 := (by have h9 := of_decide_eq_false h1; omega); rw [shT, if_pos h8]; rfl)) (RVs.c (RV.b rfl (by have h9 := of_decide_eq_false h1; simp; omega)) RVs.e)) (AOs.r AOs.e)
set_option maxHeartbeats 4000000 in
theorem impl_shortTexts_fn (l : List ByteArray) (hl : l.length ≤ 10) : Eng.Fn E.P 42 [.one (.r (sl 1 cS l))] (.one (.one (.w (.v (.string (shTs l)))))) [.one (.r (sl 1 cS l))] := by
 refine Eng.Fn.intro (E := E) (rvs := [.tmp 2]) Try.func42 rfl rfl rfl (by simp [outSlots, moved, rvSlot, sl]) ?_
 intro B g bo
 refine CW.bound (x := .tmp 0) (n := l.length) (AsT.r) (fun hl0 => ?_)
 refine CW.keep 24 [0] rfl ?_;(conv=>whnf);refine ⟨?_⟩
 refine CW.k XK 24 2 [0,3] rfl ?_
 (conv=>whnf);refine ⟨rfl,?_⟩
 refine CW.seq ?_
 refine CW.k XK 24 1 [3,8,9,10] rfl ?_
 (conv=>whnf);refine ⟨rfl,?_⟩
 refine CW.block ?_
 refine CW.loopI 24 (fun (zz : Nat × ByteArray) => match zz with | (i, s) => [(3, S s), (8, .r (sl 1 cS l)), (9, I (l.length : Int)), (10, I (i : Int))]) (fun (zz : Nat × ByteArray) => match zz with | (i, s) => i ≤ l.length ∧ s = shTs (l.take i)) (fun (zz : Nat × ByteArray) => match zz with | (i, s) => l.length - i) (0, _) rfl (Le.c rfl <| Le.c rfl <| Le.c rfl <| Le.c rfl <| Le.e) ⟨by omega, rfl⟩ ?_
 rintro ⟨i, s⟩ ⟨hb, hs⟩
 refine CW.k XK 24 1 [3,8,9,10,11] rfl ?_
 (conv=>whnf);refine ⟨rfl,?_⟩
 refine CW.seq ?_
 refine CW.cond rfl (fun h1 => ?_) (fun h1 => ?_)
 ·skip
  have hii : i < l.length := by have := h1; simp at this; first | exact this | omega | (simp; done) | (simp; omega)
  obtain ⟨ei, hei⟩ : ∃ e, l[i]? = some e := ⟨_, List.getElem?_eq_getElem hii⟩
  have hdi := drop_get hei
  refine CW.skip ?_
  refine CW.keep 24 [3,8,9,10] rfl ?_;(conv=>whnf);refine ⟨?_⟩
  refine CW.seq ?_
  refine CW.block ?_
  refine CW.seq ?_
  refine CW.region ?_
  refine RW.v rfl (V.indexS rfl rfl rfl rfl rfl rfl cS.len hei) ?_
  refine RW.k XK 24 2 rfl ?_
  (conv=>whnf);refine ⟨rfl,?_⟩
  refine RW.nil ?_
  refine CW.keep 24 [3,5,8,9,10] rfl ?_;(conv=>whnf);refine ⟨?_⟩
  refine CW.seq ?_
  refine CW.region ?_
  refine RW.k XK 24 1 rfl ?_
  (conv=>whnf);refine ⟨rfl,?_⟩
  refine RW.call rfl (impl_ShortText_fn ei) rfl (.cons (.one (.r .r)) (.nil)) fun g2 => ?_
  refine RW.k XK 24 5 rfl ?_
  (conv=>whnf);refine ⟨rfl,?_⟩
  refine RW.nil ?_
  refine CW.keep 24 [3,6,8,9,10] rfl ?_;(conv=>whnf);refine ⟨?_⟩
  refine CW.region ?_
  refine RW.k XK 24 2 rfl ?_
  (conv=>whnf);refine ⟨rfl,?_⟩
  refine RW.v rfl (V.cat rfl rfl rfl (by have h9 := shTs_size (l.take i); rw [← hs] at h9; have h8 := take_len l i; have h7 := shT_size ei; simp only [maxLen]; omega)) ?_
  refine RW.k XK 24 1 rfl ?_
  (conv=>whnf);refine ⟨rfl,?_⟩
  refine RW.nil ?_
  refine CW.keep 24 [3,8,9,10] rfl ?_;(conv=>whnf);refine ⟨?_⟩
  refine CW.region ?_
  refine RW.v rfl (V.inc rfl rfl rfl hii hl0) ?_
  refine RW.k XK 24 1 rfl ?_
  (conv=>whnf);refine ⟨rfl,?_⟩
  refine RW.nil ?_
  exact ⟨(i + 1, _), by simp only []; omega, ⟨by omega, by rw [shTs_snoc hei, ← hs]⟩, rfl, Le.c rfl <| Le.c rfl <| Le.c rfl <| Le.c rfl <| Le.e⟩
 ·skip
  have hii : l.length ≤ i := by have := h1; simp at this; first | exact this | omega | (simp; done) | (simp; omega)
  have hdi : l.drop i = [] := List.drop_eq_nil_of_le hii
  refine CW.exit ?_
  refine CW.keep 24 [3] rfl ?_;(conv=>whnf);refine ⟨?_⟩
  refine CW.k XK 24 1 [2] rfl ?_
  (conv=>whnf);refine ⟨rfl,?_⟩
  refine CW.ret ?_
  exact Post.one (RV.s rfl (by rw [hs, List.take_of_length_le hii])) (AOs.r AOs.e)
set_option maxHeartbeats 4000000 in
theorem impl_EntryText_fn (i : Int) (e : Entry) (hok : okToEntry e) : Eng.Fn E.P 41 [.one (.r (.v (.int .i64 i))), .agg ((Entry.c e).map .r)] (.tup [.one (.w (.v (.string ((entT i e).1)))), .one (.w (.v (.bool ((entT i e).2))))]) [.one (.r (.v (.int .i64 i))), .agg ((Entry.c e).map .r)] := by
 refine Eng.Fn.intro (E := E) (rvs := [.tmp 4, .tmp 5]) Try.func41 rfl rfl rfl (by simp [outSlots, moved, rvSlot, sl]) ?_
 intro B g bo
 refine CW.keep 28 [0,1] rfl ?_;(conv=>whnf);refine ⟨?_⟩
 refine CW.seq ?_
 refine CW.region ?_
 refine RW.k XK 28 1 rfl ?_
 (conv=>whnf);intro b1;(conv=>whnf);refine ⟨rfl,?_⟩
 refine RW.freezeB (ts := (Entry.c e)) 3 rfl (DRd.r (DRd.r (DRd.r DRd.e))) ?_
 refine RW.k XK 28 2 rfl ?_
 (conv=>whnf);refine ⟨rfl,?_⟩
 refine RW.nil ?_
 refine CW.keep 28 [0,3] rfl ?_;(conv=>whnf);refine ⟨?_⟩
 refine CW.seq ?_
 refine CW.seqJ 28 (fun (v2 : Bool) => [(0, I i), (3, .rp (Entry.c e)), (13, Bo v2)]) (fun v2 => v2 = ((!(entOk e)) || (!(inR i 1 1000000)))) ?_ ?_
 ·refine CW.region ?_
  refine RW.k XK 28 1 rfl ?_
  (conv=>whnf);refine ⟨rfl,?_⟩
  refine RW.call rfl (impl_EntryOk_fn e hok) rfl (.cons (.agg (.cons (.r .r) (.cons (.r .r) (.cons (.r .r) (.nil))))) (.nil)) fun g3 => ?_
  refine RW.k XK 28 2 rfl ?_
  (conv=>whnf);refine ⟨rfl,?_⟩
  refine RW.gv rfl rfl rfl rfl (fun h4 => V.mv (d := I i) rfl rfl) (fun h4 => ?_) (fun h4 => ?_)
  ·skip
   refine RW.gcall rfl rfl rfl rfl (impl_within_fn i 1 1000000) rfl (.cons (.one (.r .r)) (.cons (.one (.r .r)) (.cons (.one (.r .r)) (.nil)))) fun g5 => ?_
   refine RW.k XK 28 2 rfl ?_
   (conv=>whnf);refine ⟨rfl,?_⟩
   refine RW.nil ?_
   exact ⟨_, by first | rfl | (simp_all; done) | (simp_all; omega) | grind, rfl, Le.of rfl⟩
  ·skip
   refine RW.k XK 28 3 rfl ?_
   (conv=>whnf);refine ⟨rfl,?_⟩
   refine RW.nil ?_
   exact ⟨_, by first | rfl | (simp_all; done) | (simp_all; omega) | grind, rfl, Le.of rfl⟩
 ·intro v2 hv6
  refine CW.cond rfl (fun h7 => ?_) (fun h7 => ?_)
  ·skip
   have hvv := hv6.symm.trans h7
   refine CW.k XK 28 1 [4,5] rfl ?_
   (conv=>whnf);refine ⟨rfl,?_⟩
   refine CW.ret ?_
   exact Post.tup (by decide) (RVs.c (RV.s rfl (by rw [entT_no hvv])) (RVs.c (RV.b rfl (by rw [entT_no hvv])) RVs.e)) (AOs.r (AOs.a rfl AOs.e))
  ·skip
   have hvv := hv6.symm.trans h7
   refine CW.skip ?_
   refine CW.keep 28 [0,3] rfl ?_;(conv=>whnf);refine ⟨?_⟩
   refine CW.anyJ2 (fc := []) (L0 := []) 28 (fun (zz : Value × Value × (Nat → Nat → Value) × (Nat → Nat → Value)) => match zz with | (Xo8_3_1, Xo8_8_1, go8_4_1, go8_9_1) => [(4, S ((((⟨#[69]⟩ : ByteArray) ++ (varTs ([i, e.term_] : List Int))) ++ (byT ([e.kind]))) ++ e.data)), (5, Bo true)]) (fun all hall f hf b0 hb K hK => ?_) ?_
   ·skip
    have ro8_6 : ∀ B, ∀ (Xo8_3_1 : Value), ∀ (Xo8_8_1 : Value), ∀ (go8_4_1 : Nat → Nat → Value), ∀ (go8_9_1 : Nat → Nat → Value), RA f E B all 0 (bt 16 65535) ⟨28, [(4, S ((((⟨#[69]⟩ : ByteArray) ++ (varTs ([i, e.term_] : List Int))) ++ (byT ([e.kind]))) ++ e.data)), (5, Bo true)] ++ b0⟩ K := by
     intro B Xo8_3_1 Xo8_8_1 go8_4_1 go8_9_1
     exact RA.of2 hall hf hb (RA.finH (Tell.of rfl) (by kernel_rfl) (hK (Xo8_3_1, Xo8_8_1, go8_4_1, go8_9_1) _ rfl (Le.of rfl)))
    have ro8_5 : ∀ B, ∀ (Xo8_3_1 : Value), ∀ (Xo8_8_1 : Value), ∀ (go8_4_1 : Nat → Nat → Value), RA f E B all 5 (bt 16 6655) ⟨28, [(19, S ((⟨#[69]⟩ : ByteArray) ++ (varTs ([i, e.term_] : List Int)))), (22, .w (sl 1 cI ([e.kind])) Xo8_8_1), (26, S e.data)] ++ b0⟩ K := by
     intro B Xo8_3_1 Xo8_8_1 go8_4_1
     refine RA.of2 hall hf hb (RA.stepH (L := [9]) (Tell.of rfl) (by kernel_rfl) (by simp) (RA.each ?_ (RA.each0)))
     ·skip
      refine RO.callOwn rfl rfl (impl_byteTexts_fn ([e.kind]) (Nat.le_of_ble_eq_true rfl)) rfl (.cons (.one (.r (.al (k := none) (i := 22) (sz := 1) (V := Xo8_8_1) rfl rfl nofun))) (.nil)) rfl rfl fun go8_9_1 => ?_
      refine RA.first (i := 10) (ls' := (bt 16 8191)) (Tell.of rfl) (by kernel_rfl) rfl rfl rfl (VF.p (V.cat rfl rfl rfl (by have h9 : e.data.size ≤ 1048576 := hok; have z1 := varTs_size [i, e.term_]; have z2 := byT_size [e.kind]; have z3 : (⟨#[69]⟩ : ByteArray).size = 1 := rfl; simp only [List.length_cons, List.length_nil] at z1 z2; simp only [ByteArray.size_append, maxLen, z3]; omega))) ?_
      refine RA.first (i := 13) (ls' := (bt 16 16383)) (Tell.of rfl) (by kernel_rfl) rfl rfl rfl (VF.p (V.cat rfl rfl rfl (by have h9 : e.data.size ≤ 1048576 := hok; have z1 := varTs_size [i, e.term_]; have z2 := byT_size [e.kind]; have z3 : (⟨#[69]⟩ : ByteArray).size = 1 := rfl; simp only [List.length_cons, List.length_nil] at z1 z2; simp only [ByteArray.size_append, maxLen, z3]; omega))) ?_
      refine RA.fr XK 28 0 [14,15] (bt 16 65535) rfl rfl (by kernel_rfl) (Tell.of rfl) ?_
      (conv=>whnf);refine ⟨rfl,fun B=>?_⟩
      exact RA.to2 hall hf hb (ro8_6 B Xo8_3_1 Xo8_8_1 go8_4_1 go8_9_1) rfl rfl (by kernel_rfl)
    have ro8_4 : ∀ B, ∀ (Xo8_3_1 : Value), ∀ (go8_4_1 : Nat → Nat → Value), RA f E B all 6 (bt 16 6399) ⟨28, [(19, S ((⟨#[69]⟩ : ByteArray) ++ (varTs ([i, e.term_] : List Int)))), (21, I e.kind), (26, S e.data)] ++ b0⟩ K := by
     intro B Xo8_3_1 go8_4_1
     refine RA.of2 hall hf hb (RA.stepH (L := [8]) (Tell.of rfl) (by kernel_rfl) (by simp) (RA.each ?_ (RA.each0)))
     ·skip
      refine RO.build1c (c := cI) (v := e.kind) (u := .v (.int .i64 e.kind)) rfl rfl rfl rfl rfl rfl rfl rfl (.inl rfl) rfl rfl fun Xo8_8_1 => ?_
      exact RA.to2 hall hf hb (ro8_5 B Xo8_3_1 Xo8_8_1 go8_4_1) rfl rfl (by kernel_rfl)
    have ro8_3 : ∀ B, ∀ (Xo8_3_1 : Value), ∀ (Xo8_8_1 : Value), RA f E B all 7 (bt 16 6607) ⟨28, [(17, .w (sl 1 cI ([i, e.term_] : List Int)) Xo8_3_1), (22, .w (sl 1 cI ([e.kind])) Xo8_8_1), (26, S e.data)] ++ b0⟩ K := by
     intro B Xo8_3_1 Xo8_8_1
     refine RA.of2 hall hf hb (RA.stepH (L := [4]) (Tell.of rfl) (by kernel_rfl) (by simp) (RA.each ?_ (RA.each0)))
     ·skip
      refine RO.callOwn rfl rfl (impl_varTexts_fn ([i, e.term_] : List Int) (Nat.le_of_ble_eq_true rfl)) rfl (.cons (.one (.r (.al (k := none) (i := 17) (sz := 1) (V := Xo8_3_1) rfl rfl nofun))) (.nil)) rfl rfl fun go8_4_1 => ?_
      refine RA.first (i := 5) (ls' := (bt 16 6655)) (Tell.of rfl) (by kernel_rfl) rfl rfl rfl (VF.p (V.cat rfl rfl rfl (by have h9 : e.data.size ≤ 1048576 := hok; have z1 := varTs_size [i, e.term_]; have z2 := byT_size [e.kind]; have z3 : (⟨#[69]⟩ : ByteArray).size = 1 := rfl; simp only [List.length_cons, List.length_nil] at z1 z2; simp only [ByteArray.size_append, maxLen, z3]; omega))) ?_
      exact RA.to2 hall hf hb (ro8_5 B Xo8_3_1 Xo8_8_1 go8_4_1) rfl rfl (by kernel_rfl)
    have ro8_2 : ∀ B, ∀ (Xo8_8_1 : Value), RA f E B all 8 (bt 16 6599) ⟨28, [(14, I i), (16, I e.term_), (22, .w (sl 1 cI ([e.kind])) Xo8_8_1), (26, S e.data)] ++ b0⟩ K := by
     intro B Xo8_8_1
     refine RA.of2 hall hf hb (RA.stepH (L := [3]) (Tell.of rfl) (by kernel_rfl) (by simp) (RA.each ?_ (RA.each0)))
     ·skip
      refine RO.buildV (c := cI) (L := [i, e.term_]) (vs := [(.int .i64 i), (.int .i64 e.term_)]) [.tmp 14, .tmp 16] rfl rfl rfl rfl rfl rfl rfl rfl rfl rfl rfl rfl (by decide) (by decide) rfl rfl fun Xo8_3_1 => ?_
      exact RA.to2 hall hf hb (ro8_3 B Xo8_3_1 Xo8_8_1) rfl rfl (by kernel_rfl)
    have ro8_1 : ∀ B, ∀ (Xo8_3_1 : Value), RA f E B all 8 (bt 16 6351) ⟨28, [(17, .w (sl 1 cI ([i, e.term_] : List Int)) Xo8_3_1), (21, I e.kind), (26, S e.data)] ++ b0⟩ K := by
     intro B Xo8_3_1
     refine RA.of2 hall hf hb (RA.stepH (L := [4, 8]) (Tell.of rfl) (by kernel_rfl) (by simp) (RA.each ?_ (RA.each ?_ (RA.each0))))
     ·skip
      refine RO.callOwn rfl rfl (impl_varTexts_fn ([i, e.term_] : List Int) (Nat.le_of_ble_eq_true rfl)) rfl (.cons (.one (.r (.al (k := none) (i := 17) (sz := 1) (V := Xo8_3_1) rfl rfl nofun))) (.nil)) rfl rfl fun go8_4_1 => ?_
      refine RA.first (i := 5) (ls' := (bt 16 6399)) (Tell.of rfl) (by kernel_rfl) rfl rfl rfl (VF.p (V.cat rfl rfl rfl (by have h9 : e.data.size ≤ 1048576 := hok; have z1 := varTs_size [i, e.term_]; have z2 := byT_size [e.kind]; have z3 : (⟨#[69]⟩ : ByteArray).size = 1 := rfl; simp only [List.length_cons, List.length_nil] at z1 z2; simp only [ByteArray.size_append, maxLen, z3]; omega))) ?_
      exact RA.to2 hall hf hb (ro8_4 B Xo8_3_1 go8_4_1) rfl rfl (by kernel_rfl)
     ·skip
      refine RO.build1c (c := cI) (v := e.kind) (u := .v (.int .i64 e.kind)) rfl rfl rfl rfl rfl rfl rfl rfl (.inl rfl) rfl rfl fun Xo8_8_1 => ?_
      exact RA.to2 hall hf hb (ro8_3 B Xo8_3_1 Xo8_8_1) rfl rfl (by kernel_rfl)
    have ro8_0 : ∀ B, RA f E B all 9 (bt 16 6343) ⟨28, [(14, I i), (16, I e.term_), (21, I e.kind), (26, S e.data)] ++ b0⟩ K := by
     intro B
     refine RA.of2 hall hf hb (RA.stepH (L := [3, 8]) (Tell.of rfl) (by kernel_rfl) (by simp) (RA.each ?_ (RA.each ?_ (RA.each0))))
     ·skip
      refine RO.buildV (c := cI) (L := [i, e.term_]) (vs := [(.int .i64 i), (.int .i64 e.term_)]) [.tmp 14, .tmp 16] rfl rfl rfl rfl rfl rfl rfl rfl rfl rfl rfl rfl (by decide) (by decide) rfl rfl fun Xo8_3_1 => ?_
      exact RA.to2 hall hf hb (ro8_1 B Xo8_3_1) rfl rfl (by kernel_rfl)
     ·skip
      refine RO.build1c (c := cI) (v := e.kind) (u := .v (.int .i64 e.kind)) rfl rfl rfl rfl rfl rfl rfl rfl (.inl rfl) rfl rfl fun Xo8_8_1 => ?_
      exact RA.to2 hall hf hb (ro8_2 B Xo8_8_1) rfl rfl (by kernel_rfl)
    refine RA.start (by kernel_rfl) (by kernel_rfl) (m := 16) (ls' := (bt 16 0)) ?_
    refine RA.fr XK 28 9 [0,1,2,6,7,11,12] (bt 16 6343) rfl rfl (by kernel_rfl) (Tell.of rfl) ?_
    (conv=>whnf);refine ⟨rfl,fun B=>?_⟩
    exact RA.to2 hall hf hb (ro8_0 B) rfl rfl (by kernel_rfl)
   ·rintro ⟨Xo8_3_1, Xo8_8_1, go8_4_1, go8_9_1⟩
    refine CW.ret ?_
    exact Post.tup (by decide) (RVs.c (RV.s rfl (by exact ent_impl hvv)) (RVs.c (RV.b rfl (by rw [(entT_yes hvv).1])) RVs.e)) (AOs.r (AOs.a rfl AOs.e))
set_option maxHeartbeats 4000000 in
theorem impl_Encode_fn (m : Message) (hok : okToMessage m) : Eng.Fn E.P 12 [.agg ((Message.c m).map .r)] (.tup [.one (.w (.v (.string ((msgT m).1)))), .one (.w (.v (.bool ((msgT m).2))))]) [.agg ((Message.c m).map .r)] := by
 refine Eng.Fn.intro (E := E) (rvs := [.tmp 2, .tmp 3]) Try.func12 rfl rfl rfl (by simp [outSlots, moved, rvSlot, sl]) ?_
 intro B g bo
 refine CW.keep 74 [0] rfl ?_;(conv=>whnf);refine ⟨?_⟩
 have hl1 : m.entries.length ≤ maxLen := by have := hok.1.1; simp only [maxLen]; omega
 refine CW.seq ?_
 refine CW.region ?_
 refine RW.k XK 74 1 rfl ?_
 (conv=>whnf);intro b1;(conv=>whnf);refine ⟨rfl,?_⟩
 refine RW.freezeB (ts := (Message.c m)) 1 rfl (DRd.r (DRd.r (DRd.r (DRd.r (DRd.r (DRd.r (DRd.r (DRd.r (DRd.r (DRd.r (DRd.r (DRd.r DRd.e)))))))))))) ?_
 refine RW.k XK 74 2 rfl ?_
 (conv=>whnf);refine ⟨rfl,?_⟩
 refine RW.nil ?_
 refine CW.keep 74 [1] rfl ?_;(conv=>whnf);refine ⟨?_⟩
 refine CW.seq ?_
 refine CW.seq ?_
 refine CW.region ?_
 refine RW.k XK 74 1 rfl ?_
 (conv=>whnf);refine ⟨rfl,?_⟩
 refine RW.call rfl (impl_MessageOk_fn m hok) rfl (.cons (.agg (.cons (.r .r) (.cons (.r .r) (.cons (.r .r) (.cons (.r .r) (.cons (.r .r) (.cons (.r .r) (.cons (.r .r) (.cons (.r .r) (.cons (.r .r) (.cons (.r .r) (.cons (.r .r) (.cons (.r .r) (.nil)))))))))))))) (.nil)) fun g2 => ?_
 refine RW.k XK 74 1 rfl ?_
 (conv=>whnf);refine ⟨rfl,?_⟩
 refine RW.nil ?_
 refine CW.keep 74 [1,11] rfl ?_;(conv=>whnf);refine ⟨?_⟩
 refine CW.cond rfl (fun h3 => ?_) (fun h3 => ?_)
 ·skip
  have hmo := nT h3
  refine CW.k XK 74 1 [2,3] rfl ?_
  (conv=>whnf);refine ⟨rfl,?_⟩
  refine CW.ret ?_
  exact Post.tup (by decide) (RVs.c (RV.s rfl (by rw [msgT_no hmo] <;> rfl)) (RVs.c (RV.b rfl (by rw [msgT_no hmo] <;> rfl)) RVs.e)) (AOs.a rfl AOs.e)
 ·skip
  have hmo := nF h3
  have msz := MSz.of hmo
  refine CW.skip ?_
  refine CW.keep 74 [1] rfl ?_;(conv=>whnf);refine ⟨?_⟩
  refine CW.anyJ2 (fc := []) (L0 := [(1, .rp (Message.c m))]) 74 (fun (zz : Value × Value × Value × (Nat → Nat → Value) × (Nat → Nat → Value) × (Nat → Nat → Value) × (Nat → Nat → Value) × (Nat → Nat → Value)) => match zz with | (Xo4_16_1, Xo4_25_1, Xo4_6_1, go4_17_1, go4_21_1, go4_24_1, go4_26_1, go4_7_1) => [(4, S (((byT ([m.kind, m.from_, m.to] : List Int)) ++ (varTs ([m.term_, m.index, m.logTerm, m.commit] : List Int))) ++ (byT ([(flagI m.ok), (flagI m.last)] : List Int))))]) (fun all hall f hf b0 hb K hK => ?_) ?_
  ·skip
   have ro4_10 : ∀ B, ∀ (Xo4_16_1 : Value), ∀ (Xo4_25_1 : Value), ∀ (Xo4_6_1 : Value), ∀ (go4_17_1 : Nat → Nat → Value), ∀ (go4_21_1 : Nat → Nat → Value), ∀ (go4_24_1 : Nat → Nat → Value), ∀ (go4_26_1 : Nat → Nat → Value), ∀ (go4_7_1 : Nat → Nat → Value), RA f E B all 0 (bt 29 536870911) ⟨74, [(4, S (((byT ([m.kind, m.from_, m.to] : List Int)) ++ (varTs ([m.term_, m.index, m.logTerm, m.commit] : List Int))) ++ (byT ([(flagI m.ok), (flagI m.last)] : List Int))))] ++ b0⟩ K := by
    intro B Xo4_16_1 Xo4_25_1 Xo4_6_1 go4_17_1 go4_21_1 go4_24_1 go4_26_1 go4_7_1
    exact RA.of2 hall hf hb (RA.finH (Tell.of rfl) (by kernel_rfl) (hK (Xo4_16_1, Xo4_25_1, Xo4_6_1, go4_17_1, go4_21_1, go4_24_1, go4_26_1, go4_7_1) _ rfl (Le.of rfl)))
   have ro4_9 : ∀ B, ∀ (Xo4_16_1 : Value), ∀ (Xo4_25_1 : Value), ∀ (Xo4_6_1 : Value), ∀ (go4_17_1 : Nat → Nat → Value), ∀ (go4_21_1 : Nat → Nat → Value), ∀ (go4_24_1 : Nat → Nat → Value), ∀ (go4_7_1 : Nat → Nat → Value), RA f E B all 3 (bt 29 67108863) ⟨74, [(30, S ((byT ([m.kind, m.from_, m.to] : List Int)) ++ (varTs ([m.term_, m.index, m.logTerm, m.commit] : List Int)))), (37, .w (sl 1 cI ([(flagI m.ok), (flagI m.last)] : List Int)) Xo4_25_1)] ++ b0⟩ K := by
    intro B Xo4_16_1 Xo4_25_1 Xo4_6_1 go4_17_1 go4_21_1 go4_24_1 go4_7_1
    refine RA.of2 hall hf hb (RA.stepH (L := [26]) (Tell.of rfl) (by kernel_rfl) (by simp) (RA.each ?_ (RA.each0)))
    ·skip
     refine RO.callOwn rfl rfl (impl_byteTexts_fn ([(flagI m.ok), (flagI m.last)] : List Int) (Nat.le_of_ble_eq_true rfl)) rfl (.cons (.one (.r (.al (k := none) (i := 37) (sz := 1) (V := Xo4_25_1) rfl rfl nofun))) (.nil)) rfl rfl fun go4_26_1 => ?_
     refine RA.first (i := 27) (ls' := (bt 29 268435455)) (Tell.of rfl) (by kernel_rfl) rfl rfl rfl (VF.p (V.cat rfl rfl rfl (by have msz := MSz.of hmo; have zd := msz.d; have zn := msz.n; have z1 := varTs_size [m.term_, m.index, m.logTerm, m.commit]; have z2 := byT_size [m.kind, m.from_, m.to]; have z3 := byT_size [flagI m.ok, flagI m.last]; have z4 := varTs_size [(m.entries.length : Int)]; simp only [List.length_cons, List.length_nil] at z1 z2 z3 z4; first | (simp only [ByteArray.size_append, maxLen]; omega) | (have h9 := hP.size msz; have h8 := entT_size 1 ei; have h7 := shTs_size [(entT 1 ei).1]; simp only [List.length_cons, List.length_nil] at h7; simp only [maxLen]; omega) | (have h9 := hP.size msz; have h7 := shTs_size [byT m.conf, m.data]; simp only [List.length_cons, List.length_nil] at h7; simp only [maxLen]; omega)))) ?_
     refine RA.fr XK 74 0 [28] (bt 29 536870911) rfl rfl (by kernel_rfl) (Tell.of rfl) ?_
     (conv=>whnf);refine ⟨rfl,fun B=>?_⟩
     exact RA.to2 hall hf hb (ro4_10 B Xo4_16_1 Xo4_25_1 Xo4_6_1 go4_17_1 go4_21_1 go4_24_1 go4_26_1 go4_7_1) rfl rfl (by kernel_rfl)
   have ro4_8 : ∀ B, ∀ (Xo4_16_1 : Value), ∀ (Xo4_6_1 : Value), ∀ (go4_17_1 : Nat → Nat → Value), ∀ (go4_21_1 : Nat → Nat → Value), ∀ (go4_24_1 : Nat → Nat → Value), ∀ (go4_7_1 : Nat → Nat → Value), RA f E B all 4 (bt 29 33554431) ⟨74, [(30, S ((byT ([m.kind, m.from_, m.to] : List Int)) ++ (varTs ([m.term_, m.index, m.logTerm, m.commit] : List Int)))), (33, I (flagI m.ok)), (36, I (flagI m.last))] ++ b0⟩ K := by
    intro B Xo4_16_1 Xo4_6_1 go4_17_1 go4_21_1 go4_24_1 go4_7_1
    refine RA.of2 hall hf hb (RA.stepH (L := [25]) (Tell.of rfl) (by kernel_rfl) (by simp) (RA.each ?_ (RA.each0)))
    ·skip
     refine RO.buildV (c := cI) (L := [(flagI m.ok), (flagI m.last)]) (vs := [(.int .i64 (flagI m.ok)), (.int .i64 (flagI m.last))]) [.tmp 33, .tmp 36] rfl rfl rfl rfl rfl rfl rfl rfl rfl rfl rfl rfl (by decide) (by decide) rfl rfl fun Xo4_25_1 => ?_
     exact RA.to2 hall hf hb (ro4_9 B Xo4_16_1 Xo4_25_1 Xo4_6_1 go4_17_1 go4_21_1 go4_24_1 go4_7_1) rfl rfl (by kernel_rfl)
   have ro4_7 : ∀ B, ∀ (Xo4_16_1 : Value), ∀ (Xo4_6_1 : Value), ∀ (go4_17_1 : Nat → Nat → Value), ∀ (go4_21_1 : Nat → Nat → Value), ∀ (go4_7_1 : Nat → Nat → Value), RA f E B all 5 (bt 29 16777215) ⟨74, [(30, S ((byT ([m.kind, m.from_, m.to] : List Int)) ++ (varTs ([m.term_, m.index, m.logTerm, m.commit] : List Int)))), (33, I (flagI m.ok)), (35, Bo m.last)] ++ b0⟩ K := by
    intro B Xo4_16_1 Xo4_6_1 go4_17_1 go4_21_1 go4_7_1
    refine RA.of2 hall hf hb (RA.stepH (L := [24]) (Tell.of rfl) (by kernel_rfl) (by simp) (RA.each ?_ (RA.each0)))
    ·skip
     refine RO.call rfl rfl (impl_flag_fn m.last) rfl (.cons (.one (.r .r)) (.nil)) rfl fun go4_24_1 => ?_
     exact RA.to2 hall hf hb (ro4_8 B Xo4_16_1 Xo4_6_1 go4_17_1 go4_21_1 go4_24_1 go4_7_1) rfl rfl (by kernel_rfl)
   have ro4_6 : ∀ B, ∀ (Xo4_16_1 : Value), ∀ (Xo4_6_1 : Value), ∀ (go4_17_1 : Nat → Nat → Value), ∀ (go4_7_1 : Nat → Nat → Value), RA f E B all 6 (bt 29 14680063) ⟨74, [(30, S ((byT ([m.kind, m.from_, m.to] : List Int)) ++ (varTs ([m.term_, m.index, m.logTerm, m.commit] : List Int)))), (32, Bo m.ok), (35, Bo m.last)] ++ b0⟩ K := by
    intro B Xo4_16_1 Xo4_6_1 go4_17_1 go4_7_1
    refine RA.of2 hall hf hb (RA.stepH (L := [21]) (Tell.of rfl) (by kernel_rfl) (by simp) (RA.each ?_ (RA.each0)))
    ·skip
     refine RO.call rfl rfl (impl_flag_fn m.ok) rfl (.cons (.one (.r .r)) (.nil)) rfl fun go4_21_1 => ?_
     exact RA.to2 hall hf hb (ro4_7 B Xo4_16_1 Xo4_6_1 go4_17_1 go4_21_1 go4_7_1) rfl rfl (by kernel_rfl)
   have ro4_5 : ∀ B, ∀ (Xo4_16_1 : Value), ∀ (Xo4_6_1 : Value), ∀ (go4_7_1 : Nat → Nat → Value), RA f E B all 8 (bt 29 14286847) ⟨74, [(19, S (byT ([m.kind, m.from_, m.to] : List Int))), (28, .w (sl 1 cI ([m.term_, m.index, m.logTerm, m.commit] : List Int)) Xo4_16_1), (32, Bo m.ok), (35, Bo m.last)] ++ b0⟩ K := by
    intro B Xo4_16_1 Xo4_6_1 go4_7_1
    refine RA.of2 hall hf hb (RA.stepH (L := [17]) (Tell.of rfl) (by kernel_rfl) (by simp) (RA.each ?_ (RA.each0)))
    ·skip
     refine RO.callOwn rfl rfl (impl_varTexts_fn ([m.term_, m.index, m.logTerm, m.commit] : List Int) (Nat.le_of_ble_eq_true rfl)) rfl (.cons (.one (.r (.al (k := none) (i := 28) (sz := 1) (V := Xo4_16_1) rfl rfl nofun))) (.nil)) rfl rfl fun go4_17_1 => ?_
     refine RA.first (i := 18) (ls' := (bt 29 14680063)) (Tell.of rfl) (by kernel_rfl) rfl rfl rfl (VF.p (V.cat rfl rfl rfl (by have msz := MSz.of hmo; have zd := msz.d; have zn := msz.n; have z1 := varTs_size [m.term_, m.index, m.logTerm, m.commit]; have z2 := byT_size [m.kind, m.from_, m.to]; have z3 := byT_size [flagI m.ok, flagI m.last]; have z4 := varTs_size [(m.entries.length : Int)]; simp only [List.length_cons, List.length_nil] at z1 z2 z3 z4; first | (simp only [ByteArray.size_append, maxLen]; omega) | (have h9 := hP.size msz; have h8 := entT_size 1 ei; have h7 := shTs_size [(entT 1 ei).1]; simp only [List.length_cons, List.length_nil] at h7; simp only [maxLen]; omega) | (have h9 := hP.size msz; have h7 := shTs_size [byT m.conf, m.data]; simp only [List.length_cons, List.length_nil] at h7; simp only [maxLen]; omega)))) ?_
     exact RA.to2 hall hf hb (ro4_6 B Xo4_16_1 Xo4_6_1 go4_17_1 go4_7_1) rfl rfl (by kernel_rfl)
   have ro4_4 : ∀ B, ∀ (Xo4_16_1 : Value), ∀ (Xo4_6_1 : Value), RA f E B all 9 (bt 29 14286719) ⟨74, [(18, .w (sl 1 cI ([m.kind, m.from_, m.to] : List Int)) Xo4_6_1), (28, .w (sl 1 cI ([m.term_, m.index, m.logTerm, m.commit] : List Int)) Xo4_16_1), (32, Bo m.ok), (35, Bo m.last)] ++ b0⟩ K := by
    intro B Xo4_16_1 Xo4_6_1
    refine RA.of2 hall hf hb (RA.stepH (L := [7]) (Tell.of rfl) (by kernel_rfl) (by simp) (RA.each ?_ (RA.each0)))
    ·skip
     refine RO.callOwn rfl rfl (impl_byteTexts_fn ([m.kind, m.from_, m.to] : List Int) (Nat.le_of_ble_eq_true rfl)) rfl (.cons (.one (.r (.al (k := none) (i := 18) (sz := 1) (V := Xo4_6_1) rfl rfl nofun))) (.nil)) rfl rfl fun go4_7_1 => ?_
     exact RA.to2 hall hf hb (ro4_5 B Xo4_16_1 Xo4_6_1 go4_7_1) rfl rfl (by kernel_rfl)
   have ro4_3 : ∀ B, ∀ (Xo4_6_1 : Value), ∀ (go4_7_1 : Nat → Nat → Value), RA f E B all 9 (bt 29 14221311) ⟨74, [(19, S (byT ([m.kind, m.from_, m.to] : List Int))), (21, I m.term_), (23, I m.index), (25, I m.logTerm), (27, I m.commit), (32, Bo m.ok), (35, Bo m.last)] ++ b0⟩ K := by
    intro B Xo4_6_1 go4_7_1
    refine RA.of2 hall hf hb (RA.stepH (L := [16]) (Tell.of rfl) (by kernel_rfl) (by simp) (RA.each ?_ (RA.each0)))
    ·skip
     refine RO.buildV (c := cI) (L := [m.term_, m.index, m.logTerm, m.commit]) (vs := [(.int .i64 m.term_), (.int .i64 m.index), (.int .i64 m.logTerm), (.int .i64 m.commit)]) [.tmp 21, .tmp 23, .tmp 25, .tmp 27] rfl rfl rfl rfl rfl rfl rfl rfl rfl rfl rfl rfl (by decide) (by decide) rfl rfl fun Xo4_16_1 => ?_
     exact RA.to2 hall hf hb (ro4_5 B Xo4_16_1 Xo4_6_1 go4_7_1) rfl rfl (by kernel_rfl)
   have ro4_2 : ∀ B, ∀ (Xo4_16_1 : Value), RA f E B all 10 (bt 29 14286655) ⟨74, [(13, I m.kind), (15, I m.from_), (17, I m.to), (28, .w (sl 1 cI ([m.term_, m.index, m.logTerm, m.commit] : List Int)) Xo4_16_1), (32, Bo m.ok), (35, Bo m.last)] ++ b0⟩ K := by
    intro B Xo4_16_1
    refine RA.of2 hall hf hb (RA.stepH (L := [6]) (Tell.of rfl) (by kernel_rfl) (by simp) (RA.each ?_ (RA.each0)))
    ·skip
     refine RO.buildV (c := cI) (L := [m.kind, m.from_, m.to]) (vs := [(.int .i64 m.kind), (.int .i64 m.from_), (.int .i64 m.to)]) [.tmp 13, .tmp 15, .tmp 17] rfl rfl rfl rfl rfl rfl rfl rfl rfl rfl rfl rfl (by decide) (by decide) rfl rfl fun Xo4_6_1 => ?_
     exact RA.to2 hall hf hb (ro4_4 B Xo4_16_1 Xo4_6_1) rfl rfl (by kernel_rfl)
   have ro4_1 : ∀ B, ∀ (Xo4_6_1 : Value), RA f E B all 10 (bt 29 14221183) ⟨74, [(18, .w (sl 1 cI ([m.kind, m.from_, m.to] : List Int)) Xo4_6_1), (21, I m.term_), (23, I m.index), (25, I m.logTerm), (27, I m.commit), (32, Bo m.ok), (35, Bo m.last)] ++ b0⟩ K := by
    intro B Xo4_6_1
    refine RA.of2 hall hf hb (RA.stepH (L := [7, 16]) (Tell.of rfl) (by kernel_rfl) (by simp) (RA.each ?_ (RA.each ?_ (RA.each0))))
    ·skip
     refine RO.callOwn rfl rfl (impl_byteTexts_fn ([m.kind, m.from_, m.to] : List Int) (Nat.le_of_ble_eq_true rfl)) rfl (.cons (.one (.r (.al (k := none) (i := 18) (sz := 1) (V := Xo4_6_1) rfl rfl nofun))) (.nil)) rfl rfl fun go4_7_1 => ?_
     exact RA.to2 hall hf hb (ro4_3 B Xo4_6_1 go4_7_1) rfl rfl (by kernel_rfl)
    ·skip
     refine RO.buildV (c := cI) (L := [m.term_, m.index, m.logTerm, m.commit]) (vs := [(.int .i64 m.term_), (.int .i64 m.index), (.int .i64 m.logTerm), (.int .i64 m.commit)]) [.tmp 21, .tmp 23, .tmp 25, .tmp 27] rfl rfl rfl rfl rfl rfl rfl rfl rfl rfl rfl rfl (by decide) (by decide) rfl rfl fun Xo4_16_1 => ?_
     exact RA.to2 hall hf hb (ro4_4 B Xo4_16_1 Xo4_6_1) rfl rfl (by kernel_rfl)
   have ro4_0 : ∀ B, RA f E B all 11 (bt 29 14221119) ⟨74, [(13, I m.kind), (15, I m.from_), (17, I m.to), (21, I m.term_), (23, I m.index), (25, I m.logTerm), (27, I m.commit), (32, Bo m.ok), (35, Bo m.last)] ++ b0⟩ K := by
    intro B
    refine RA.of2 hall hf hb (RA.stepH (L := [6, 16]) (Tell.of rfl) (by kernel_rfl) (by simp) (RA.each ?_ (RA.each ?_ (RA.each0))))
    ·skip
     refine RO.buildV (c := cI) (L := [m.kind, m.from_, m.to]) (vs := [(.int .i64 m.kind), (.int .i64 m.from_), (.int .i64 m.to)]) [.tmp 13, .tmp 15, .tmp 17] rfl rfl rfl rfl rfl rfl rfl rfl rfl rfl rfl rfl (by decide) (by decide) rfl rfl fun Xo4_6_1 => ?_
     exact RA.to2 hall hf hb (ro4_1 B Xo4_6_1) rfl rfl (by kernel_rfl)
    ·skip
     refine RO.buildV (c := cI) (L := [m.term_, m.index, m.logTerm, m.commit]) (vs := [(.int .i64 m.term_), (.int .i64 m.index), (.int .i64 m.logTerm), (.int .i64 m.commit)]) [.tmp 21, .tmp 23, .tmp 25, .tmp 27] rfl rfl rfl rfl rfl rfl rfl rfl rfl rfl rfl rfl (by decide) (by decide) rfl rfl fun Xo4_16_1 => ?_
     exact RA.to2 hall hf hb (ro4_2 B Xo4_16_1) rfl rfl (by kernel_rfl)
   refine RA.start (by kernel_rfl) (by kernel_rfl) (m := 29) (ls' := (bt 29 0)) ?_
   refine RA.fr XK 74 11 [0,1,2,3,4,5,8,9,10,11,12,13,14,15,19,20,22,23] (bt 29 14221119) rfl rfl (by kernel_rfl) (Tell.of rfl) ?_
   (conv=>whnf);refine ⟨rfl,fun B=>?_⟩
   exact RA.to2 hall hf hb (ro4_0 B) rfl rfl (by kernel_rfl)
  ·rintro ⟨Xo4_16_1, Xo4_25_1, Xo4_6_1, go4_17_1, go4_21_1, go4_24_1, go4_26_1, go4_7_1⟩
   refine CW.seq ?_
   refine CW.region ?_
   refine RW.k XK 74 4 rfl ?_
   (conv=>whnf);refine ⟨rfl,?_⟩
   refine RW.build1c (c := cI) (v := (m.entries.length : Int)) (u := .v (.int .i64 (m.entries.length : Int))) rfl rfl rfl rfl rfl rfl (.inl rfl) rfl rfl fun X5 => ?_
   refine RW.callOwn rfl (impl_varTexts_fn ([(m.entries.length : Int)]) (Nat.le_of_ble_eq_true rfl)) rfl (.cons (.one (.r (.al (k := none) (i := 44) (sz := 1) (V := X5) rfl rfl nofun))) (.nil)) rfl fun g6 => ?_
   refine RW.v rfl (V.cat rfl rfl rfl (by have msz := MSz.of hmo; have zd := msz.d; have zn := msz.n; have z1 := varTs_size [m.term_, m.index, m.logTerm, m.commit]; have z2 := byT_size [m.kind, m.from_, m.to]; have z3 := byT_size [flagI m.ok, flagI m.last]; have z4 := varTs_size [(m.entries.length : Int)]; simp only [List.length_cons, List.length_nil] at z1 z2 z3 z4; first | (simp only [ByteArray.size_append, maxLen]; omega) | (have h9 := hP.size msz; have h8 := entT_size 1 ei; have h7 := shTs_size [(entT 1 ei).1]; simp only [List.length_cons, List.length_nil] at h7; simp only [maxLen]; omega) | (have h9 := hP.size msz; have h7 := shTs_size [byT m.conf, m.data]; simp only [List.length_cons, List.length_nil] at h7; simp only [maxLen]; omega))) ?_
   refine RW.k XK 74 1 rfl ?_
   (conv=>whnf);refine ⟨rfl,?_⟩
   refine RW.nil ?_
   refine CW.keep 74 [1,4] rfl ?_;(conv=>whnf);refine ⟨?_⟩
   refine CW.seq ?_
   refine CW.k XK 74 1 [1,4,48,49,50] rfl ?_
   (conv=>whnf);refine ⟨rfl,?_⟩
   refine CW.block ?_
   refine CW.loopI 74 (fun (zz : Nat × ByteArray) => match zz with | (i, s) => [(1, .rp (Message.c m)), (4, S s), (48, .r (sl 3 Entry.c m.entries)), (49, I (m.entries.length : Int)), (50, I (i : Int))]) (fun (zz : Nat × ByteArray) => match zz with | (i, s) => EnP m i s) (fun (zz : Nat × ByteArray) => match zz with | (i, s) => m.entries.length - i) (0, _) rfl (Le.c rfl <| Le.c rfl <| Le.c rfl <| Le.c rfl <| Le.c rfl <| Le.e) ⟨by omega, msgH_impl hmo⟩ ?_
   rintro ⟨i, s⟩ hP
   have hb := hP.le
   refine CW.k XK 74 1 [1,4,48,49,50,51] rfl ?_
   (conv=>whnf);refine ⟨rfl,?_⟩
   refine CW.seq ?_
   refine CW.cond rfl (fun h7 => ?_) (fun h7 => ?_)
   ·skip
    have hii : i < m.entries.length := by have := h7; simp at this; first | exact this | omega | (simp; done) | (simp; omega)
    obtain ⟨ei, hei⟩ : ∃ e, m.entries[i]? = some e := ⟨_, List.getElem?_eq_getElem hii⟩
    have hdi := drop_get hei
    refine CW.skip ?_
    refine CW.keep 74 [1,4,48,49,50] rfl ?_;(conv=>whnf);refine ⟨?_⟩
    refine CW.seq ?_
    refine CW.block ?_
    refine CW.seq ?_
    refine CW.region ?_
    refine RW.v rfl (V.indexS rfl rfl rfl rfl rfl rfl Entry.len hei) ?_
    refine RW.k XK 74 3 rfl ?_
    (conv=>whnf);intro b8;(conv=>whnf);refine ⟨rfl,?_⟩
    refine RW.freezeB (ts := (Entry.c ei)) 6 rfl (DRd.r (DRd.r (DRd.r DRd.e))) ?_
    refine RW.nil ?_
    refine CW.keep 74 [1,4,6,48,49,50] rfl ?_;(conv=>whnf);refine ⟨?_⟩
    refine CW.seq ?_
    refine CW.region ?_
    refine RW.k XK 74 1 rfl ?_
    (conv=>whnf);refine ⟨rfl,?_⟩
    refine RW.call rfl (impl_EntryText_fn 1 ei (hok.1.2 ei (List.mem_of_getElem? hei))) rfl (.cons (.one (.r .r)) (.cons (.agg (.cons (.r .r) (.cons (.r .r) (.cons (.r .r) (.nil))))) (.nil))) fun g9 => ?_
    refine RW.k XK 74 5 rfl ?_
    (conv=>whnf);refine ⟨rfl,?_⟩
    refine RW.nil ?_
    refine CW.keep 74 [1,4,7,48,49,50] rfl ?_;(conv=>whnf);refine ⟨?_⟩
    refine CW.region ?_
    refine RW.k XK 74 2 rfl ?_
    (conv=>whnf);refine ⟨rfl,?_⟩
    refine RW.build1c (c := cS) (v := ((entT 1 ei).1)) (u := .v (.string ((entT 1 ei).1))) rfl rfl rfl rfl rfl rfl (.inl rfl) rfl rfl fun X10 => ?_
    refine RW.callOwn rfl (impl_shortTexts_fn ([((entT 1 ei).1)]) (Nat.le_of_ble_eq_true rfl)) rfl (.cons (.one (.r (.al (k := none) (i := 61) (sz := 1) (V := X10) rfl rfl nofun))) (.nil)) rfl fun g11 => ?_
    refine RW.v rfl (V.cat rfl rfl rfl (by have msz := MSz.of hmo; have zd := msz.d; have zn := msz.n; have z1 := varTs_size [m.term_, m.index, m.logTerm, m.commit]; have z2 := byT_size [m.kind, m.from_, m.to]; have z3 := byT_size [flagI m.ok, flagI m.last]; have z4 := varTs_size [(m.entries.length : Int)]; simp only [List.length_cons, List.length_nil] at z1 z2 z3 z4; first | (simp only [ByteArray.size_append, maxLen]; omega) | (have h9 := hP.size msz; have h8 := entT_size 1 ei; have h7 := shTs_size [(entT 1 ei).1]; simp only [List.length_cons, List.length_nil] at h7; simp only [maxLen]; omega) | (have h9 := hP.size msz; have h7 := shTs_size [byT m.conf, m.data]; simp only [List.length_cons, List.length_nil] at h7; simp only [maxLen]; omega))) ?_
    refine RW.k XK 74 1 rfl ?_
    (conv=>whnf);refine ⟨rfl,?_⟩
    refine RW.nil ?_
    refine CW.keep 74 [1,4,48,49,50] rfl ?_;(conv=>whnf);refine ⟨?_⟩
    refine CW.region ?_
    refine RW.v rfl (V.inc rfl rfl rfl hii hl1) ?_
    refine RW.k XK 74 1 rfl ?_
    (conv=>whnf);refine ⟨rfl,?_⟩
    refine RW.nil ?_
    exact ⟨(i + 1, _), by simp only []; omega, ⟨hii, by rw [entsB_snoc hei, ← hP.eq, shTs1, shT_in (by have h9 := entT_size 1 ei; omega)]⟩, rfl, Le.c rfl <| Le.c rfl <| Le.c rfl <| Le.c rfl <| Le.c rfl <| Le.e⟩
   ·skip
    have hii : m.entries.length ≤ i := by have := h7; simp at this; first | exact this | omega | (simp; done) | (simp; omega)
    have hdi : m.entries.drop i = [] := List.drop_eq_nil_of_le hii
    refine CW.exit ?_
    refine CW.keep 74 [1,4] rfl ?_;(conv=>whnf);refine ⟨?_⟩
    refine CW.anyJ2 (fc := []) (L0 := []) 74 (fun (zz : Value × (Nat → Nat → Value) × (Nat → Nat → Value)) => match zz with | (Xo12_6_1, go12_3_1, go12_7_1) => [(2, S (s ++ (shTs ([(byT m.conf), m.data] : List ByteArray)))), (3, Bo true)]) (fun all hall f hf b0 hb K hK => ?_) ?_
    ·skip
     have ro12_3 : ∀ B, ∀ (Xo12_6_1 : Value), ∀ (go12_3_1 : Nat → Nat → Value), ∀ (go12_7_1 : Nat → Nat → Value), RA f E B all 0 (bt 11 2047) ⟨74, [(2, S (s ++ (shTs ([(byT m.conf), m.data] : List ByteArray)))), (3, Bo true)] ++ b0⟩ K := by
      intro B Xo12_6_1 go12_3_1 go12_7_1
      exact RA.of2 hall hf hb (RA.finH (Tell.of rfl) (by kernel_rfl) (hK (Xo12_6_1, go12_3_1, go12_7_1) _ rfl (Le.of rfl)))
     have ro12_2 : ∀ B, ∀ (Xo12_6_1 : Value), ∀ (go12_3_1 : Nat → Nat → Value), RA f E B all 4 (bt 11 127) ⟨74, [(65, S s), (71, .w (sl 1 cS ([(byT m.conf), m.data] : List ByteArray)) Xo12_6_1)] ++ b0⟩ K := by
      intro B Xo12_6_1 go12_3_1
      refine RA.of2 hall hf hb (RA.stepH (L := [7]) (Tell.of rfl) (by kernel_rfl) (by simp) (RA.each ?_ (RA.each0)))
      ·skip
       refine RO.callOwn rfl rfl (impl_shortTexts_fn ([(byT m.conf), m.data] : List ByteArray) (Nat.le_of_ble_eq_true rfl)) rfl (.cons (.one (.r (.al (k := none) (i := 71) (sz := 1) (V := Xo12_6_1) rfl rfl nofun))) (.nil)) rfl rfl fun go12_7_1 => ?_
       refine RA.first (i := 8) (ls' := (bt 11 511)) (Tell.of rfl) (by kernel_rfl) rfl rfl rfl (VF.p (V.cat rfl rfl rfl (by have msz := MSz.of hmo; have zd := msz.d; have zn := msz.n; have z1 := varTs_size [m.term_, m.index, m.logTerm, m.commit]; have z2 := byT_size [m.kind, m.from_, m.to]; have z3 := byT_size [flagI m.ok, flagI m.last]; have z4 := varTs_size [(m.entries.length : Int)]; simp only [List.length_cons, List.length_nil] at z1 z2 z3 z4; first | (simp only [ByteArray.size_append, maxLen]; omega) | (have h9 := hP.size msz; have h8 := entT_size 1 ei; have h7 := shTs_size [(entT 1 ei).1]; simp only [List.length_cons, List.length_nil] at h7; simp only [maxLen]; omega) | (have h9 := hP.size msz; have h7 := shTs_size [byT m.conf, m.data]; simp only [List.length_cons, List.length_nil] at h7; simp only [maxLen]; omega)))) ?_
       refine RA.fr XK 74 0 [9,10] (bt 11 2047) rfl rfl (by kernel_rfl) (Tell.of rfl) ?_
       (conv=>whnf);refine ⟨rfl,fun B=>?_⟩
       exact RA.to2 hall hf hb (ro12_3 B Xo12_6_1 go12_3_1 go12_7_1) rfl rfl (by kernel_rfl)
     have ro12_1 : ∀ B, ∀ (go12_3_1 : Nat → Nat → Value), RA f E B all 5 (bt 11 63) ⟨74, [(65, S s), (68, S (byT m.conf)), (70, S m.data)] ++ b0⟩ K := by
      intro B go12_3_1
      refine RA.of2 hall hf hb (RA.stepH (L := [6]) (Tell.of rfl) (by kernel_rfl) (by simp) (RA.each ?_ (RA.each0)))
      ·skip
       refine RO.buildV (c := cS) (L := [(byT m.conf), m.data]) (vs := [(.string (byT m.conf)), (.string m.data)]) [.tmp 68, .tmp 70] rfl rfl rfl rfl rfl rfl rfl rfl rfl rfl rfl rfl (by decide) (by decide) rfl rfl fun Xo12_6_1 => ?_
       exact RA.to2 hall hf hb (ro12_2 B Xo12_6_1 go12_3_1) rfl rfl (by kernel_rfl)
     have ro12_0 : ∀ B, RA f E B all 6 (bt 11 55) ⟨74, [(65, S s), (67, .r (sl 1 cI m.conf)), (70, S m.data)] ++ b0⟩ K := by
      intro B
      refine RA.of2 hall hf hb (RA.stepH (L := [3]) (Tell.of rfl) (by kernel_rfl) (by simp) (RA.each ?_ (RA.each0)))
      ·skip
       refine RO.call rfl rfl (impl_byteTexts_fn m.conf hok.2.1.1) rfl (.cons (.one (.r .r)) (.nil)) rfl fun go12_3_1 => ?_
       exact RA.to2 hall hf hb (ro12_1 B go12_3_1) rfl rfl (by kernel_rfl)
     refine RA.start (by kernel_rfl) (by kernel_rfl) (m := 11) (ls' := (bt 11 0)) ?_
     refine RA.fr XK 74 6 [0,1,2,4,5] (bt 11 55) rfl rfl (by kernel_rfl) (Tell.of rfl) ?_
     (conv=>whnf);refine ⟨rfl,fun B=>?_⟩
     exact RA.to2 hall hf hb (ro12_0 B) rfl rfl (by kernel_rfl)
    ·rintro ⟨Xo12_6_1, go12_3_1, go12_7_1⟩
     refine CW.ret ?_
     exact Post.tup (by decide) (RVs.c (RV.s rfl (by rw [msgT_yes hmo hP hii, shTs2, conf_byT hmo, shT_in (by have h9 := confText_size (l := m.conf); omega), shT_in (by have h9 := msz.d; omega), ← ByteArray.append_assoc])) (RVs.c (RV.b rfl (by rw [msgT_yes hmo hP hii])) RVs.e)) (AOs.a rfl AOs.e)
set_option maxHeartbeats 4000000 in
theorem laws_big_fn (c : List Int) : Eng.Fn E.P 10 [.one (.r (sl 1 cU c))] (.one (.one (.w (.v (.bool (decide ((c.length : Int) > 1048576))))))) [.one (.r (sl 1 cU c))] := by
 refine Eng.Fn.intro (E := E) (rvs := [.tmp 2]) Try.func10 rfl rfl rfl (by simp [outSlots, moved, rvSlot, sl]) ?_
 intro B g bo
 refine CW.bound (x := .tmp 0) (n := c.length) (AsT.r) (fun hl0 => ?_)
 refine CW.keep 6 [0] rfl ?_;(conv=>whnf);refine ⟨?_⟩
 refine CW.k XK 6 2 [2] rfl ?_
 (conv=>whnf);refine ⟨rfl,?_⟩
 refine CW.ret ?_
 exact Post.one (RV.b rfl (by rfl)) (AOs.r AOs.e)
set_option maxHeartbeats 4000000 in
theorem laws_sameInts_fn (a : List Int) (b : List Int) : Eng.Fn E.P 52 [.one (.r (sl 1 cI a)), .one (.r (sl 1 cI b))] (.one (.one (.w (.v (.bool (eqS eqI a b)))))) [.one (.r (sl 1 cI a)), .one (.r (sl 1 cI b))] := by
 refine Eng.Fn.intro (E := E) (rvs := [.tmp 4]) Try.func52 rfl rfl rfl (by simp [outSlots, moved, rvSlot, sl]) ?_
 intro B g bo
 refine CW.bound (x := .tmp 0) (n := a.length) (AsT.r) (fun hl0 => ?_)
 refine CW.bound (x := .tmp 1) (n := b.length) (AsT.r) (fun hl1 => ?_)
 refine CW.keep 26 [0,1] rfl ?_;(conv=>whnf);refine ⟨?_⟩
 refine CW.k XK 26 1 [0,1] rfl ?_
 (conv=>whnf);refine ⟨rfl,?_⟩
 refine CW.seq ?_
 refine CW.k XK 26 1 [0,1,10] rfl ?_
 (conv=>whnf);refine ⟨rfl,?_⟩
 refine CW.cond rfl (fun h1 => ?_) (fun h1 => ?_)
 ·skip
  refine CW.k XK 26 1 [4] rfl ?_
  (conv=>whnf);refine ⟨rfl,?_⟩
  refine CW.ret ?_
  exact Post.one (RV.b rfl (by exact (eqS_ne (by have := h1; simp at this; omega)).symm)) (AOs.r (AOs.r AOs.e))
 ·skip
  refine CW.skip ?_
  refine CW.keep 26 [0,1] rfl ?_;(conv=>whnf);refine ⟨?_⟩
  refine CW.seq ?_
  refine CW.k XK 26 1 [0,1,5] rfl ?_
  (conv=>whnf);refine ⟨rfl,?_⟩
  refine CW.block ?_
  refine CW.loopI 26 (fun (i : Nat) => [(0, .r (sl 1 cI a)), (1, .r (sl 1 cI b)), (5, I (i : Int))]) (fun (i : Nat) => i ≤ a.length ∧ eqS eqI (a.drop i) (b.drop i) = eqS eqI a b) (fun (i : Nat) => a.length - i) 0 rfl (Le.c rfl <| Le.c rfl <| Le.c rfl <| Le.e) ⟨by omega, by simp⟩ ?_
  rintro i ⟨hb, hr⟩
  have hlen : a.length = b.length := by simp at h1; omega
  refine CW.seq ?_
  refine CW.k XK 26 1 [0,1,5,14] rfl ?_
  (conv=>whnf);refine ⟨rfl,?_⟩
  refine CW.cond rfl (fun h2 => ?_) (fun h2 => ?_)
  ·skip
   have hii : i < a.length := by have := h2; simp at this; first | exact this | omega | (simp; done) | (simp; omega)
   obtain ⟨ei, hei⟩ : ∃ e, a[i]? = some e := ⟨_, List.getElem?_eq_getElem hii⟩
   have hdi := drop_get hei
   have hib : i < b.length := by omega
   obtain ⟨eb, heb⟩ : ∃ e, b[i]? = some e := ⟨_, List.getElem?_eq_getElem hib⟩
   have hdb := drop_get heb
   refine CW.skip ?_
   refine CW.keep 26 [0,1,5] rfl ?_;(conv=>whnf);refine ⟨?_⟩
   refine CW.seq ?_
   refine CW.block ?_
   refine CW.seq ?_
   refine CW.drawn (by kernel_rfl) ?_
   refine RQ.k XK 26 2 rfl ?_
   (conv=>whnf);refine ⟨rfl,?_⟩
   refine RQ.v rfl (V.indexS rfl rfl rfl rfl rfl rfl cI.len hei) ?_
   refine RQ.k XK 26 3 rfl ?_
   (conv=>whnf);refine ⟨rfl,?_⟩
   refine RQ.v rfl (V.indexS rfl rfl rfl rfl rfl rfl cI.len heb) ?_
   refine RQ.k XK 26 2 rfl ?_
   (conv=>whnf);refine ⟨rfl,?_⟩
   refine RQ.nil ?_
   refine CW.keep 26 [0,1,5,25] rfl ?_;(conv=>whnf);refine ⟨?_⟩
   refine CW.cond rfl (fun h3 => ?_) (fun h3 => ?_)
   ·skip
    refine CW.k XK 26 1 [4] rfl ?_
    (conv=>whnf);refine ⟨rfl,?_⟩
    refine CW.ret ?_
    exact Post.one (RV.b rfl (by rw [← hr, hdi, hdb]; simp_all [eqS, eqI])) (AOs.r (AOs.r AOs.e))
   ·skip
    refine CW.skip ?_
    refine CW.keep 26 [0,1,5] rfl ?_;(conv=>whnf);refine ⟨?_⟩
    refine CW.region ?_
    refine RW.k XK 26 1 rfl ?_
    (conv=>whnf);refine ⟨rfl,?_⟩
    refine RW.v rfl (V.inc rfl rfl rfl hii hl0) ?_
    refine RW.k XK 26 1 rfl ?_
    (conv=>whnf);refine ⟨rfl,?_⟩
    refine RW.nil ?_
    exact ⟨i + 1, by omega, ⟨by omega, by simp_all [eqS, eqI]⟩, rfl, Le.c rfl <| Le.c rfl <| Le.c rfl <| Le.e⟩
  ·skip
   have hii : a.length ≤ i := by have := h2; simp at this; first | exact this | omega | (simp; done) | (simp; omega)
   have hdi : a.drop i = [] := List.drop_eq_nil_of_le hii
   refine CW.exit ?_
   refine CW.keep 26 [] rfl ?_;(conv=>whnf);refine ⟨?_⟩
   refine CW.k XK 26 1 [4] rfl ?_
   (conv=>whnf);refine ⟨rfl,?_⟩
   refine CW.ret ?_
   exact Post.one (RV.b rfl (by rw [← hr, hdi, List.drop_eq_nil_of_le (show b.length ≤ i by omega)]; rfl)) (AOs.r (AOs.r AOs.e))
set_option maxHeartbeats 4000000 in
theorem laws_sameMessage_fn (a : Message) (b : Message) (hok : okToMessage a) : Eng.Fn E.P 15 [.agg ((Message.c a).map .r), .agg ((Message.c b).map .r)] (.one (.one (.w (.v (.bool (sameM a b)))))) [.agg ((Message.c a).map .r), .agg ((Message.c b).map .r)] := by
 refine Eng.Fn.intro (E := E) (rvs := [.tmp 4]) Try.func15 rfl rfl rfl (by simp [outSlots, moved, rvSlot, sl]) ?_
 intro B g bo
 refine CW.keep 107 [0,1] rfl ?_;(conv=>whnf);refine ⟨?_⟩
 have hl1 : a.entries.length ≤ maxLen := by have := hok.1.1; simp only [maxLen]; omega
 refine CW.seq ?_
 refine CW.region ?_
 refine RW.k XK 107 1 rfl ?_
 (conv=>whnf);intro b1;(conv=>whnf);refine ⟨rfl,?_⟩
 refine RW.freezeB (ts := (Message.c a)) 2 rfl (DRd.r (DRd.r (DRd.r (DRd.r (DRd.r (DRd.r (DRd.r (DRd.r (DRd.r (DRd.r (DRd.r (DRd.r DRd.e)))))))))))) ?_
 refine RW.k XK 107 1 rfl ?_
 (conv=>whnf);intro b2;(conv=>whnf);refine ⟨rfl,?_⟩
 refine RW.freezeB (ts := (Message.c b)) 3 rfl (DRd.r (DRd.r (DRd.r (DRd.r (DRd.r (DRd.r (DRd.r (DRd.r (DRd.r (DRd.r (DRd.r (DRd.r DRd.e)))))))))))) ?_
 refine RW.k XK 107 1 rfl ?_
 (conv=>whnf);refine ⟨rfl,?_⟩
 refine RW.nil ?_
 refine CW.keep 107 [2,3] rfl ?_;(conv=>whnf);refine ⟨?_⟩
 refine CW.seq ?_
 refine CW.seqJ 107 (fun (v3 : Bool) => [(2, .rp (Message.c a)), (3, .rp (Message.c b)), (20, Bo v3)]) (fun v3 => v3 = (((a.entries.length : Int) != (b.entries.length : Int)) || (!(eqS eqI a.conf b.conf)))) ?_ ?_
 ·refine CW.region ?_
  refine RW.k XK 107 8 rfl ?_
  (conv=>whnf);refine ⟨rfl,?_⟩
  refine RW.gv rfl rfl rfl rfl (fun h4 => V.fieldR rfl rfl rfl rfl (by decide) rfl (Nat.le_of_ble_eq_true rfl)) (fun h4 => ?_) (fun h4 => ?_)
  ·skip
   refine RW.k XK 107 3 rfl ?_
   (conv=>whnf);refine ⟨rfl,?_⟩
   refine RW.gcall rfl rfl rfl rfl (laws_sameInts_fn a.conf b.conf) rfl (.cons (.one (.r .r)) (.cons (.one (.r .r)) (.nil))) fun g5 => ?_
   refine RW.k XK 107 2 rfl ?_
   (conv=>whnf);refine ⟨rfl,?_⟩
   refine RW.nil ?_
   exact ⟨_, by first | rfl | (simp_all; done) | (simp_all; omega) | grind, rfl, Le.of rfl⟩
  ·skip
   refine RW.k XK 107 6 rfl ?_
   (conv=>whnf);refine ⟨rfl,?_⟩
   refine RW.nil ?_
   exact ⟨_, by first | rfl | (simp_all; done) | (simp_all; omega) | grind, rfl, Le.of rfl⟩
 ·intro v3 hv6
  refine CW.cond rfl (fun h7 => ?_) (fun h7 => ?_)
  ·skip
   have hvv : sameL a b = true := hv6.symm.trans h7
   refine CW.k XK 107 1 [4] rfl ?_
   (conv=>whnf);refine ⟨rfl,?_⟩
   refine CW.ret ?_
   exact Post.one (RV.b rfl (by exact (sameM_ne hvv).symm)) (AOs.a rfl (AOs.a rfl AOs.e))
  ·skip
   have hvv : sameL a b = false := hv6.symm.trans h7
   have hlen := sameL_len hvv
   refine CW.skip ?_
   refine CW.keep 107 [2,3] rfl ?_;(conv=>whnf);refine ⟨?_⟩
   refine CW.seq ?_
   refine CW.k XK 107 1 [2,3,5] rfl ?_
   (conv=>whnf);refine ⟨rfl,?_⟩
   refine CW.block ?_
   refine CW.loopI 107 (fun (i : Nat) => [(2, .rp (Message.c a)), (3, .rp (Message.c b)), (5, I (i : Int))]) (fun (i : Nat) => i ≤ a.entries.length ∧ eqS eqEntry (a.entries.drop i) (b.entries.drop i) = eqS eqEntry a.entries b.entries) (fun (i : Nat) => a.entries.length - i) 0 rfl (Le.c rfl <| Le.c rfl <| Le.c rfl <| Le.e) ⟨by omega, rfl⟩ ?_
   rintro i ⟨hb, hr⟩
   refine CW.seq ?_
   refine CW.k XK 107 1 [2,3,5,25] rfl ?_
   (conv=>whnf);refine ⟨rfl,?_⟩
   refine CW.cond rfl (fun h8 => ?_) (fun h8 => ?_)
   ·skip
    have hii : i < a.entries.length := by have := h8; simp at this; first | exact this | omega | (simp; done) | (simp; omega)
    obtain ⟨ei, hei⟩ : ∃ e, a.entries[i]? = some e := ⟨_, List.getElem?_eq_getElem hii⟩
    have hdi := drop_get hei
    obtain ⟨fi, hfi⟩ : ∃ e, b.entries[i]? = some e := ⟨_, List.getElem?_eq_getElem (by omega)⟩
    refine CW.skip ?_
    refine CW.keep 107 [2,3,5] rfl ?_;(conv=>whnf);refine ⟨?_⟩
    refine CW.seq ?_
    refine CW.block ?_
    refine CW.seq ?_
    refine CW.drawn (by kernel_rfl) ?_
    refine RQ.k XK 107 3 rfl ?_
    (conv=>whnf);refine ⟨rfl,?_⟩
    refine RQ.v rfl (V.indexS rfl rfl rfl rfl rfl rfl Entry.len hei) ?_
    refine RQ.k XK 107 4 rfl ?_
    (conv=>whnf);refine ⟨rfl,?_⟩
    refine RQ.v rfl (V.indexS rfl rfl rfl rfl rfl rfl Entry.len hfi) ?_
    refine RQ.k XK 107 1 rfl ?_
    (conv=>whnf);refine ⟨rfl,?_⟩
    refine RQ.v rfl (V.eqAgg (xs := Entry.vs ei) (ys := Entry.vs fi) rfl rfl rfl (by kernel_rfl) (eq44 ei fi) (.inr ⟨rfl, rfl⟩)) ?_
    refine RQ.nil ?_
    refine CW.keep 107 [2,3,5,38] rfl ?_;(conv=>whnf);refine ⟨?_⟩
    refine CW.cond rfl (fun h9 => ?_) (fun h9 => ?_)
    ·skip
     have he9 := h9
     refine CW.k XK 107 1 [4] rfl ?_
     (conv=>whnf);refine ⟨rfl,?_⟩
     refine CW.ret ?_
     exact Post.one (RV.b rfl (by exact (sameM_el hvv (by rw [← hr, eqE_step hei hfi, if_neg (by simpa using he9)])).symm)) (AOs.a rfl (AOs.a rfl AOs.e))
    ·skip
     have he9 := h9
     refine CW.skip ?_
     refine CW.keep 107 [2,3,5] rfl ?_;(conv=>whnf);refine ⟨?_⟩
     refine CW.region ?_
     refine RW.k XK 107 1 rfl ?_
     (conv=>whnf);refine ⟨rfl,?_⟩
     refine RW.v rfl (V.inc rfl rfl rfl hii hl1) ?_
     refine RW.k XK 107 1 rfl ?_
     (conv=>whnf);refine ⟨rfl,?_⟩
     refine RW.nil ?_
     exact ⟨i + 1, by omega, ⟨by omega, by rw [← hr, eqE_step hei hfi, if_pos (by simpa using he9)]⟩, rfl, Le.c rfl <| Le.c rfl <| Le.c rfl <| Le.e⟩
   ·skip
    have hii : a.entries.length ≤ i := by have := h8; simp at this; first | exact this | omega | (simp; done) | (simp; omega)
    have hdi : a.entries.drop i = [] := List.drop_eq_nil_of_le hii
    have heq : eqS eqEntry a.entries b.entries = true := by rw [← hr]; exact eqE_end hii hlen
    refine CW.exit ?_
    refine CW.keep 107 [2,3] rfl ?_;(conv=>whnf);refine ⟨?_⟩
    refine CW.seqJ 107 (fun (v10 : Bool) => [(4, Bo v10)]) (fun v10 => v10 = ((((((((((a.kind == b.kind) && (a.from_ == b.from_)) && (a.to == b.to)) && (a.term_ == b.term_)) && (a.index == b.index)) && (a.logTerm == b.logTerm)) && (a.commit == b.commit)) && (a.ok == b.ok)) && (a.data.toList == b.data.toList)) && (a.last == b.last))) ?_ ?_
    ·refine CW.region ?_
     refine RW.k XK 107 6 rfl ?_
     (conv=>whnf);refine ⟨rfl,?_⟩
     refine RW.gv rfl rfl rfl rfl (fun h11 => V.fieldR rfl rfl rfl rfl (by decide) rfl (Nat.le_of_ble_eq_true rfl)) (fun h11 => ?_) (fun h11 => ?_)
     ·skip
      refine RW.k XK 107 6 rfl ?_
      (conv=>whnf);refine ⟨rfl,?_⟩
      refine RW.gv rfl rfl rfl rfl (fun h12 => V.fieldR rfl rfl rfl rfl (by decide) rfl (Nat.le_of_ble_eq_true rfl)) (fun h12 => ?_) (fun h12 => ?_)
      ·skip
       refine RW.k XK 107 6 rfl ?_
       (conv=>whnf);refine ⟨rfl,?_⟩
       refine RW.gv rfl rfl rfl rfl (fun h13 => V.fieldR rfl rfl rfl rfl (by decide) rfl (Nat.le_of_ble_eq_true rfl)) (fun h13 => ?_) (fun h13 => ?_)
       ·skip
        refine RW.k XK 107 6 rfl ?_
        (conv=>whnf);refine ⟨rfl,?_⟩
        refine RW.gv rfl rfl rfl rfl (fun h14 => V.fieldR rfl rfl rfl rfl (by decide) rfl (Nat.le_of_ble_eq_true rfl)) (fun h14 => ?_) (fun h14 => ?_)
        ·skip
         refine RW.k XK 107 6 rfl ?_
         (conv=>whnf);refine ⟨rfl,?_⟩
         refine RW.gv rfl rfl rfl rfl (fun h15 => V.fieldR rfl rfl rfl rfl (by decide) rfl (Nat.le_of_ble_eq_true rfl)) (fun h15 => ?_) (fun h15 => ?_)
         ·skip
          refine RW.k XK 107 6 rfl ?_
          (conv=>whnf);refine ⟨rfl,?_⟩
          refine RW.gv rfl rfl rfl rfl (fun h16 => V.fieldR rfl rfl rfl rfl (by decide) rfl (Nat.le_of_ble_eq_true rfl)) (fun h16 => ?_) (fun h16 => ?_)
          ·skip
           refine RW.k XK 107 6 rfl ?_
           (conv=>whnf);refine ⟨rfl,?_⟩
           refine RW.gv rfl rfl rfl rfl (fun h17 => V.fieldR rfl rfl rfl rfl (by decide) rfl (Nat.le_of_ble_eq_true rfl)) (fun h17 => ?_) (fun h17 => ?_)
           ·skip
            refine RW.k XK 107 3 rfl ?_
            (conv=>whnf);refine ⟨rfl,?_⟩
            refine RW.gt rfl rfl rfl rfl (V.eqBool rfl rfl rfl (by kernel_rfl) (.inl ⟨rfl, rfl⟩)) ?_
            refine RW.k XK 107 2 rfl ?_
            (conv=>whnf);refine ⟨rfl,?_⟩
            refine RW.gv rfl rfl rfl rfl (fun h18 => V.fieldR rfl rfl rfl rfl (by decide) rfl (Nat.le_of_ble_eq_true rfl)) (fun h18 => ?_) (fun h18 => ?_)
            ·skip
             refine RW.k XK 107 6 rfl ?_
             (conv=>whnf);refine ⟨rfl,?_⟩
             refine RW.gv rfl rfl rfl rfl (fun h19 => V.fieldR rfl rfl rfl rfl (by decide) rfl (Nat.le_of_ble_eq_true rfl)) (fun h19 => ?_) (fun h19 => ?_)
             ·skip
              refine RW.k XK 107 3 rfl ?_
              (conv=>whnf);refine ⟨rfl,?_⟩
              refine RW.gt rfl rfl rfl rfl (V.eqBool rfl rfl rfl (by kernel_rfl) (.inl ⟨rfl, rfl⟩)) ?_
              refine RW.k XK 107 2 rfl ?_
              (conv=>whnf);refine ⟨rfl,?_⟩
              refine RW.nil ?_
              exact ⟨_, by first | rfl | (simp_all; done) | (simp_all; omega) | grind, rfl, Le.of rfl⟩
             ·skip
              refine RW.k XK 107 6 rfl ?_
              (conv=>whnf);refine ⟨rfl,?_⟩
              refine RW.nil ?_
              exact ⟨_, by first | rfl | (simp_all; done) | (simp_all; omega) | grind, rfl, Le.of rfl⟩
            ·skip
             refine RW.k XK 107 13 rfl ?_
             (conv=>whnf);refine ⟨rfl,?_⟩
             refine RW.nil ?_
             exact ⟨_, by first | rfl | (simp_all; done) | (simp_all; omega) | grind, rfl, Le.of rfl⟩
           ·skip
            refine RW.k XK 107 20 rfl ?_
            (conv=>whnf);refine ⟨rfl,?_⟩
            refine RW.nil ?_
            exact ⟨_, by first | rfl | (simp_all; done) | (simp_all; omega) | grind, rfl, Le.of rfl⟩
          ·skip
           refine RW.k XK 107 27 rfl ?_
           (conv=>whnf);refine ⟨rfl,?_⟩
           refine RW.nil ?_
           exact ⟨_, by first | rfl | (simp_all; done) | (simp_all; omega) | grind, rfl, Le.of rfl⟩
         ·skip
          refine RW.k XK 107 34 rfl ?_
          (conv=>whnf);refine ⟨rfl,?_⟩
          refine RW.nil ?_
          exact ⟨_, by first | rfl | (simp_all; done) | (simp_all; omega) | grind, rfl, Le.of rfl⟩
        ·skip
         refine RW.k XK 107 41 rfl ?_
         (conv=>whnf);refine ⟨rfl,?_⟩
         refine RW.nil ?_
         exact ⟨_, by first | rfl | (simp_all; done) | (simp_all; omega) | grind, rfl, Le.of rfl⟩
       ·skip
        refine RW.k XK 107 48 rfl ?_
        (conv=>whnf);refine ⟨rfl,?_⟩
        refine RW.nil ?_
        exact ⟨_, by first | rfl | (simp_all; done) | (simp_all; omega) | grind, rfl, Le.of rfl⟩
      ·skip
       refine RW.k XK 107 55 rfl ?_
       (conv=>whnf);refine ⟨rfl,?_⟩
       refine RW.nil ?_
       exact ⟨_, by first | rfl | (simp_all; done) | (simp_all; omega) | grind, rfl, Le.of rfl⟩
     ·skip
      refine RW.k XK 107 62 rfl ?_
      (conv=>whnf);refine ⟨rfl,?_⟩
      refine RW.nil ?_
      exact ⟨_, by first | rfl | (simp_all; done) | (simp_all; omega) | grind, rfl, Le.of rfl⟩
    ·intro v10 hv20
     refine CW.ret ?_
     exact Post.one (RV.b rfl (by rw [sameM_f hvv heq]; assumption)) (AOs.a rfl (AOs.a rfl AOs.e))
set_option maxHeartbeats 4000000 in
theorem laws_FnMessages_fn (code : List Int) : Eng.Fn E.P 4 [.one (.r (sl 1 cU code))] (.one (.one (.w (.v (.bool true))))) [.one (.r (sl 1 cU code))] := by
 refine Eng.Fn.intro (E := E) (rvs := [.tmp 2]) Try.func4 rfl rfl rfl (by simp [outSlots, moved, rvSlot, sl]) ?_
 intro B g bo
 refine CW.bound (x := .tmp 0) (n := code.length) (AsT.r) (fun hl0 => ?_)
 refine CW.keep 81 [0] rfl ?_;(conv=>whnf);refine ⟨?_⟩
 refine CW.k XK 81 1 [0] rfl ?_
 (conv=>whnf);refine ⟨rfl,?_⟩
 refine CW.seq ?_
 refine CW.seq ?_
 refine CW.region ?_
 refine RW.k XK 81 1 rfl ?_
 (conv=>whnf);refine ⟨rfl,?_⟩
 refine RW.call rfl (laws_big_fn code) rfl (.cons (.one (.r .r)) (.nil)) fun g1 => ?_
 refine RW.nil ?_
 refine CW.keep 81 [0,16] rfl ?_;(conv=>whnf);refine ⟨?_⟩
 refine CW.cond rfl (fun h2 => ?_) (fun h2 => ?_)
 ·skip
  refine CW.k XK 81 1 [2] rfl ?_
  (conv=>whnf);refine ⟨rfl,?_⟩
  refine CW.ret ?_
  exact Post.one (RV.b rfl (by rfl)) (AOs.r AOs.e)
 ·skip
  refine CW.skip ?_
  refine CW.keep 81 [0] rfl ?_;(conv=>whnf);refine ⟨?_⟩
  refine CW.seq ?_
  refine CW.region ?_
  refine RW.k XK 81 1 rfl ?_
  (conv=>whnf);refine ⟨rfl,?_⟩
  refine RW.callX rfl (spec_DrawEncode_fn code) rfl (.cons (.one (.r .r)) (.nil)) fun y3 g4 => ?_
  refine RW.k XK 81 2 rfl ?_
  (conv=>whnf);intro b5;(conv=>whnf);refine ⟨rfl,?_⟩
  refine RW.keep 81 [0,3,18] rfl ?_;(conv=>whnf);refine ⟨?_⟩
  refine RW.pullA (k := 3) (l := 18) (j := 8) 3 18 8 rfl rfl rfl (by decide) rfl rfl rfl rfl ?_
  refine RW.keep 81 [0,3,18] rfl ?_;(conv=>whnf);refine ⟨?_⟩
  refine RW.pullA (k := 3) (l := 18) (j := 9) 3 18 9 rfl rfl rfl (by decide) rfl rfl rfl rfl ?_
  refine RW.keep 81 [0,3] rfl ?_;(conv=>whnf);refine ⟨?_⟩
  refine RW.nil ?_
  refine CW.keep 81 [0,3] rfl ?_;(conv=>whnf);refine ⟨?_⟩
  refine CW.seq ?_
  refine CW.region ?_
  refine RW.k XK 81 1 rfl ?_
  (conv=>whnf);refine ⟨rfl,?_⟩
  refine RW.callOwn rfl (impl_Encode_fn y3.1 (MD.to y3.2 (by omega))) rfl (.cons (.agg (.cons (.r .r) (.cons (.r .r) (.cons (.r .r) (.cons (.r .r) (.cons (.r .r) (.cons (.r .r) (.cons (.r .r) (.cons (.r .r) (.cons (.r (.alo (k := none) (i := 3) (j := 8) (sz := 3) (V := (g4 0 8)) rfl rfl rfl nofun)) (.cons (.r (.alo (k := none) (i := 3) (j := 9) (sz := 1) (V := (g4 0 9)) rfl rfl rfl nofun)) (.cons (.r .r) (.cons (.r .r) (.nil)))))))))))))) (.nil)) rfl fun g6 => ?_
  refine RW.k XK 81 5 rfl ?_
  (conv=>whnf);refine ⟨rfl,?_⟩
  refine RW.nil ?_
  refine CW.keep 81 [0,3,4,5] rfl ?_;(conv=>whnf);refine ⟨?_⟩
  refine CW.seq ?_
  refine CW.region ?_
  refine RW.k XK 81 1 rfl ?_
  (conv=>whnf);refine ⟨rfl,?_⟩
  refine RW.call rfl (impl_Decode_fn ((msgT y3.1).1) (Nat.le_trans (msgT_size _) (by omega))) rfl (.cons (.one (.r .r)) (.nil)) fun g7 => ?_
  refine RW.k XK 81 5 rfl ?_
  (conv=>whnf);intro b8;(conv=>whnf);refine ⟨rfl,?_⟩
  refine RW.keep 81 [0,3,5,6,27,28] rfl ?_;(conv=>whnf);refine ⟨?_⟩
  refine RW.pullA (k := 6) (l := 27) (j := 8) 6 27 8 rfl rfl rfl (by decide) rfl rfl rfl rfl ?_
  refine RW.keep 81 [0,3,5,6,27,28] rfl ?_;(conv=>whnf);refine ⟨?_⟩
  refine RW.pullA (k := 6) (l := 27) (j := 9) 6 27 9 rfl rfl rfl (by decide) rfl rfl rfl rfl ?_
  refine RW.keep 81 [0,3,5,6,28] rfl ?_;(conv=>whnf);refine ⟨?_⟩
  refine RW.k XK 81 1 rfl ?_
  (conv=>whnf);refine ⟨rfl,?_⟩
  refine RW.nil ?_
  refine CW.keep 81 [0,3,5,6,7] rfl ?_;(conv=>whnf);refine ⟨?_⟩
  refine CW.seq ?_
  refine CW.seqJ 81 (fun (v9 : Bool) => [(0, .r (sl 1 cU code)), (51, Bo v9)]) (fun v9 => v9 = (((!(((msgT y3.1).2) == (msgOk y3.1))) || (!((msgOk y3.1) == ((msgT y3.1).2)))) || (((msgT y3.1).2) && ((!((rdMsg ((msgT y3.1).1)).2)) || (!(sameM ((rdMsg ((msgT y3.1).1)).1) y3.1)))))) ?_ ?_
  ·refine CW.region ?_
   refine RW.k XK 81 2 rfl ?_
   (conv=>whnf);refine ⟨rfl,?_⟩
   refine RW.callOwn rfl (spec_MessageOk_fn y3.1 (MD.to y3.2 (by omega))) rfl (.cons (.agg (.cons (.r .r) (.cons (.r .r) (.cons (.r .r) (.cons (.r .r) (.cons (.r .r) (.cons (.r .r) (.cons (.r .r) (.cons (.r .r) (.cons (.r (.alo (k := none) (i := 3) (j := 8) (sz := 3) (V := (g4 0 8)) rfl rfl rfl nofun)) (.cons (.r (.alo (k := none) (i := 3) (j := 9) (sz := 1) (V := (g4 0 9)) rfl rfl rfl nofun)) (.cons (.r .r) (.cons (.r .r) (.nil)))))))))))))) (.nil)) rfl fun g10 => ?_
   refine RW.v rfl (V.eqBool rfl rfl rfl (by kernel_rfl) (.inr ⟨rfl, rfl⟩)) ?_
   refine RW.k XK 81 1 rfl ?_
   (conv=>whnf);refine ⟨rfl,?_⟩
   refine RW.gv rfl rfl rfl rfl (fun h11 => V.loadAgg rfl rfl rfl rfl rfl (Nat.le_of_ble_eq_true rfl)) (fun h11 => ?_) (fun h11 => ?_)
   ·skip
    refine RW.gcallOwn rfl rfl rfl rfl (impl_MessageOk_fn y3.1 (MD.to y3.2 (by omega))) rfl (.cons (.agg (.cons (.r .r) (.cons (.r .r) (.cons (.r .r) (.cons (.r .r) (.cons (.r .r) (.cons (.r .r) (.cons (.r .r) (.cons (.r .r) (.cons (.r (.alo (k := none) (i := 3) (j := 8) (sz := 3) (V := (g4 0 8)) rfl rfl rfl nofun)) (.cons (.r (.alo (k := none) (i := 3) (j := 9) (sz := 1) (V := (g4 0 9)) rfl rfl rfl nofun)) (.cons (.r .r) (.cons (.r .r) (.nil)))))))))))))) (.nil)) rfl fun g12 => ?_
    refine RW.k XK 81 1 rfl ?_
    (conv=>whnf);refine ⟨rfl,?_⟩
    refine RW.gt rfl rfl rfl rfl (V.eqBool rfl rfl rfl (by kernel_rfl) (.inr ⟨rfl, rfl⟩)) ?_
    refine RW.k XK 81 2 rfl ?_
    (conv=>whnf);refine ⟨rfl,?_⟩
    refine RW.gv rfl rfl rfl rfl (fun h13 => V.mv (d := Bo ((msgT y3.1).2)) rfl rfl) (fun h13 => ?_) (fun h13 => ?_)
    ·skip
     refine RW.k XK 81 1 rfl ?_
     (conv=>whnf);refine ⟨rfl,?_⟩
     refine RW.gv rfl rfl rfl rfl (fun h14 => V.mv (d := Bo ((rdMsg ((msgT y3.1).1)).2)) rfl rfl) (fun h14 => ?_) (fun h14 => ?_)
     ·skip
      refine RW.k XK 81 2 rfl ?_
      (conv=>whnf);refine ⟨rfl,?_⟩
      refine RW.gv rfl rfl rfl rfl (fun h15 => V.loadAgg rfl rfl rfl rfl rfl (Nat.le_of_ble_eq_true rfl)) (fun h15 => ?_) (fun h15 => ?_)
      ·skip
       refine RW.k XK 81 1 rfl ?_
       (conv=>whnf);refine ⟨rfl,?_⟩
       refine RW.gcallOwn rfl rfl rfl rfl (laws_sameMessage_fn ((rdMsg ((msgT y3.1).1)).1) y3.1 (rdMsg_ok (Nat.le_trans (msgT_size _) (by omega))).1) rfl (.cons (.agg (.cons (.r .r) (.cons (.r .r) (.cons (.r .r) (.cons (.r .r) (.cons (.r .r) (.cons (.r .r) (.cons (.r .r) (.cons (.r .r) (.cons (.r (.alo (k := none) (i := 6) (j := 8) (sz := 3) (V := (g7 0 8)) rfl rfl rfl nofun)) (.cons (.r (.alo (k := none) (i := 6) (j := 9) (sz := 1) (V := (g7 0 9)) rfl rfl rfl nofun)) (.cons (.r .r) (.cons (.r .r) (.nil)))))))))))))) (.cons (.agg (.cons (.r .r) (.cons (.r .r) (.cons (.r .r) (.cons (.r .r) (.cons (.r .r) (.cons (.r .r) (.cons (.r .r) (.cons (.r .r) (.cons (.r (.alo (k := none) (i := 3) (j := 8) (sz := 3) (V := (g4 0 8)) rfl rfl rfl nofun)) (.cons (.r (.alo (k := none) (i := 3) (j := 9) (sz := 1) (V := (g4 0 9)) rfl rfl rfl nofun)) (.cons (.r .r) (.cons (.r .r) (.nil)))))))))))))) (.nil))) rfl fun g16 => ?_
       refine RW.k XK 81 4 rfl ?_
       (conv=>whnf);refine ⟨rfl,?_⟩
       refine RW.nil ?_
       exact ⟨_, by first | rfl | (simp_all; done) | grind, rfl, Le.of rfl⟩
      ·skip
       refine RW.k XK 81 6 rfl ?_
       (conv=>whnf);refine ⟨rfl,?_⟩
       refine RW.nil ?_
       exact ⟨_, by first | rfl | (simp_all; done) | grind, rfl, Le.of rfl⟩
     ·skip
      refine RW.k XK 81 9 rfl ?_
      (conv=>whnf);refine ⟨rfl,?_⟩
      refine RW.nil ?_
      exact ⟨_, by first | rfl | (simp_all; done) | grind, rfl, Le.of rfl⟩
    ·skip
     refine RW.k XK 81 11 rfl ?_
     (conv=>whnf);refine ⟨rfl,?_⟩
     refine RW.nil ?_
     exact ⟨_, by first | rfl | (simp_all; done) | grind, rfl, Le.of rfl⟩
   ·skip
    refine RW.k XK 81 17 rfl ?_
    (conv=>whnf);refine ⟨rfl,?_⟩
    refine RW.nil ?_
    exact ⟨_, by first | rfl | (simp_all; done) | grind, rfl, Le.of rfl⟩
  ·intro v9 hv17
   refine CW.cond rfl (fun h18 => ?_) (fun h18 => ?_)
   ·skip
    have hvv := hv17.symm.trans h18
    refine CW.k XK 81 1 [2] rfl ?_
    (conv=>whnf);refine ⟨rfl,?_⟩
    refine CW.ret ?_
    exact Post.one (RV.b rfl (by exfalso; rw [law1] at hvv; cases hvv)) (AOs.r AOs.e)
   ·skip
    have hvv := hv17.symm.trans h18
    refine CW.skip ?_
    refine CW.keep 81 [0] rfl ?_;(conv=>whnf);refine ⟨?_⟩
    refine CW.seq ?_
    refine CW.region ?_
    refine RW.k XK 81 1 rfl ?_
    (conv=>whnf);refine ⟨rfl,?_⟩
    refine RW.callX rfl (spec_DrawDecode_fn code) rfl (.cons (.one (.r .r)) (.nil)) fun y19 g20 => ?_
    refine RW.k XK 81 1 rfl ?_
    (conv=>whnf);refine ⟨rfl,?_⟩
    refine RW.nil ?_
    refine CW.keep 81 [8] rfl ?_;(conv=>whnf);refine ⟨?_⟩
    refine CW.seq ?_
    refine CW.region ?_
    refine RW.k XK 81 1 rfl ?_
    (conv=>whnf);refine ⟨rfl,?_⟩
    refine RW.call rfl (impl_Decode_fn y19.1 (Nat.le_trans y19.2 (by omega))) rfl (.cons (.one (.r .r)) (.nil)) fun g21 => ?_
    refine RW.k XK 81 5 rfl ?_
    (conv=>whnf);intro b22;(conv=>whnf);refine ⟨rfl,?_⟩
    refine RW.keep 81 [8,9,57,58] rfl ?_;(conv=>whnf);refine ⟨?_⟩
    refine RW.pullA (k := 9) (l := 57) (j := 8) 9 57 8 rfl rfl rfl (by decide) rfl rfl rfl rfl ?_
    refine RW.keep 81 [8,9,57,58] rfl ?_;(conv=>whnf);refine ⟨?_⟩
    refine RW.pullA (k := 9) (l := 57) (j := 9) 9 57 9 rfl rfl rfl (by decide) rfl rfl rfl rfl ?_
    refine RW.keep 81 [8,9,58] rfl ?_;(conv=>whnf);refine ⟨?_⟩
    refine RW.k XK 81 1 rfl ?_
    (conv=>whnf);refine ⟨rfl,?_⟩
    refine RW.nil ?_
    refine CW.keep 81 [8,9,10] rfl ?_;(conv=>whnf);refine ⟨?_⟩
    refine CW.seq ?_
    refine CW.region ?_
    refine RW.k XK 81 1 rfl ?_
    (conv=>whnf);refine ⟨rfl,?_⟩
    refine RW.call rfl (spec_Decode_fn y19.1 (Nat.le_trans y19.2 (by omega))) rfl (.cons (.one (.r .r)) (.nil)) fun g23 => ?_
    refine RW.k XK 81 5 rfl ?_
    (conv=>whnf);intro b24;(conv=>whnf);refine ⟨rfl,?_⟩
    refine RW.freezeB (ts := (Message.c ((rdMsg y19.1).1))) 11 rfl (DRd.r (DRd.r (DRd.r (DRd.r (DRd.r (DRd.r (DRd.r (DRd.r (DRd.r (DRd.r (DRd.r (DRd.r DRd.e)))))))))))) ?_
    refine RW.k XK 81 1 rfl ?_
    (conv=>whnf);refine ⟨rfl,?_⟩
    refine RW.nil ?_
    refine CW.keep 81 [8,9,10,12] rfl ?_;(conv=>whnf);refine ⟨?_⟩
    refine CW.seq ?_
    refine CW.region ?_
    refine RW.k XK 81 1 rfl ?_
    (conv=>whnf);refine ⟨rfl,?_⟩
    refine RW.callOwn rfl (impl_Encode_fn ((rdMsg y19.1).1) (rdMsg_ok (Nat.le_trans y19.2 (by omega))).1) rfl (.cons (.agg (.cons (.r .r) (.cons (.r .r) (.cons (.r .r) (.cons (.r .r) (.cons (.r .r) (.cons (.r .r) (.cons (.r .r) (.cons (.r .r) (.cons (.r (.alo (k := none) (i := 9) (j := 8) (sz := 3) (V := (g21 0 8)) rfl rfl rfl nofun)) (.cons (.r (.alo (k := none) (i := 9) (j := 9) (sz := 1) (V := (g21 0 9)) rfl rfl rfl nofun)) (.cons (.r .r) (.cons (.r .r) (.nil)))))))))))))) (.nil)) rfl fun g25 => ?_
    refine RW.k XK 81 5 rfl ?_
    (conv=>whnf);refine ⟨rfl,?_⟩
    refine RW.nil ?_
    refine CW.keep 81 [8,10,12,13] rfl ?_;(conv=>whnf);refine ⟨?_⟩
    refine CW.seqJ 81 (fun (v26 : Bool) => [(2, Bo v26)]) (fun v26 => v26 = ((((rdMsg y19.1).2) == ((rdMsg y19.1).2)) && ((!((rdMsg y19.1).2)) || (((msgT ((rdMsg y19.1).1)).1).toList == y19.1.toList)))) ?_ ?_
    ·refine CW.region ?_
     refine RW.k XK 81 2 rfl ?_
     (conv=>whnf);refine ⟨rfl,?_⟩
     refine RW.v rfl (V.eqBool rfl rfl rfl (by kernel_rfl) (.inl ⟨rfl, rfl⟩)) ?_
     refine RW.k XK 81 1 rfl ?_
     (conv=>whnf);refine ⟨rfl,?_⟩
     refine RW.gv rfl rfl rfl rfl (fun h27 => V.mv (d := Bo ((rdMsg y19.1).2)) rfl rfl) (fun h27 => ?_) (fun h27 => ?_)
     ·skip
      refine RW.k XK 81 2 rfl ?_
      (conv=>whnf);refine ⟨rfl,?_⟩
      refine RW.gv rfl rfl rfl rfl (fun h28 => V.mv (d := S ((msgT ((rdMsg y19.1).1)).1)) rfl rfl) (fun h28 => ?_) (fun h28 => ?_)
      ·skip
       refine RW.k XK 81 5 rfl ?_
       (conv=>whnf);refine ⟨rfl,?_⟩
       refine RW.nil ?_
       exact ⟨_, by first | rfl | (simp_all; done) | grind, rfl, Le.of rfl⟩
      ·skip
       refine RW.k XK 81 5 rfl ?_
       (conv=>whnf);refine ⟨rfl,?_⟩
       refine RW.nil ?_
       exact ⟨_, by first | rfl | (simp_all; done) | grind, rfl, Le.of rfl⟩
     ·skip
      refine RW.k XK 81 8 rfl ?_
      (conv=>whnf);refine ⟨rfl,?_⟩
      refine RW.nil ?_
      exact ⟨_, by first | rfl | (simp_all; done) | grind, rfl, Le.of rfl⟩
    ·intro v26 hv29
     refine CW.ret ?_
     exact Post.one (RV.b rfl (by exact Eq.trans (by assumption) (law2 y19.2))) (AOs.r AOs.e)
end Go.Proofs.Ytmhnehgpmndiiaa.Y
