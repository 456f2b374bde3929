import Derived.Test.YtmhnehgpmndiiaaWMessagesD
namespace Go.Proofs.Ytmhnehgpmndiiaa.Y
open Go Go.RowKit Go.Eng Go.Proofs
set_option maxRecDepth 10000
set_option maxHeartbeats 4000000 in
theorem spec_l15Of_fn (c : l01Cur) (k : Keep) (hc : curOk c) (hk : k.items.length ≤ maxLen) : Eng.FnX E.P (α := Drw (fun _ : Command => True)) 87 [.ob ((l01Cur.c c).map .r), .agg ((Keep.c k).map .r)] (fun y => .one (.agg ((Command.c y.v).map .w))) (fun y => [.ob ((l01Cur.c y.d).map .r), .agg ((Keep.c k).map .r)]) := by
 refine Eng.FnX.intro (E := E) (rvs := [.cell 4 99]) Try.func87 rfl rfl rfl (by intro y; simp [outSlots, moved, rvSlot, sl]) ?_
 intro B g bo
 refine CW.keep 51 [0,1] rfl ?_;(conv=>whnf);refine ⟨?_⟩
 refine CW.seq ?_
 refine CW.region ?_
 refine RW.k XK 51 1 rfl ?_
 (conv=>whnf);intro b1;(conv=>whnf);refine ⟨rfl,?_⟩
 refine RW.freezeB (ts := (Keep.c k)) 3 rfl (DRd.r (DRd.r DRd.e)) ?_
 refine RW.k XK 51 1 rfl ?_
 (conv=>whnf);intro b2;(conv=>whnf);refine ⟨rfl,?_⟩
 refine RW.nil ?_
 refine CW.keep 51 [0,3,4] rfl ?_;(conv=>whnf);refine ⟨?_⟩
 refine CW.seq ?_
 refine CW.region ?_
 refine RW.k XK 51 1 rfl ?_
 (conv=>whnf);refine ⟨rfl,?_⟩
 refine RW.buildK (c := cI) (L := [2, 2, 2, 3, 3, 4, 5, 5]) (vs := [(.int .i64 2), (.int .i64 2), (.int .i64 2), (.int .i64 3), (.int .i64 3), (.int .i64 4), (.int .i64 5), (.int .i64 5)]) rfl rfl rfl rfl rfl (fun _ => rfl) rfl rfl rfl (by decide) (by decide) rfl rfl fun X3 => ?_
 refine RW.freeze 9 (d' := .r (sl 1 cI ([2, 2, 2, 3, 3, 4, 5, 5] : List Int))) rfl rfl ?_
 refine RW.callPX (k := 0) (spec_l01PickInt_fn c ([2, 2, 2, 3, 3, 4, 5, 5] : List Int) hc (Nat.le_of_ble_eq_true rfl)) rfl rfl (Nat.le_of_ble_eq_true rfl) (by decide) rfl (DT.r (DT.r (DT.r DT.e))) (AsPs.here (os := []) (outs := []) rfl (.cons (.one (.r .r)) (.nil))) (fun _ => AsPs.here rfl (.cons (.one (.r .r)) (.nil))) fun y4 g5 q6 => ?_
 refine RW.k XK 51 1 rfl ?_
 (conv=>whnf);refine ⟨rfl,?_⟩
 refine RW.buildK (c := cS) (L := [(⟨#[97]⟩ : ByteArray), (⟨#[98]⟩ : ByteArray), (⟨#[99]⟩ : ByteArray), (⟨#[114, 111, 111, 116]⟩ : ByteArray), (⟨#[120, 49]⟩ : ByteArray)]) (vs := [(.string (⟨#[97]⟩ : ByteArray)), (.string (⟨#[98]⟩ : ByteArray)), (.string (⟨#[99]⟩ : ByteArray)), (.string (⟨#[114, 111, 111, 116]⟩ : ByteArray)), (.string (⟨#[120, 49]⟩ : ByteArray))]) rfl rfl rfl rfl rfl (fun _ => rfl) rfl rfl rfl (by decide) (by decide) rfl rfl fun X7 => ?_
 refine RW.freeze 12 (d' := .r (sl 1 cS ([(⟨#[97]⟩ : ByteArray), (⟨#[98]⟩ : ByteArray), (⟨#[99]⟩ : ByteArray), (⟨#[114, 111, 111, 116]⟩ : ByteArray), (⟨#[120, 49]⟩ : ByteArray)] : List ByteArray))) rfl rfl ?_
 refine RW.callPX (k := 0) (spec_l01Pick_fn y4.d ([(⟨#[97]⟩ : ByteArray), (⟨#[98]⟩ : ByteArray), (⟨#[99]⟩ : ByteArray), (⟨#[114, 111, 111, 116]⟩ : ByteArray), (⟨#[120, 49]⟩ : ByteArray)] : List ByteArray) y4.hd (Nat.le_of_ble_eq_true rfl)) rfl rfl (Nat.le_of_ble_eq_true rfl) (by decide) rfl (DT.r (DT.r (DT.r DT.e))) (AsPs.here (os := []) (outs := []) rfl (.cons (.one (.r .r)) (.nil))) (fun _ => AsPs.here rfl (.cons (.one (.r .r)) (.nil))) fun y8 g9 q10 => ?_
 refine RW.k XK 51 3 rfl ?_
 (conv=>whnf);intro b11;(conv=>whnf);refine ⟨rfl,?_⟩
 refine RW.nil ?_
 refine CW.keep 51 [0,3,4,5] rfl ?_;(conv=>whnf);refine ⟨?_⟩
 refine CW.seq ?_
 refine CW.region ?_
 refine RW.k XK 51 3 rfl ?_
 (conv=>whnf);refine ⟨rfl,?_⟩
 refine RW.callX rfl (spec_ItemOf_fn k y8.v hk) rfl (.cons (.agg (.cons (.r .r) (.cons (.r .r) (.nil)))) (.cons (.one (.r .r)) (.nil))) fun y12 g13 => ?_
 refine RW.k XK 51 5 rfl ?_
 (conv=>whnf);intro b14;(conv=>whnf);refine ⟨rfl,?_⟩
 refine RW.freezeB (ts := (Item.c y12.1)) 6 rfl (DRd.r (DRd.r (DRd.r DRd.e))) ?_
 refine RW.k XK 51 1 rfl ?_
 (conv=>whnf);refine ⟨rfl,?_⟩
 refine RW.nil ?_
 refine CW.keep 51 [0,4,5,6,7] rfl ?_;(conv=>whnf);refine ⟨?_⟩
 refine CW.seq ?_
 refine CW.seqJ 51 (fun (v15 : Bool) => [(0, .obj (bo 0) ((l01Cur.c y8.d).map .r)), (4, .obj b2 [I 0, I 0, I 0, S (⟨#[]⟩), S (⟨#[]⟩), I 0]), (5, .obj b11 [I y4.v, I 0, I 0, S y8.v, S (⟨#[]⟩), I 0]), (6, .rp (Item.c y12.1)), (7, Bo y12.2), (29, Bo v15)]) (fun v15 => v15 = ((y4.v == 2) || (y4.v == 5))) ?_ ?_
 ·refine CW.region ?_
  refine RW.k XK 51 4 rfl ?_
  (conv=>whnf);refine ⟨rfl,?_⟩
  refine RW.gv rfl rfl rfl rfl (fun h16 => V.field rfl rfl rfl rfl (by decide) rfl) (fun h16 => ?_) (fun h16 => ?_)
  ·skip
   refine RW.k XK 51 3 rfl ?_
   (conv=>whnf);refine ⟨rfl,?_⟩
   refine RW.nil ?_
   exact ⟨_, by first | rfl | (simp_all; done) | (simp_all; omega) | grind, rfl, Le.of rfl⟩
  ·skip
   refine RW.k XK 51 3 rfl ?_
   (conv=>whnf);refine ⟨rfl,?_⟩
   refine RW.nil ?_
   exact ⟨_, by first | rfl | (simp_all; done) | (simp_all; omega) | grind, rfl, Le.of rfl⟩
 ·intro v15 hv17
  refine CW.cond rfl (fun h18 => ?_) (fun h18 => ?_)
  ·skip
   refine CW.region ?_
   refine RW.k XK 51 1 rfl ?_
   (conv=>whnf);refine ⟨rfl,?_⟩
   refine RW.buildK (c := cS) (L := [(⟨#[]⟩ : ByteArray), (⟨#[49]⟩ : ByteArray), (⟨#[116, 119, 111]⟩ : ByteArray), (⟨#[116, 104, 114, 101, 101]⟩ : ByteArray)]) (vs := [(.string (⟨#[]⟩ : ByteArray)), (.string (⟨#[49]⟩ : ByteArray)), (.string (⟨#[116, 119, 111]⟩ : ByteArray)), (.string (⟨#[116, 104, 114, 101, 101]⟩ : ByteArray))]) rfl rfl rfl rfl rfl (fun _ => rfl) rfl rfl rfl (by decide) (by decide) rfl rfl fun X19 => ?_
   refine RW.freeze 31 (d' := .r (sl 1 cS ([(⟨#[]⟩ : ByteArray), (⟨#[49]⟩ : ByteArray), (⟨#[116, 119, 111]⟩ : ByteArray), (⟨#[116, 104, 114, 101, 101]⟩ : ByteArray)] : List ByteArray))) rfl rfl ?_
   refine RW.callPX (k := 0) (spec_l01Pick_fn y8.d ([(⟨#[]⟩ : ByteArray), (⟨#[49]⟩ : ByteArray), (⟨#[116, 119, 111]⟩ : ByteArray), (⟨#[116, 104, 114, 101, 101]⟩ : ByteArray)] : List ByteArray) y8.hd (Nat.le_of_ble_eq_true rfl)) rfl rfl (Nat.le_of_ble_eq_true rfl) (by decide) rfl (DT.r (DT.r (DT.r DT.e))) (AsPs.here (os := []) (outs := []) rfl (.cons (.one (.r .r)) (.nil))) (fun _ => AsPs.here rfl (.cons (.one (.r .r)) (.nil))) fun y20 g21 q22 => ?_
   refine RW.k XK 51 2 rfl ?_
   (conv=>whnf);refine ⟨rfl,?_⟩
   refine RW.nil ?_
   refine CW.keep 51 [0,4,5,6,7] rfl ?_;(conv=>whnf);refine ⟨?_⟩
   refine CW.seq ?_
   refine CW.k XK 51 1 [0,4,5,6,7,36] rfl ?_
   (conv=>whnf);refine ⟨rfl,?_⟩
   refine CW.cond rfl (fun h23 => ?_) (fun h23 => ?_)
   ·skip
    refine CW.seq ?_
    refine CW.region ?_
    refine RW.k XK 51 1 rfl ?_
    (conv=>whnf);refine ⟨rfl,?_⟩
    refine RW.callPX (k := 0) (spec_l01Below_fn_dx y20.d 20 y20.hd) rfl rfl (Nat.le_of_ble_eq_true rfl) (by decide) rfl (DT.r (DT.r (DT.r DT.e))) (AsPs.here (os := []) (outs := []) rfl (.cons (.one (.r .r)) (.nil))) (fun _ => AsPs.here rfl (.cons (.one (.r .r)) (.nil))) fun y24 g25 q26 => ?_
    refine RW.k XK 51 3 rfl ?_
    (conv=>whnf);refine ⟨rfl,?_⟩
    refine RW.nil ?_
    refine CW.keep 51 [0,4,5,6,7] rfl ?_;(conv=>whnf);refine ⟨?_⟩
    refine CW.seq ?_
    refine CW.region ?_
    refine RW.k XK 51 2 rfl ?_
    (conv=>whnf);refine ⟨rfl,?_⟩
    refine RW.gv rfl rfl rfl rfl (fun h27 => V.mv (d := .pt 0 (bo 0) 0) rfl rfl) (fun h27 => ?_) (fun h27 => ?_)
    ·skip
     refine RW.gcallPX (k := 0) (spec_l01Once_fn y24.d 3 y24.hd) rfl rfl rfl rfl rfl (Nat.le_of_ble_eq_true rfl) (by decide) rfl (DT.r (DT.r (DT.r DT.e))) (AsPs.here (os := []) (outs := []) rfl (.cons (.one (.r .r)) (.nil))) (fun _ => AsPs.here rfl (.cons (.one (.r .r)) (.nil))) fun y28 g29 q30 => ?_
     refine RW.k XK 51 2 rfl ?_
     (conv=>whnf);refine ⟨rfl,?_⟩
     refine RW.nil ?_
     refine CW.keep 51 [0,4,5,6,46] rfl ?_;(conv=>whnf);refine ⟨?_⟩
     refine CW.cond rfl (fun h31 => ?_) (fun h31 => ?_)
     ·skip
      refine CW.region ?_
      refine RW.k XK 51 4 rfl ?_
      (conv=>whnf);refine ⟨rfl,?_⟩
      refine RW.nil ?_
      refine CW.keep 51 [0,4,5] rfl ?_;(conv=>whnf);refine ⟨?_⟩
      refine CW.k XK 51 1 [0,4] rfl ?_
      (conv=>whnf);refine ⟨rfl,?_⟩
      refine CW.ret ?_
      refine ⟨⟨(⟨y4.v, 0, 0, y8.v, y20.v, y12.1.ver⟩ : Command), y28.d, trivial, y28.hd⟩, ?_⟩
      exact Post.one (RV.c (f := fun e => (Command.c e).map .w) (e' := (⟨y4.v, 0, 0, y8.v, y20.v, y12.1.ver⟩ : Command)) rfl rfl rfl rfl (DT.v (DT.v (DT.v (DT.v (DT.v (DT.v DT.e)))))) (by rfl)) (AOs.obE (f := fun e => (l01Cur.c e).map .r) (e' := y28.d) rfl (DT.r (DT.r (DT.r DT.e))) (by rfl) (AOs.a rfl AOs.e))
     ·skip
      refine CW.skip ?_
      refine CW.keep 51 [0,4,5] rfl ?_;(conv=>whnf);refine ⟨?_⟩
      refine CW.k XK 51 1 [0,4] rfl ?_
      (conv=>whnf);refine ⟨rfl,?_⟩
      refine CW.ret ?_
      refine ⟨⟨(⟨y4.v, 0, 0, y8.v, y20.v, (IntKind.i64.wrap (1 + y24.v))⟩ : Command), y28.d, trivial, y28.hd⟩, ?_⟩
      exact Post.one (RV.c (f := fun e => (Command.c e).map .w) (e' := (⟨y4.v, 0, 0, y8.v, y20.v, (IntKind.i64.wrap (1 + y24.v))⟩ : Command)) rfl rfl rfl rfl (DT.v (DT.v (DT.v (DT.v (DT.v (DT.v DT.e)))))) (by rfl)) (AOs.obE (f := fun e => (l01Cur.c e).map .r) (e' := y28.d) rfl (DT.r (DT.r (DT.r DT.e))) (by rfl) (AOs.a rfl AOs.e))
    ·skip
     refine RW.k XK 51 3 rfl ?_
     (conv=>whnf);refine ⟨rfl,?_⟩
     refine RW.nil ?_
     refine CW.keep 51 [0,4,5,6,46] rfl ?_;(conv=>whnf);refine ⟨?_⟩
     refine CW.condF rfl ?_
     refine CW.skip ?_
     refine CW.keep 51 [0,4,5] rfl ?_;(conv=>whnf);refine ⟨?_⟩
     refine CW.k XK 51 1 [0,4] rfl ?_
     (conv=>whnf);refine ⟨rfl,?_⟩
     refine CW.ret ?_
     refine ⟨⟨(⟨y4.v, 0, 0, y8.v, y20.v, (IntKind.i64.wrap (1 + y24.v))⟩ : Command), y24.d, trivial, y24.hd⟩, ?_⟩
     exact Post.one (RV.c (f := fun e => (Command.c e).map .w) (e' := (⟨y4.v, 0, 0, y8.v, y20.v, (IntKind.i64.wrap (1 + y24.v))⟩ : Command)) rfl rfl rfl rfl (DT.v (DT.v (DT.v (DT.v (DT.v (DT.v DT.e)))))) (by rfl)) (AOs.obE (f := fun e => (l01Cur.c e).map .r) (e' := y24.d) rfl (DT.r (DT.r (DT.r DT.e))) (by rfl) (AOs.a rfl AOs.e))
   ·skip
    refine CW.skip ?_
    refine CW.keep 51 [0,4,5] rfl ?_;(conv=>whnf);refine ⟨?_⟩
    refine CW.k XK 51 1 [0,4] rfl ?_
    (conv=>whnf);refine ⟨rfl,?_⟩
    refine CW.ret ?_
    refine ⟨⟨(⟨y4.v, 0, 0, y8.v, y20.v, 0⟩ : Command), y20.d, trivial, y20.hd⟩, ?_⟩
    exact Post.one (RV.c (f := fun e => (Command.c e).map .w) (e' := (⟨y4.v, 0, 0, y8.v, y20.v, 0⟩ : Command)) rfl rfl rfl rfl (DT.v (DT.v (DT.v (DT.v (DT.v (DT.v DT.e)))))) (by rfl)) (AOs.obE (f := fun e => (l01Cur.c e).map .r) (e' := y20.d) rfl (DT.r (DT.r (DT.r DT.e))) (by rfl) (AOs.a rfl AOs.e))
  ·skip
   refine CW.skip ?_
   refine CW.keep 51 [0,4,5,6,7] rfl ?_;(conv=>whnf);refine ⟨?_⟩
   refine CW.seq ?_
   refine CW.k XK 51 1 [0,4,5,6,7,36] rfl ?_
   (conv=>whnf);refine ⟨rfl,?_⟩
   refine CW.cond rfl (fun h33 => ?_) (fun h33 => ?_)
   ·skip
    refine CW.seq ?_
    refine CW.region ?_
    refine RW.k XK 51 1 rfl ?_
    (conv=>whnf);refine ⟨rfl,?_⟩
    refine RW.callPX (k := 0) (spec_l01Below_fn_dx y8.d 20 y8.hd) rfl rfl (Nat.le_of_ble_eq_true rfl) (by decide) rfl (DT.r (DT.r (DT.r DT.e))) (AsPs.here (os := []) (outs := []) rfl (.cons (.one (.r .r)) (.nil))) (fun _ => AsPs.here rfl (.cons (.one (.r .r)) (.nil))) fun y34 g35 q36 => ?_
    refine RW.k XK 51 3 rfl ?_
    (conv=>whnf);refine ⟨rfl,?_⟩
    refine RW.nil ?_
    refine CW.keep 51 [0,4,5,6,7] rfl ?_;(conv=>whnf);refine ⟨?_⟩
    refine CW.seq ?_
    refine CW.region ?_
    refine RW.k XK 51 2 rfl ?_
    (conv=>whnf);refine ⟨rfl,?_⟩
    refine RW.gv rfl rfl rfl rfl (fun h37 => V.mv (d := .pt 0 (bo 0) 0) rfl rfl) (fun h37 => ?_) (fun h37 => ?_)
    ·skip
     refine RW.gcallPX (k := 0) (spec_l01Once_fn y34.d 3 y34.hd) rfl rfl rfl rfl rfl (Nat.le_of_ble_eq_true rfl) (by decide) rfl (DT.r (DT.r (DT.r DT.e))) (AsPs.here (os := []) (outs := []) rfl (.cons (.one (.r .r)) (.nil))) (fun _ => AsPs.here rfl (.cons (.one (.r .r)) (.nil))) fun y38 g39 q40 => ?_
     refine RW.k XK 51 2 rfl ?_
     (conv=>whnf);refine ⟨rfl,?_⟩
     refine RW.nil ?_
     refine CW.keep 51 [0,4,5,6,46] rfl ?_;(conv=>whnf);refine ⟨?_⟩
     refine CW.cond rfl (fun h41 => ?_) (fun h41 => ?_)
     ·skip
      refine CW.region ?_
      refine RW.k XK 51 4 rfl ?_
      (conv=>whnf);refine ⟨rfl,?_⟩
      refine RW.nil ?_
      refine CW.keep 51 [0,4,5] rfl ?_;(conv=>whnf);refine ⟨?_⟩
      refine CW.k XK 51 1 [0,4] rfl ?_
      (conv=>whnf);refine ⟨rfl,?_⟩
      refine CW.ret ?_
      refine ⟨⟨(⟨y4.v, 0, 0, y8.v, ⟨#[]⟩, y12.1.ver⟩ : Command), y38.d, trivial, y38.hd⟩, ?_⟩
      exact Post.one (RV.c (f := fun e => (Command.c e).map .w) (e' := (⟨y4.v, 0, 0, y8.v, ⟨#[]⟩, y12.1.ver⟩ : Command)) rfl rfl rfl rfl (DT.v (DT.v (DT.v (DT.v (DT.v (DT.v DT.e)))))) (by rfl)) (AOs.obE (f := fun e => (l01Cur.c e).map .r) (e' := y38.d) rfl (DT.r (DT.r (DT.r DT.e))) (by rfl) (AOs.a rfl AOs.e))
     ·skip
      refine CW.skip ?_
      refine CW.keep 51 [0,4,5] rfl ?_;(conv=>whnf);refine ⟨?_⟩
      refine CW.k XK 51 1 [0,4] rfl ?_
      (conv=>whnf);refine ⟨rfl,?_⟩
      refine CW.ret ?_
      refine ⟨⟨(⟨y4.v, 0, 0, y8.v, ⟨#[]⟩, (IntKind.i64.wrap (1 + y34.v))⟩ : Command), y38.d, trivial, y38.hd⟩, ?_⟩
      exact Post.one (RV.c (f := fun e => (Command.c e).map .w) (e' := (⟨y4.v, 0, 0, y8.v, ⟨#[]⟩, (IntKind.i64.wrap (1 + y34.v))⟩ : Command)) rfl rfl rfl rfl (DT.v (DT.v (DT.v (DT.v (DT.v (DT.v DT.e)))))) (by rfl)) (AOs.obE (f := fun e => (l01Cur.c e).map .r) (e' := y38.d) rfl (DT.r (DT.r (DT.r DT.e))) (by rfl) (AOs.a rfl AOs.e))
    ·skip
     refine RW.k XK 51 3 rfl ?_
     (conv=>whnf);refine ⟨rfl,?_⟩
     refine RW.nil ?_
     refine CW.keep 51 [0,4,5,6,46] rfl ?_;(conv=>whnf);refine ⟨?_⟩
     refine CW.condF rfl ?_
     refine CW.skip ?_
     refine CW.keep 51 [0,4,5] rfl ?_;(conv=>whnf);refine ⟨?_⟩
     refine CW.k XK 51 1 [0,4] rfl ?_
     (conv=>whnf);refine ⟨rfl,?_⟩
     refine CW.ret ?_
     refine ⟨⟨(⟨y4.v, 0, 0, y8.v, ⟨#[]⟩, (IntKind.i64.wrap (1 + y34.v))⟩ : Command), y34.d, trivial, y34.hd⟩, ?_⟩
     exact Post.one (RV.c (f := fun e => (Command.c e).map .w) (e' := (⟨y4.v, 0, 0, y8.v, ⟨#[]⟩, (IntKind.i64.wrap (1 + y34.v))⟩ : Command)) rfl rfl rfl rfl (DT.v (DT.v (DT.v (DT.v (DT.v (DT.v DT.e)))))) (by rfl)) (AOs.obE (f := fun e => (l01Cur.c e).map .r) (e' := y34.d) rfl (DT.r (DT.r (DT.r DT.e))) (by rfl) (AOs.a rfl AOs.e))
   ·skip
    refine CW.skip ?_
    refine CW.keep 51 [0,4,5] rfl ?_;(conv=>whnf);refine ⟨?_⟩
    refine CW.k XK 51 1 [0,4] rfl ?_
    (conv=>whnf);refine ⟨rfl,?_⟩
    refine CW.ret ?_
    refine ⟨⟨(⟨y4.v, 0, 0, y8.v, ⟨#[]⟩, 0⟩ : Command), y8.d, trivial, y8.hd⟩, ?_⟩
    exact Post.one (RV.c (f := fun e => (Command.c e).map .w) (e' := (⟨y4.v, 0, 0, y8.v, ⟨#[]⟩, 0⟩ : Command)) rfl rfl rfl rfl (DT.v (DT.v (DT.v (DT.v (DT.v (DT.v DT.e)))))) (by rfl)) (AOs.obE (f := fun e => (l01Cur.c e).map .r) (e' := y8.d) rfl (DT.r (DT.r (DT.r DT.e))) (by rfl) (AOs.a rfl AOs.e))
set_option maxHeartbeats 4000000 in
theorem spec_l15Command_fn (c : l01Cur) (k : Keep) (hc : curOk c) (hk : k.sessions.length ≤ maxLen ∧ k.items.length ≤ maxLen) : Eng.FnX E.P (α := Drw (fun _ : Command => True)) 86 [.ob ((l01Cur.c c).map .r), .agg ((Keep.c k).map .r)] (fun y => .one (.agg ((Command.c y.v).map .w))) (fun y => [.ob ((l01Cur.c y.d).map .r), .agg ((Keep.c k).map .r)]) := by
 refine Eng.FnX.intro (E := E) (rvs := [.cell 4 99]) Try.func86 rfl rfl rfl (by intro y; simp [outSlots, moved, rvSlot, sl]) ?_
 intro B g bo
 refine CW.keep 63 [0,1] rfl ?_;(conv=>whnf);refine ⟨?_⟩
 refine CW.seq ?_
 refine CW.region ?_
 refine RW.k XK 63 1 rfl ?_
 (conv=>whnf);intro b1;(conv=>whnf);refine ⟨rfl,?_⟩
 refine RW.freezeB (ts := (Keep.c k)) 3 rfl (DRd.r (DRd.r DRd.e)) ?_
 refine RW.k XK 63 1 rfl ?_
 (conv=>whnf);intro b2;(conv=>whnf);refine ⟨rfl,?_⟩
 refine RW.nil ?_
 refine CW.keep 63 [0,3,4] rfl ?_;(conv=>whnf);refine ⟨?_⟩
 refine CW.seq ?_
 refine CW.seq ?_
 refine CW.region ?_
 refine RW.k XK 63 5 rfl ?_
 (conv=>whnf);refine ⟨rfl,?_⟩
 refine RW.gv rfl rfl rfl rfl (fun h3 => V.mv (d := .pt 0 (bo 0) 0) rfl rfl) (fun h3 => ?_) (fun h3 => ?_)
 ·skip
  refine RW.gcallPX (k := 0) (spec_l01Once_fn c 16 hc) rfl rfl rfl rfl rfl (Nat.le_of_ble_eq_true rfl) (by decide) rfl (DT.r (DT.r (DT.r DT.e))) (AsPs.here (os := []) (outs := []) rfl (.cons (.one (.r .r)) (.nil))) (fun _ => AsPs.here rfl (.cons (.one (.r .r)) (.nil))) fun y4 g5 q6 => ?_
  refine RW.k XK 63 1 rfl ?_
  (conv=>whnf);refine ⟨rfl,?_⟩
  refine RW.nil ?_
  refine CW.keep 63 [0,3,4,14] rfl ?_;(conv=>whnf);refine ⟨?_⟩
  refine CW.cond rfl (fun h7 => ?_) (fun h7 => ?_)
  ·skip
   refine CW.k XK 63 1 [0,4] rfl ?_
   (conv=>whnf);refine ⟨rfl,?_⟩
   refine CW.ret ?_
   refine ⟨⟨(⟨1, 0, 0, ⟨#[]⟩, ⟨#[]⟩, 0⟩ : Command), y4.d, trivial, y4.hd⟩, ?_⟩
   exact Post.one (RV.c (f := fun e => (Command.c e).map .w) (e' := (⟨1, 0, 0, ⟨#[]⟩, ⟨#[]⟩, 0⟩ : Command)) rfl rfl rfl rfl (DT.v (DT.v (DT.v (DT.v (DT.v (DT.v DT.e)))))) (by rfl)) (AOs.obE (f := fun e => (l01Cur.c e).map .r) (e' := y4.d) rfl (DT.r (DT.r (DT.r DT.e))) (by rfl) (AOs.a rfl AOs.e))
  ·skip
   refine CW.skip ?_
   refine CW.keep 63 [0,3,4] rfl ?_;(conv=>whnf);refine ⟨?_⟩
   refine CW.seq ?_
   refine CW.region ?_
   refine RW.k XK 63 2 rfl ?_
   (conv=>whnf);refine ⟨rfl,?_⟩
   refine RW.callPX (k := 0) (spec_l15Of_fn y4.d k y4.hd hk.2) rfl rfl (Nat.le_of_ble_eq_true rfl) (by decide) rfl (DT.r (DT.r (DT.r DT.e))) (AsPs.here (os := []) (outs := []) rfl (.cons (.agg (.cons (.r .r) (.cons (.r .r) (.nil)))) (.nil))) (fun _ => AsPs.here rfl (.cons (.agg (.cons (.r .r) (.cons (.r .r) (.nil)))) (.nil))) fun y8 g9 q10 => ?_
   refine RW.k XK 63 2 rfl ?_
   (conv=>whnf);intro b11;(conv=>whnf);refine ⟨rfl,?_⟩
   refine RW.nil ?_
   refine CW.keep 63 [0,3,4,5] rfl ?_;(conv=>whnf);refine ⟨?_⟩
   refine CW.seq ?_
   refine CW.region ?_
   refine RW.k XK 63 6 rfl ?_
   (conv=>whnf);refine ⟨rfl,?_⟩
   refine RW.v rfl (V.indexZ (m := (k.sessions.length - 1)) (v := (k.sessions.getD (k.sessions.length - 1) Session.z)) rfl rfl rfl rfl rfl rfl (by have h9 := (len_pos2 h3); have h8 := hk.1; simp only [maxLen] at h8; rw [wrap_small (by omega) (by omega)]; omega) Session.len (getD_some (by have h9 := (len_pos2 h3); omega))) ?_
   refine RW.k XK 63 3 rfl ?_
   (conv=>whnf);intro b12;(conv=>whnf);refine ⟨rfl,?_⟩
   refine RW.nil ?_
   refine CW.keep 63 [0,3,4,5,6] rfl ?_;(conv=>whnf);refine ⟨?_⟩
   refine CW.seq ?_
   refine CW.seq ?_
   refine CW.region ?_
   refine RW.k XK 63 1 rfl ?_
   (conv=>whnf);refine ⟨rfl,?_⟩
   refine RW.callPX (k := 0) (spec_l01Once_fn y8.d 4 y8.hd) rfl rfl (Nat.le_of_ble_eq_true rfl) (by decide) rfl (DT.r (DT.r (DT.r DT.e))) (AsPs.here (os := []) (outs := []) rfl (.cons (.one (.r .r)) (.nil))) (fun _ => AsPs.here rfl (.cons (.one (.r .r)) (.nil))) fun y13 g14 q15 => ?_
   refine RW.nil ?_
   refine CW.keep 63 [0,3,4,5,6,28] rfl ?_;(conv=>whnf);refine ⟨?_⟩
   refine CW.cond rfl (fun h16 => ?_) (fun h16 => ?_)
   ·skip
    refine CW.anyR2 (fc := [(4, b2, [.int .i64 0, .int .i64 0, .int .i64 0, .string (⟨#[]⟩), .string (⟨#[]⟩), .int .i64 0]), (5, b11, [.int .i64 y8.v.op, .int .i64 y8.v.token, .int .i64 y8.v.seq, .string y8.v.key, .string y8.v.val, .int .i64 y8.v.ver])]) (L0 := [(4, .obj b2 [I 0, I 0, I 0, S (⟨#[]⟩), S (⟨#[]⟩), I 0]), (5, .obj b11 ((Command.c y8.v).map .r))]) 63 (fun (zz : (Nat → Nat → Value) × (Nat → Value) × (Drw (fun v : Int => 0 ≤ v ∧ (0 < (k.sessions.length : Int) → v < (k.sessions.length : Int))))) => match zz with | (go17_6_2, qo17_6_3, yo17_6_1) => [(0, .obj (bo 0) ((l01Cur.c yo17_6_1.d).map .r)), (6, .obj b12 ((Session.c (k.sessions.getD yo17_6_1.v.toNat Session.z)).map .r))]) (fun all hall f hf b0 hb K hK => ?_) ?_
    ·skip
     have ro17_2 : ∀ B, ∀ (go17_6_2 : Nat → Nat → Value), ∀ (qo17_6_3 : Nat → Value), ∀ (yo17_6_1 : Drw (fun v : Int => 0 ≤ v ∧ (0 < (k.sessions.length : Int) → v < (k.sessions.length : Int)))), RA f E B all 0 (bt 10 1023) ⟨63, [(0, .obj (bo 0) ((l01Cur.c yo17_6_1.d).map .r)), (6, .obj b12 ((Session.c (k.sessions.getD yo17_6_1.v.toNat Session.z)).map .r))] ++ b0⟩ K := by
      intro B go17_6_2 qo17_6_3 yo17_6_1
      exact RA.of2 hall hf hb (RA.finH (Tell.of rfl) (by kernel_rfl) (hK (go17_6_2, qo17_6_3, yo17_6_1) _ rfl (Le.of rfl)))
     have ro17_1 : ∀ B, ∀ (go17_6_2 : Nat → Nat → Value), ∀ (qo17_6_3 : Nat → Value), ∀ (yo17_6_1 : Drw (fun v : Int => 0 ≤ v ∧ (0 < (k.sessions.length : Int) → v < (k.sessions.length : Int)))), RA f E B all 1 (bt 10 511) ⟨63, [(0, .obj (bo 0) ((l01Cur.c yo17_6_1.d).map .r)), (6, .obj b12 ((Session.c (k.sessions.getD (k.sessions.length - 1) Session.z)).map .r)), (37, .agg ((Session.c (k.sessions.getD yo17_6_1.v.toNat Session.z)).map .r))] ++ b0⟩ K := by
      intro B go17_6_2 qo17_6_3 yo17_6_1
      refine RA.of2 hall hf hb (RA.stepH (L := [9]) (Tell.of rfl) (by kernel_rfl) (by simp) (RA.each ?_ (RA.each0)))
      ·skip
       refine RO.storeAgg (es := ((Session.c (k.sessions.getD yo17_6_1.v.toNat Session.z)).map .r)) rfl rfl rfl rfl rfl rfl rfl rfl rfl rfl (Nat.le_of_ble_eq_true rfl) rfl ?_
       exact RA.to2 hall hf hb (ro17_2 B go17_6_2 qo17_6_3 yo17_6_1) rfl rfl (by kernel_rfl)
     have ro17_0 : ∀ B, RA f E B all 4 (bt 10 63) ⟨63, [(0, .obj (bo 0) ((l01Cur.c y13.d).map .r)), (6, .obj b12 ((Session.c (k.sessions.getD (k.sessions.length - 1) Session.z)).map .r)), (30, .r (sl 3 Session.c k.sessions)), (31, .pt 0 (bo 0) 0), (34, I (k.sessions.length : Int))] ++ b0⟩ K := by
      intro B
      refine RA.of2 hall hf hb (RA.stepH (L := [6]) (Tell.of rfl) (by kernel_rfl) (by simp) (RA.each ?_ (RA.each0)))
      ·skip
       refine RO.callPX (k := 0) (spec_l01Below_fn_dx y13.d (k.sessions.length : Int) y13.hd) rfl rfl rfl rfl (Nat.le_of_ble_eq_true rfl) (by decide) rfl (DT.r (DT.r (DT.r DT.e))) (AsPs.here (os := []) (outs := []) rfl (.cons (.one (.r .r)) (.nil))) (fun _ => AsPs.here rfl (.cons (.one (.r .r)) (.nil))) fun yo17_6_1 go17_6_2 qo17_6_3 => ?_
       refine RA.first (i := 7) (ls' := (bt 10 255)) (Tell.of rfl) (by kernel_rfl) rfl rfl rfl (VF.p (V.indexZ (m := yo17_6_1.v.toNat) (v := (k.sessions.getD yo17_6_1.v.toNat Session.z)) rfl rfl rfl rfl rfl rfl (by have h9 := yo17_6_1.h; have h8 := (len_pos2 h3); omega) Session.len (getD_some (by have h9 := yo17_6_1.h; have h8 := (len_pos2 h3); omega)))) ?_
       refine RA.fr XK 63 1 [8] (bt 10 511) rfl rfl (by kernel_rfl) (Tell.of rfl) ?_
       (conv=>whnf);refine ⟨rfl,fun B=>?_⟩
       exact RA.to2 hall hf hb (ro17_1 B go17_6_2 qo17_6_3 yo17_6_1) rfl rfl (by kernel_rfl)
     refine RA.start (by kernel_rfl) (by kernel_rfl) (m := 10) (ls' := (bt 10 0)) ?_
     refine RA.fr XK 63 4 [0,1,2,3,4,5] (bt 10 63) rfl rfl (by kernel_rfl) (Tell.of rfl) ?_
     (conv=>whnf);refine ⟨rfl,fun B=>?_⟩
     exact RA.to2 hall hf hb (ro17_0 B) rfl rfl (by kernel_rfl)
    ·rintro ⟨go17_6_2, qo17_6_3, yo17_6_1⟩
     refine CW.keep 63 [0,4,5,6] rfl ?_;(conv=>whnf);refine ⟨?_⟩
     refine CW.k XK 63 2 [0,4,5,6] rfl ?_
     (conv=>whnf);refine ⟨rfl,?_⟩
     refine CW.seq ?_
     refine CW.seq ?_
     refine CW.region ?_
     refine RW.k XK 63 1 rfl ?_
     (conv=>whnf);refine ⟨rfl,?_⟩
     refine RW.callPX (k := 0) (spec_l01Below_fn_dx yo17_6_1.d 16 yo17_6_1.hd) rfl rfl (Nat.le_of_ble_eq_true rfl) (by decide) rfl (DT.r (DT.r (DT.r DT.e))) (AsPs.here (os := []) (outs := []) rfl (.cons (.one (.r .r)) (.nil))) (fun _ => AsPs.here rfl (.cons (.one (.r .r)) (.nil))) fun y18 g19 q20 => ?_
     refine RW.nil ?_
     refine CW.keep 63 [0,4,5,6,46] rfl ?_;(conv=>whnf);refine ⟨?_⟩
     refine CW.block ?_
     refine CW.k XK 63 1 [0,4,5,6,46,47] rfl ?_
     (conv=>whnf);refine ⟨rfl,?_⟩
     refine CW.cond rfl (fun h21 => ?_) (fun h21 => ?_)
     ·skip
      refine CW.region ?_
      refine RW.k XK 63 4 rfl ?_
      (conv=>whnf);refine ⟨rfl,?_⟩
      refine RW.nil ?_
      refine CW.keep 63 [0,4,5] rfl ?_;(conv=>whnf);refine ⟨?_⟩
      refine CW.k XK 63 1 [0,4] rfl ?_
      (conv=>whnf);refine ⟨rfl,?_⟩
      refine CW.ret ?_
      refine ⟨⟨(⟨y8.v.op, (k.sessions.getD yo17_6_1.v.toNat Session.z).token, (k.sessions.getD yo17_6_1.v.toNat Session.z).last, y8.v.key, y8.v.val, y8.v.ver⟩ : Command), y18.d, trivial, y18.hd⟩, ?_⟩
      exact Post.one (RV.c (f := fun e => (Command.c e).map .w) (e' := (⟨y8.v.op, (k.sessions.getD yo17_6_1.v.toNat Session.z).token, (k.sessions.getD yo17_6_1.v.toNat Session.z).last, y8.v.key, y8.v.val, y8.v.ver⟩ : Command)) rfl rfl rfl rfl (DT.v (DT.v (DT.v (DT.v (DT.v (DT.v DT.e)))))) (by rfl)) (AOs.obE (f := fun e => (l01Cur.c e).map .r) (e' := y18.d) rfl (DT.r (DT.r (DT.r DT.e))) (by rfl) (AOs.a rfl AOs.e))
     ·skip
      refine CW.k XK 63 1 [0,4,5,46,52] rfl ?_
      (conv=>whnf);refine ⟨rfl,?_⟩
      refine CW.cond rfl (fun h22 => ?_) (fun h22 => ?_)
      ·skip
       refine CW.region ?_
       refine RW.k XK 63 1 rfl ?_
       (conv=>whnf);refine ⟨rfl,?_⟩
       refine RW.callPX (k := 0) (spec_l01Below_fn_dx y18.d 4 y18.hd) rfl rfl (Nat.le_of_ble_eq_true rfl) (by decide) rfl (DT.r (DT.r (DT.r DT.e))) (AsPs.here (os := []) (outs := []) rfl (.cons (.one (.r .r)) (.nil))) (fun _ => AsPs.here rfl (.cons (.one (.r .r)) (.nil))) fun y23 g24 q25 => ?_
       refine RW.k XK 63 2 rfl ?_
       (conv=>whnf);refine ⟨rfl,?_⟩
       refine RW.nil ?_
       refine CW.keep 63 [0,4,5] rfl ?_;(conv=>whnf);refine ⟨?_⟩
       refine CW.k XK 63 1 [0,4] rfl ?_
       (conv=>whnf);refine ⟨rfl,?_⟩
       refine CW.ret ?_
       refine ⟨⟨(⟨y8.v.op, (k.sessions.getD yo17_6_1.v.toNat Session.z).token, y23.v, y8.v.key, y8.v.val, y8.v.ver⟩ : Command), y23.d, trivial, y23.hd⟩, ?_⟩
       exact Post.one (RV.c (f := fun e => (Command.c e).map .w) (e' := (⟨y8.v.op, (k.sessions.getD yo17_6_1.v.toNat Session.z).token, y23.v, y8.v.key, y8.v.val, y8.v.ver⟩ : Command)) rfl rfl rfl rfl (DT.v (DT.v (DT.v (DT.v (DT.v (DT.v DT.e)))))) (by rfl)) (AOs.obE (f := fun e => (l01Cur.c e).map .r) (e' := y23.d) rfl (DT.r (DT.r (DT.r DT.e))) (by rfl) (AOs.a rfl AOs.e))
      ·skip
       refine CW.k XK 63 1 [0,4,5,57] rfl ?_
       (conv=>whnf);refine ⟨rfl,?_⟩
       refine CW.cond rfl (fun h26 => ?_) (fun h26 => ?_)
       ·skip
        refine CW.region ?_
        refine RW.k XK 63 1 rfl ?_
        (conv=>whnf);refine ⟨rfl,?_⟩
        refine RW.callPX (k := 0) (spec_l01Below_fn_dx y18.d 9 y18.hd) rfl rfl (Nat.le_of_ble_eq_true rfl) (by decide) rfl (DT.r (DT.r (DT.r DT.e))) (AsPs.here (os := []) (outs := []) rfl (.cons (.one (.r .r)) (.nil))) (fun _ => AsPs.here rfl (.cons (.one (.r .r)) (.nil))) fun y27 g28 q29 => ?_
        refine RW.k XK 63 2 rfl ?_
        (conv=>whnf);refine ⟨rfl,?_⟩
        refine RW.nil ?_
        refine CW.keep 63 [0,4,5] rfl ?_;(conv=>whnf);refine ⟨?_⟩
        refine CW.k XK 63 1 [0,4] rfl ?_
        (conv=>whnf);refine ⟨rfl,?_⟩
        refine CW.ret ?_
        refine ⟨⟨(⟨y8.v.op, y27.v, (IntKind.i64.wrap ((k.sessions.getD yo17_6_1.v.toNat Session.z).last + 1)), y8.v.key, y8.v.val, y8.v.ver⟩ : Command), y27.d, trivial, y27.hd⟩, ?_⟩
        exact Post.one (RV.c (f := fun e => (Command.c e).map .w) (e' := (⟨y8.v.op, y27.v, (IntKind.i64.wrap ((k.sessions.getD yo17_6_1.v.toNat Session.z).last + 1)), y8.v.key, y8.v.val, y8.v.ver⟩ : Command)) rfl rfl rfl rfl (DT.v (DT.v (DT.v (DT.v (DT.v (DT.v DT.e)))))) (by rfl)) (AOs.obE (f := fun e => (l01Cur.c e).map .r) (e' := y27.d) rfl (DT.r (DT.r (DT.r DT.e))) (by rfl) (AOs.a rfl AOs.e))
       ·skip
        refine CW.skip ?_
        refine CW.keep 63 [0,4,5] rfl ?_;(conv=>whnf);refine ⟨?_⟩
        refine CW.k XK 63 1 [0,4] rfl ?_
        (conv=>whnf);refine ⟨rfl,?_⟩
        refine CW.ret ?_
        refine ⟨⟨(⟨y8.v.op, (k.sessions.getD yo17_6_1.v.toNat Session.z).token, (IntKind.i64.wrap ((k.sessions.getD yo17_6_1.v.toNat Session.z).last + 1)), y8.v.key, y8.v.val, y8.v.ver⟩ : Command), y18.d, trivial, y18.hd⟩, ?_⟩
        exact Post.one (RV.c (f := fun e => (Command.c e).map .w) (e' := (⟨y8.v.op, (k.sessions.getD yo17_6_1.v.toNat Session.z).token, (IntKind.i64.wrap ((k.sessions.getD yo17_6_1.v.toNat Session.z).last + 1)), y8.v.key, y8.v.val, y8.v.ver⟩ : Command)) rfl rfl rfl rfl (DT.v (DT.v (DT.v (DT.v (DT.v (DT.v DT.e)))))) (by rfl)) (AOs.obE (f := fun e => (l01Cur.c e).map .r) (e' := y18.d) rfl (DT.r (DT.r (DT.r DT.e))) (by rfl) (AOs.a rfl AOs.e))
   ·skip
    refine CW.skip ?_
    refine CW.keep 63 [0,4,5,6] rfl ?_;(conv=>whnf);refine ⟨?_⟩
    refine CW.k XK 63 2 [0,4,5,6] rfl ?_
    (conv=>whnf);refine ⟨rfl,?_⟩
    refine CW.seq ?_
    refine CW.seq ?_
    refine CW.region ?_
    refine RW.k XK 63 1 rfl ?_
    (conv=>whnf);refine ⟨rfl,?_⟩
    refine RW.callPX (k := 0) (spec_l01Below_fn_dx y13.d 16 y13.hd) rfl rfl (Nat.le_of_ble_eq_true rfl) (by decide) rfl (DT.r (DT.r (DT.r DT.e))) (AsPs.here (os := []) (outs := []) rfl (.cons (.one (.r .r)) (.nil))) (fun _ => AsPs.here rfl (.cons (.one (.r .r)) (.nil))) fun y30 g31 q32 => ?_
    refine RW.nil ?_
    refine CW.keep 63 [0,4,5,6,46] rfl ?_;(conv=>whnf);refine ⟨?_⟩
    refine CW.block ?_
    refine CW.k XK 63 1 [0,4,5,6,46,47] rfl ?_
    (conv=>whnf);refine ⟨rfl,?_⟩
    refine CW.cond rfl (fun h33 => ?_) (fun h33 => ?_)
    ·skip
     refine CW.region ?_
     refine RW.k XK 63 4 rfl ?_
     (conv=>whnf);refine ⟨rfl,?_⟩
     refine RW.nil ?_
     refine CW.keep 63 [0,4,5] rfl ?_;(conv=>whnf);refine ⟨?_⟩
     refine CW.k XK 63 1 [0,4] rfl ?_
     (conv=>whnf);refine ⟨rfl,?_⟩
     refine CW.ret ?_
     refine ⟨⟨(⟨y8.v.op, (k.sessions.getD (k.sessions.length - 1) Session.z).token, (k.sessions.getD (k.sessions.length - 1) Session.z).last, y8.v.key, y8.v.val, y8.v.ver⟩ : Command), y30.d, trivial, y30.hd⟩, ?_⟩
     exact Post.one (RV.c (f := fun e => (Command.c e).map .w) (e' := (⟨y8.v.op, (k.sessions.getD (k.sessions.length - 1) Session.z).token, (k.sessions.getD (k.sessions.length - 1) Session.z).last, y8.v.key, y8.v.val, y8.v.ver⟩ : Command)) rfl rfl rfl rfl (DT.v (DT.v (DT.v (DT.v (DT.v (DT.v DT.e)))))) (by rfl)) (AOs.obE (f := fun e => (l01Cur.c e).map .r) (e' := y30.d) rfl (DT.r (DT.r (DT.r DT.e))) (by rfl) (AOs.a rfl AOs.e))
    ·skip
     refine CW.k XK 63 1 [0,4,5,46,52] rfl ?_
     (conv=>whnf);refine ⟨rfl,?_⟩
     refine CW.cond rfl (fun h34 => ?_) (fun h34 => ?_)
     ·skip
      refine CW.region ?_
      refine RW.k XK 63 1 rfl ?_
      (conv=>whnf);refine ⟨rfl,?_⟩
      refine RW.callPX (k := 0) (spec_l01Below_fn_dx y30.d 4 y30.hd) rfl rfl (Nat.le_of_ble_eq_true rfl) (by decide) rfl (DT.r (DT.r (DT.r DT.e))) (AsPs.here (os := []) (outs := []) rfl (.cons (.one (.r .r)) (.nil))) (fun _ => AsPs.here rfl (.cons (.one (.r .r)) (.nil))) fun y35 g36 q37 => ?_
      refine RW.k XK 63 2 rfl ?_
      (conv=>whnf);refine ⟨rfl,?_⟩
      refine RW.nil ?_
      refine CW.keep 63 [0,4,5] rfl ?_;(conv=>whnf);refine ⟨?_⟩
      refine CW.k XK 63 1 [0,4] rfl ?_
      (conv=>whnf);refine ⟨rfl,?_⟩
      refine CW.ret ?_
      refine ⟨⟨(⟨y8.v.op, (k.sessions.getD (k.sessions.length - 1) Session.z).token, y35.v, y8.v.key, y8.v.val, y8.v.ver⟩ : Command), y35.d, trivial, y35.hd⟩, ?_⟩
      exact Post.one (RV.c (f := fun e => (Command.c e).map .w) (e' := (⟨y8.v.op, (k.sessions.getD (k.sessions.length - 1) Session.z).token, y35.v, y8.v.key, y8.v.val, y8.v.ver⟩ : Command)) rfl rfl rfl rfl (DT.v (DT.v (DT.v (DT.v (DT.v (DT.v DT.e)))))) (by rfl)) (AOs.obE (f := fun e => (l01Cur.c e).map .r) (e' := y35.d) rfl (DT.r (DT.r (DT.r DT.e))) (by rfl) (AOs.a rfl AOs.e))
     ·skip
      refine CW.k XK 63 1 [0,4,5,57] rfl ?_
      (conv=>whnf);refine ⟨rfl,?_⟩
      refine CW.cond rfl (fun h38 => ?_) (fun h38 => ?_)
      ·skip
       refine CW.region ?_
       refine RW.k XK 63 1 rfl ?_
       (conv=>whnf);refine ⟨rfl,?_⟩
       refine RW.callPX (k := 0) (spec_l01Below_fn_dx y30.d 9 y30.hd) rfl rfl (Nat.le_of_ble_eq_true rfl) (by decide) rfl (DT.r (DT.r (DT.r DT.e))) (AsPs.here (os := []) (outs := []) rfl (.cons (.one (.r .r)) (.nil))) (fun _ => AsPs.here rfl (.cons (.one (.r .r)) (.nil))) fun y39 g40 q41 => ?_
       refine RW.k XK 63 2 rfl ?_
       (conv=>whnf);refine ⟨rfl,?_⟩
       refine RW.nil ?_
       refine CW.keep 63 [0,4,5] rfl ?_;(conv=>whnf);refine ⟨?_⟩
       refine CW.k XK 63 1 [0,4] rfl ?_
       (conv=>whnf);refine ⟨rfl,?_⟩
       refine CW.ret ?_
       refine ⟨⟨(⟨y8.v.op, y39.v, (IntKind.i64.wrap ((k.sessions.getD (k.sessions.length - 1) Session.z).last + 1)), y8.v.key, y8.v.val, y8.v.ver⟩ : Command), y39.d, trivial, y39.hd⟩, ?_⟩
       exact Post.one (RV.c (f := fun e => (Command.c e).map .w) (e' := (⟨y8.v.op, y39.v, (IntKind.i64.wrap ((k.sessions.getD (k.sessions.length - 1) Session.z).last + 1)), y8.v.key, y8.v.val, y8.v.ver⟩ : Command)) rfl rfl rfl rfl (DT.v (DT.v (DT.v (DT.v (DT.v (DT.v DT.e)))))) (by rfl)) (AOs.obE (f := fun e => (l01Cur.c e).map .r) (e' := y39.d) rfl (DT.r (DT.r (DT.r DT.e))) (by rfl) (AOs.a rfl AOs.e))
      ·skip
       refine CW.skip ?_
       refine CW.keep 63 [0,4,5] rfl ?_;(conv=>whnf);refine ⟨?_⟩
       refine CW.k XK 63 1 [0,4] rfl ?_
       (conv=>whnf);refine ⟨rfl,?_⟩
       refine CW.ret ?_
       refine ⟨⟨(⟨y8.v.op, (k.sessions.getD (k.sessions.length - 1) Session.z).token, (IntKind.i64.wrap ((k.sessions.getD (k.sessions.length - 1) Session.z).last + 1)), y8.v.key, y8.v.val, y8.v.ver⟩ : Command), y30.d, trivial, y30.hd⟩, ?_⟩
       exact Post.one (RV.c (f := fun e => (Command.c e).map .w) (e' := (⟨y8.v.op, (k.sessions.getD (k.sessions.length - 1) Session.z).token, (IntKind.i64.wrap ((k.sessions.getD (k.sessions.length - 1) Session.z).last + 1)), y8.v.key, y8.v.val, y8.v.ver⟩ : Command)) rfl rfl rfl rfl (DT.v (DT.v (DT.v (DT.v (DT.v (DT.v DT.e)))))) (by rfl)) (AOs.obE (f := fun e => (l01Cur.c e).map .r) (e' := y30.d) rfl (DT.r (DT.r (DT.r DT.e))) (by rfl) (AOs.a rfl AOs.e))
 ·skip
  refine RW.k XK 63 2 rfl ?_
  (conv=>whnf);refine ⟨rfl,?_⟩
  refine RW.nil ?_
  refine CW.keep 63 [0,3,4,14] rfl ?_;(conv=>whnf);refine ⟨?_⟩
  refine CW.condT rfl ?_
  refine CW.k XK 63 1 [0,4] rfl ?_
  (conv=>whnf);refine ⟨rfl,?_⟩
  refine CW.ret ?_
  refine ⟨⟨(⟨1, 0, 0, ⟨#[]⟩, ⟨#[]⟩, 0⟩ : Command), c, trivial, hc⟩, ?_⟩
  exact Post.one (RV.c (f := fun e => (Command.c e).map .w) (e' := (⟨1, 0, 0, ⟨#[]⟩, ⟨#[]⟩, 0⟩ : Command)) rfl rfl rfl rfl (DT.v (DT.v (DT.v (DT.v (DT.v (DT.v DT.e)))))) (by rfl)) (AOs.obE (f := fun e => (l01Cur.c e).map .r) (e' := c) rfl (DT.r (DT.r (DT.r DT.e))) (by rfl) (AOs.a rfl AOs.e))
set_option maxHeartbeats 4000000 in
theorem spec_l16Right_fn (c : l01Cur) (hc : curOk c) : Eng.FnX E.P (α := Drw (fun _ : Command => True)) 82 [.ob ((l01Cur.c c).map .r)] (fun y => .one (.agg ((Command.c y.v).map .w))) (fun y => [.ob ((l01Cur.c y.d).map .r)]) := by
 refine Eng.FnX.intro (E := E) (rvs := [.cell 2 99]) Try.func82 rfl rfl rfl (by intro y; simp [outSlots, moved, rvSlot, sl]) ?_
 intro B g bo
 refine CW.keep 22 [0] rfl ?_;(conv=>whnf);refine ⟨?_⟩
 refine CW.k XK 22 1 [0,2] rfl ?_
 (conv=>whnf);intro b1;(conv=>whnf);refine ⟨rfl,?_⟩
 refine CW.seq ?_
 refine CW.region ?_
 refine RW.call rfl (spec_KeepNew_fn ) rfl (.nil) fun g2 => ?_
 refine RW.k XK 22 2 rfl ?_
 (conv=>whnf);intro b3;(conv=>whnf);refine ⟨rfl,?_⟩
 refine RW.keep 22 [0,2,3,5] rfl ?_;(conv=>whnf);refine ⟨?_⟩
 refine RW.pullA (k := 3) (l := 5) (j := 0) 3 5 0 rfl rfl rfl (by decide) rfl rfl rfl rfl ?_
 refine RW.keep 22 [0,2,3,5] rfl ?_;(conv=>whnf);refine ⟨?_⟩
 refine RW.pullA (k := 3) (l := 5) (j := 1) 3 5 1 rfl rfl rfl (by decide) rfl rfl rfl rfl ?_
 refine RW.keep 22 [0,2,3] rfl ?_;(conv=>whnf);refine ⟨?_⟩
 refine RW.nil ?_
 refine CW.keep 22 [0,2,3] rfl ?_;(conv=>whnf);refine ⟨?_⟩
 refine CW.seq ?_
 refine CW.region ?_
 refine RW.k XK 22 1 rfl ?_
 (conv=>whnf);refine ⟨rfl,?_⟩
 refine RW.callPX (k := 0) (spec_l01Below_fn_dx c 5 hc) rfl rfl (Nat.le_of_ble_eq_true rfl) (by decide) rfl (DT.r (DT.r (DT.r DT.e))) (AsPs.here (os := []) (outs := []) rfl (.cons (.one (.r .r)) (.nil))) (fun _ => AsPs.here rfl (.cons (.one (.r .r)) (.nil))) fun y4 g5 q6 => ?_
 refine RW.k XK 22 2 rfl ?_
 (conv=>whnf);refine ⟨rfl,?_⟩
 refine RW.callPX (k := 0) (spec_l01Below_fn_dx y4.d 4 y4.hd) rfl rfl (Nat.le_of_ble_eq_true rfl) (by decide) rfl (DT.r (DT.r (DT.r DT.e))) (AsPs.here (os := []) (outs := []) rfl (.cons (.one (.r .r)) (.nil))) (fun _ => AsPs.here rfl (.cons (.one (.r .r)) (.nil))) fun y7 g8 q9 => ?_
 refine RW.k XK 22 1 rfl ?_
 (conv=>whnf);refine ⟨rfl,?_⟩
 refine RW.build1 (c := Session.c) (v := (⟨(IntKind.i64.wrap (1 + y4.v)), y7.v, ⟨#[]⟩⟩ : Session)) rfl rfl rfl rfl rfl rfl (DW.v (DW.v (DW.v DW.e))) Session.len (by decide) (by decide) fun X10 => ?_
 refine RW.k XK 22 2 rfl ?_
 (conv=>whnf);refine ⟨rfl,?_⟩
 refine RW.keep 22 [0,2,3,12] rfl ?_;(conv=>whnf);refine ⟨?_⟩
 refine RW.pullT (k := 3) (l := 12) (j := 0) 3 12 0 rfl rfl rfl (by decide) rfl rfl rfl ?_
 refine RW.keep 22 [0,2,3] rfl ?_;(conv=>whnf);refine ⟨?_⟩
 refine RW.nil ?_
 refine CW.keep 22 [0,2,3] rfl ?_;(conv=>whnf);refine ⟨?_⟩
 refine CW.seq ?_
 refine CW.region ?_
 refine RW.k XK 22 1 rfl ?_
 (conv=>whnf);refine ⟨rfl,?_⟩
 refine RW.freeze 3 (d' := .obj b3 [.r (sl 3 Session.c ([(⟨(IntKind.i64.wrap (1 + y4.v)), y7.v, ⟨#[]⟩⟩ : Session)])), .r (sl 3 Item.c keepNew.items)]) rfl rfl ?_
 refine RW.k XK 22 1 rfl ?_
 (conv=>whnf);refine ⟨rfl,?_⟩
 refine RW.callPX (k := 0) (spec_l15Command_fn y7.d (⟨[(⟨(IntKind.i64.wrap (1 + y4.v)), y7.v, ⟨#[]⟩⟩ : Session)], keepNew.items⟩ : Keep) y7.hd ⟨Nat.le_of_ble_eq_true rfl, Nat.le_of_ble_eq_true rfl⟩) rfl rfl (Nat.le_of_ble_eq_true rfl) (by decide) rfl (DT.r (DT.r (DT.r DT.e))) (AsPs.here (os := []) (outs := []) rfl (.cons (.agg (.cons (.r .r) (.cons (.r .r) (.nil)))) (.nil))) (fun _ => AsPs.here rfl (.cons (.agg (.cons (.r .r) (.cons (.r .r) (.nil)))) (.nil))) fun y11 g12 q13 => ?_
 refine RW.k XK 22 2 rfl ?_
 (conv=>whnf);intro b14;(conv=>whnf);refine ⟨rfl,?_⟩
 refine RW.freezeB (ts := (Command.c y11.v)) 4 rfl (DRd.r (DRd.r (DRd.r (DRd.r (DRd.r (DRd.r DRd.e)))))) ?_
 refine RW.nil ?_
 refine CW.keep 22 [0,2,4] rfl ?_;(conv=>whnf);refine ⟨?_⟩
 refine CW.seq ?_
 refine CW.seq ?_
 refine CW.region ?_
 refine RW.k XK 22 1 rfl ?_
 (conv=>whnf);refine ⟨rfl,?_⟩
 refine RW.call rfl (spec_CommandOk_fn y11.v) rfl (.cons (.agg (.cons (.r .r) (.cons (.r .r) (.cons (.r .r) (.cons (.r .r) (.cons (.r .r) (.cons (.r .r) (.nil)))))))) (.nil)) fun g15 => ?_
 refine RW.k XK 22 1 rfl ?_
 (conv=>whnf);refine ⟨rfl,?_⟩
 refine RW.nil ?_
 refine CW.keep 22 [0,2,4,19] rfl ?_;(conv=>whnf);refine ⟨?_⟩
 refine CW.cond rfl (fun h16 => ?_) (fun h16 => ?_)
 ·skip
  refine CW.k XK 22 1 [0,2] rfl ?_
  (conv=>whnf);refine ⟨rfl,?_⟩
  refine CW.ret ?_
  refine ⟨⟨(⟨3, 1, 1, (⟨#[97]⟩ : ByteArray), ⟨#[]⟩, 0⟩ : Command), y11.d, trivial, y11.hd⟩, ?_⟩
  exact Post.one (RV.c (f := fun e => (Command.c e).map .w) (e' := (⟨3, 1, 1, (⟨#[97]⟩ : ByteArray), ⟨#[]⟩, 0⟩ : Command)) rfl rfl rfl rfl (DT.v (DT.v (DT.v (DT.v (DT.v (DT.v DT.e)))))) (by rfl)) (AOs.obE (f := fun e => (l01Cur.c e).map .r) (e' := y11.d) rfl (DT.r (DT.r (DT.r DT.e))) (by rfl) AOs.e)
 ·skip
  refine CW.skip ?_
  refine CW.keep 22 [0,2,4] rfl ?_;(conv=>whnf);refine ⟨?_⟩
  refine CW.k XK 22 1 [0,2] rfl ?_
  (conv=>whnf);refine ⟨rfl,?_⟩
  refine CW.ret ?_
  refine ⟨⟨y11.v, y11.d, trivial, y11.hd⟩, ?_⟩
  exact Post.one (RV.c (f := fun e => (Command.c e).map .w) (e' := y11.v) rfl rfl rfl rfl (DT.v (DT.v (DT.v (DT.v (DT.v (DT.v DT.e)))))) (by rfl)) (AOs.obE (f := fun e => (l01Cur.c e).map .r) (e' := y11.d) rfl (DT.r (DT.r (DT.r DT.e))) (by rfl) AOs.e)
set_option maxHeartbeats 4000000 in
theorem spec_l05Right_fn (c : l01Cur) (term : Int) (hc : curOk c) : Eng.FnX E.P (α := Drw (fun e : Entry => e.data.size ≤ 1048576)) 78 [.ob ((l01Cur.c c).map .r), .one (.r (.v (.int .i64 term)))] (fun y => .one (.agg ((Entry.c y.v).map .w))) (fun y => [.ob ((l01Cur.c y.d).map .r), .one (.r (.v (.int .i64 term)))]) := by
 refine Eng.FnX.intro (E := E) (rvs := [.cell 4 44]) Try.func78 rfl rfl rfl (by intro y; simp [outSlots, moved, rvSlot, sl]) ?_
 intro B g bo
 refine CW.keep 32 [0,1] rfl ?_;(conv=>whnf);refine ⟨?_⟩
 refine CW.k XK 32 1 [0,1,4] rfl ?_
 (conv=>whnf);intro b1;(conv=>whnf);refine ⟨rfl,?_⟩
 refine CW.seq ?_
 refine CW.region ?_
 refine RW.k XK 32 2 rfl ?_
 (conv=>whnf);refine ⟨rfl,?_⟩
 refine RW.buildK (c := cI) (L := [1, 2, 3, 3, 3]) (vs := [(.int .i64 1), (.int .i64 2), (.int .i64 3), (.int .i64 3), (.int .i64 3)]) rfl rfl rfl rfl rfl (fun _ => rfl) rfl rfl rfl (by decide) (by decide) rfl rfl fun X2 => ?_
 refine RW.freeze 8 (d' := .r (sl 1 cI ([1, 2, 3, 3, 3] : List Int))) rfl rfl ?_
 refine RW.callPX (k := 0) (spec_l01PickInt_fn c ([1, 2, 3, 3, 3] : List Int) hc (Nat.le_of_ble_eq_true rfl)) rfl rfl (Nat.le_of_ble_eq_true rfl) (by decide) rfl (DT.r (DT.r (DT.r DT.e))) (AsPs.here (os := []) (outs := []) rfl (.cons (.one (.r .r)) (.nil))) (fun _ => AsPs.here rfl (.cons (.one (.r .r)) (.nil))) fun y3 g4 q5 => ?_
 refine RW.k XK 32 3 rfl ?_
 (conv=>whnf);intro b6;(conv=>whnf);refine ⟨rfl,?_⟩
 refine RW.nil ?_
 refine CW.keep 32 [0,4,5] rfl ?_;(conv=>whnf);refine ⟨?_⟩
 refine CW.seq ?_
 refine CW.k XK 32 1 [0,4,5,12] rfl ?_
 (conv=>whnf);refine ⟨rfl,?_⟩
 refine CW.block ?_
 refine CW.k XK 32 1 [0,4,5,12,13] rfl ?_
 (conv=>whnf);refine ⟨rfl,?_⟩
 refine CW.cond rfl (fun h7 => ?_) (fun h7 => ?_)
 ·skip
  refine CW.region ?_
  refine RW.k XK 32 1 rfl ?_
  (conv=>whnf);refine ⟨rfl,?_⟩
  refine RW.callPX (k := 0) (spec_l05Conf_fn y3.d y3.hd) rfl rfl (Nat.le_of_ble_eq_true rfl) (by decide) rfl (DT.r (DT.r (DT.r DT.e))) (AsPs.here (os := []) (outs := []) rfl (.nil)) (fun _ => AsPs.here rfl (.nil)) fun y8 g9 q10 => ?_
  refine RW.callOwn rfl (spec_ConfText_fn y8.v (by have h9 := y8.h; omega)) rfl (.cons (.one (.r (.al (k := none) (i := 17) (sz := 1) (V := (g9 0 0)) rfl rfl nofun))) (.nil)) rfl fun g11 => ?_
  refine RW.k XK 32 5 rfl ?_
  (conv=>whnf);refine ⟨rfl,?_⟩
  refine RW.nil ?_
  refine CW.keep 32 [0,4,5] rfl ?_;(conv=>whnf);refine ⟨?_⟩
  refine CW.k XK 32 1 [0,4] rfl ?_
  (conv=>whnf);refine ⟨rfl,?_⟩
  refine CW.ret ?_
  refine ⟨⟨(⟨term, y3.v, ((confText y8.v).1)⟩ : Entry), y8.d, (Nat.le_trans confText_size (by omega)), y8.hd⟩, ?_⟩
  exact Post.one (RV.c (f := fun e => (Entry.c e).map .w) (e' := (⟨term, y3.v, ((confText y8.v).1)⟩ : Entry)) rfl rfl rfl rfl (DT.v (DT.v (DT.v DT.e))) (by rfl)) (AOs.obE (f := fun e => (l01Cur.c e).map .r) (e' := y8.d) rfl (DT.r (DT.r (DT.r DT.e))) (by rfl) (AOs.r AOs.e))
 ·skip
  refine CW.k XK 32 1 [0,4,5,22] rfl ?_
  (conv=>whnf);refine ⟨rfl,?_⟩
  refine CW.cond rfl (fun h12 => ?_) (fun h12 => ?_)
  ·skip
   refine CW.region ?_
   refine RW.k XK 32 1 rfl ?_
   (conv=>whnf);refine ⟨rfl,?_⟩
   refine RW.callPX (k := 0) (spec_l16Right_fn y3.d y3.hd) rfl rfl (Nat.le_of_ble_eq_true rfl) (by decide) rfl (DT.r (DT.r (DT.r DT.e))) (AsPs.here (os := []) (outs := []) rfl (.nil)) (fun _ => AsPs.here rfl (.nil)) fun y13 g14 q15 => ?_
   refine RW.call rfl (spec_CommandText_fn y13.v) rfl (.cons (.agg (.cons (.r .r) (.cons (.r .r) (.cons (.r .r) (.cons (.r .r) (.cons (.r .r) (.cons (.r .r) (.nil)))))))) (.nil)) fun g16 => ?_
   refine RW.k XK 32 5 rfl ?_
   (conv=>whnf);refine ⟨rfl,?_⟩
   refine RW.nil ?_
   refine CW.keep 32 [0,4,5] rfl ?_;(conv=>whnf);refine ⟨?_⟩
   refine CW.k XK 32 1 [0,4] rfl ?_
   (conv=>whnf);refine ⟨rfl,?_⟩
   refine CW.ret ?_
   refine ⟨⟨(⟨term, y3.v, ((cmdT y13.v).1)⟩ : Entry), y13.d, (Nat.le_trans (cmdT_size _) (by omega)), y13.hd⟩, ?_⟩
   exact Post.one (RV.c (f := fun e => (Entry.c e).map .w) (e' := (⟨term, y3.v, ((cmdT y13.v).1)⟩ : Entry)) rfl rfl rfl rfl (DT.v (DT.v (DT.v DT.e))) (by rfl)) (AOs.obE (f := fun e => (l01Cur.c e).map .r) (e' := y13.d) rfl (DT.r (DT.r (DT.r DT.e))) (by rfl) (AOs.r AOs.e))
  ·skip
   refine CW.skip ?_
   refine CW.keep 32 [0,4,5] rfl ?_;(conv=>whnf);refine ⟨?_⟩
   refine CW.k XK 32 1 [0,4] rfl ?_
   (conv=>whnf);refine ⟨rfl,?_⟩
   refine CW.ret ?_
   refine ⟨⟨(⟨term, y3.v, ⟨#[]⟩⟩ : Entry), y3.d, (by show (0 : Nat) ≤ _; omega), y3.hd⟩, ?_⟩
   exact Post.one (RV.c (f := fun e => (Entry.c e).map .w) (e' := (⟨term, y3.v, ⟨#[]⟩⟩ : Entry)) rfl rfl rfl rfl (DT.v (DT.v (DT.v DT.e))) (by rfl)) (AOs.obE (f := fun e => (l01Cur.c e).map .r) (e' := y3.d) rfl (DT.r (DT.r (DT.r DT.e))) (by rfl) (AOs.r AOs.e))
set_option maxHeartbeats 4000000 in
theorem spec_l05Any_fn (c : l01Cur) (hc : curOk c) : Eng.FnX E.P (α := Drw (fun e : Entry => e.data.size ≤ 1048576)) 68 [.ob ((l01Cur.c c).map .r)] (fun y => .one (.agg ((Entry.c y.v).map .w))) (fun y => [.ob ((l01Cur.c y.d).map .r)]) := by
 refine Eng.FnX.intro (E := E) (rvs := [.cell 2 44]) Try.func68 rfl rfl rfl (by intro y; simp [outSlots, moved, rvSlot, sl]) ?_
 intro B g bo
 refine CW.keep 30 [0] rfl ?_;(conv=>whnf);refine ⟨?_⟩
 refine CW.k XK 30 1 [0,2] rfl ?_
 (conv=>whnf);intro b1;(conv=>whnf);refine ⟨rfl,?_⟩
 refine CW.seq ?_
 refine CW.region ?_
 refine RW.k XK 30 2 rfl ?_
 (conv=>whnf);refine ⟨rfl,?_⟩
 refine RW.callPX (k := 0) (spec_l01Below_fn_dx c 9 hc) rfl rfl (Nat.le_of_ble_eq_true rfl) (by decide) rfl (DT.r (DT.r (DT.r DT.e))) (AsPs.here (os := []) (outs := []) rfl (.cons (.one (.r .r)) (.nil))) (fun _ => AsPs.here rfl (.cons (.one (.r .r)) (.nil))) fun y2 g3 q4 => ?_
 refine RW.callPX (k := 0) (spec_l05Right_fn y2.d y2.v y2.hd) rfl rfl (Nat.le_of_ble_eq_true rfl) (by decide) rfl (DT.r (DT.r (DT.r DT.e))) (AsPs.here (os := []) (outs := []) rfl (.cons (.one (.r .r)) (.nil))) (fun _ => AsPs.here rfl (.cons (.one (.r .r)) (.nil))) fun y5 g6 q7 => ?_
 refine RW.k XK 30 2 rfl ?_
 (conv=>whnf);intro b8;(conv=>whnf);refine ⟨rfl,?_⟩
 refine RW.nil ?_
 refine CW.keep 30 [0,2,3] rfl ?_;(conv=>whnf);refine ⟨?_⟩
 refine CW.seq ?_
 refine CW.seq ?_
 refine CW.region ?_
 refine RW.k XK 30 1 rfl ?_
 (conv=>whnf);refine ⟨rfl,?_⟩
 refine RW.callPX (k := 0) (spec_l01Below_fn_dx y5.d 30 y5.hd) rfl rfl (Nat.le_of_ble_eq_true rfl) (by decide) rfl (DT.r (DT.r (DT.r DT.e))) (AsPs.here (os := []) (outs := []) rfl (.cons (.one (.r .r)) (.nil))) (fun _ => AsPs.here rfl (.cons (.one (.r .r)) (.nil))) fun y9 g10 q11 => ?_
 refine RW.nil ?_
 refine CW.keep 30 [0,2,3,9] rfl ?_;(conv=>whnf);refine ⟨?_⟩
 refine CW.block ?_
 refine CW.k XK 30 1 [0,2,3,9,10] rfl ?_
 (conv=>whnf);refine ⟨rfl,?_⟩
 refine CW.cond rfl (fun h12 => ?_) (fun h12 => ?_)
 ·skip
  refine CW.region ?_
  refine RW.k XK 30 1 rfl ?_
  (conv=>whnf);refine ⟨rfl,?_⟩
  refine RW.buildK (c := cI) (L := [(-1), 100000, 100001]) (vs := [(.int .i64 (-1)), (.int .i64 100000), (.int .i64 100001)]) rfl rfl rfl rfl rfl (fun _ => rfl) rfl rfl rfl (by decide) (by decide) rfl rfl fun X13 => ?_
  refine RW.freeze 13 (d' := .r (sl 1 cI ([(-1), 100000, 100001] : List Int))) rfl rfl ?_
  refine RW.callPX (k := 0) (spec_l01PickInt_fn y9.d ([(-1), 100000, 100001] : List Int) y9.hd (Nat.le_of_ble_eq_true rfl)) rfl rfl (Nat.le_of_ble_eq_true rfl) (by decide) rfl (DT.r (DT.r (DT.r DT.e))) (AsPs.here (os := []) (outs := []) rfl (.cons (.one (.r .r)) (.nil))) (fun _ => AsPs.here rfl (.cons (.one (.r .r)) (.nil))) fun y14 g15 q16 => ?_
  refine RW.k XK 30 2 rfl ?_
  (conv=>whnf);refine ⟨rfl,?_⟩
  refine RW.nil ?_
  refine CW.keep 30 [0,2,3] rfl ?_;(conv=>whnf);refine ⟨?_⟩
  refine CW.k XK 30 1 [0,2] rfl ?_
  (conv=>whnf);refine ⟨rfl,?_⟩
  refine CW.ret ?_
  refine ⟨⟨(⟨y14.v, y5.v.kind, y5.v.data⟩ : Entry), y14.d, y5.h, y14.hd⟩, ?_⟩
  exact Post.one (RV.c (f := fun e => (Entry.c e).map .w) (e' := (⟨y14.v, y5.v.kind, y5.v.data⟩ : Entry)) rfl rfl rfl rfl (DT.v (DT.v (DT.v DT.e))) (by rfl)) (AOs.obE (f := fun e => (l01Cur.c e).map .r) (e' := y14.d) rfl (DT.r (DT.r (DT.r DT.e))) (by rfl) AOs.e)
 ·skip
  refine CW.k XK 30 1 [0,2,3,9,16] rfl ?_
  (conv=>whnf);refine ⟨rfl,?_⟩
  refine CW.cond rfl (fun h17 => ?_) (fun h17 => ?_)
  ·skip
   refine CW.region ?_
   refine RW.k XK 30 1 rfl ?_
   (conv=>whnf);refine ⟨rfl,?_⟩
   refine RW.buildK (c := cI) (L := [0, 4, 1, 2]) (vs := [(.int .i64 0), (.int .i64 4), (.int .i64 1), (.int .i64 2)]) rfl rfl rfl rfl rfl (fun _ => rfl) rfl rfl rfl (by decide) (by decide) rfl rfl fun X18 => ?_
   refine RW.freeze 19 (d' := .r (sl 1 cI ([0, 4, 1, 2] : List Int))) rfl rfl ?_
   refine RW.callPX (k := 0) (spec_l01PickInt_fn y9.d ([0, 4, 1, 2] : List Int) y9.hd (Nat.le_of_ble_eq_true rfl)) rfl rfl (Nat.le_of_ble_eq_true rfl) (by decide) rfl (DT.r (DT.r (DT.r DT.e))) (AsPs.here (os := []) (outs := []) rfl (.cons (.one (.r .r)) (.nil))) (fun _ => AsPs.here rfl (.cons (.one (.r .r)) (.nil))) fun y19 g20 q21 => ?_
   refine RW.k XK 30 2 rfl ?_
   (conv=>whnf);refine ⟨rfl,?_⟩
   refine RW.nil ?_
   refine CW.keep 30 [0,2,3] rfl ?_;(conv=>whnf);refine ⟨?_⟩
   refine CW.k XK 30 1 [0,2] rfl ?_
   (conv=>whnf);refine ⟨rfl,?_⟩
   refine CW.ret ?_
   refine ⟨⟨(⟨y5.v.term_, y19.v, y5.v.data⟩ : Entry), y19.d, y5.h, y19.hd⟩, ?_⟩
   exact Post.one (RV.c (f := fun e => (Entry.c e).map .w) (e' := (⟨y5.v.term_, y19.v, y5.v.data⟩ : Entry)) rfl rfl rfl rfl (DT.v (DT.v (DT.v DT.e))) (by rfl)) (AOs.obE (f := fun e => (l01Cur.c e).map .r) (e' := y19.d) rfl (DT.r (DT.r (DT.r DT.e))) (by rfl) AOs.e)
  ·skip
   refine CW.k XK 30 1 [0,2,3,22] rfl ?_
   (conv=>whnf);refine ⟨rfl,?_⟩
   refine CW.cond rfl (fun h22 => ?_) (fun h22 => ?_)
   ·skip
    refine CW.region ?_
    refine RW.k XK 30 1 rfl ?_
    (conv=>whnf);refine ⟨rfl,?_⟩
    refine RW.callPX (k := 0) (spec_l01Below_fn_dx y9.d 2 y9.hd) rfl rfl (Nat.le_of_ble_eq_true rfl) (by decide) rfl (DT.r (DT.r (DT.r DT.e))) (AsPs.here (os := []) (outs := []) rfl (.cons (.one (.r .r)) (.nil))) (fun _ => AsPs.here rfl (.cons (.one (.r .r)) (.nil))) fun y23 g24 q25 => ?_
    refine RW.k XK 30 1 rfl ?_
    (conv=>whnf);refine ⟨rfl,?_⟩
    refine RW.callX rfl (spec_l01Long_fn (IntKind.i64.wrap (120 + y23.v)) 65 (by have h9 := y23.h; rw [wrap_small (by omega) (by omega)]; omega)) rfl (.cons (.one (.r .r)) (.cons (.one (.r .r)) (.nil))) fun y26 g27 => ?_
    refine RW.k XK 30 2 rfl ?_
    (conv=>whnf);refine ⟨rfl,?_⟩
    refine RW.nil ?_
    refine CW.keep 30 [0,2,3] rfl ?_;(conv=>whnf);refine ⟨?_⟩
    refine CW.k XK 30 1 [0,2] rfl ?_
    (conv=>whnf);refine ⟨rfl,?_⟩
    refine CW.ret ?_
    refine ⟨⟨(⟨0, 3, y26.1⟩ : Entry), y23.d, (Nat.le_trans y26.2 (by omega)), y23.hd⟩, ?_⟩
    exact Post.one (RV.c (f := fun e => (Entry.c e).map .w) (e' := (⟨0, 3, y26.1⟩ : Entry)) rfl rfl rfl rfl (DT.v (DT.v (DT.v DT.e))) (by rfl)) (AOs.obE (f := fun e => (l01Cur.c e).map .r) (e' := y23.d) rfl (DT.r (DT.r (DT.r DT.e))) (by rfl) AOs.e)
   ·skip
    refine CW.skip ?_
    refine CW.keep 30 [0,2,3] rfl ?_;(conv=>whnf);refine ⟨?_⟩
    refine CW.k XK 30 1 [0,2] rfl ?_
    (conv=>whnf);refine ⟨rfl,?_⟩
    refine CW.ret ?_
    refine ⟨⟨y5.v, y9.d, y5.h, y9.hd⟩, ?_⟩
    exact Post.one (RV.c (f := fun e => (Entry.c e).map .w) (e' := y5.v) rfl rfl rfl rfl (DT.v (DT.v (DT.v DT.e))) (by rfl)) (AOs.obE (f := fun e => (l01Cur.c e).map .r) (e' := y9.d) rfl (DT.r (DT.r (DT.r DT.e))) (by rfl) AOs.e)
set_option maxHeartbeats 4000000 in
theorem spec_l05AnyConf_fn (c : l01Cur) (hc : curOk c) : Eng.FnX E.P (α := Drw (fun l : List Int => l.length ≤ 6)) 70 [.ob ((l01Cur.c c).map .r)] (fun y => .one (.one (.w (sl 1 cI y.v)))) (fun y => [.ob ((l01Cur.c y.d).map .r)]) := by
 refine Eng.FnX.intro (E := E) (rvs := [.tmp 2]) Try.func70 rfl rfl rfl (by intro y; simp [outSlots, moved, rvSlot, sl]) ?_
 intro B g bo
 refine CW.keep 20 [0] rfl ?_;(conv=>whnf);refine ⟨?_⟩
 refine CW.k XK 20 1 [0] rfl ?_
 (conv=>whnf);refine ⟨rfl,?_⟩
 refine CW.seq ?_
 refine CW.region ?_
 refine RW.k XK 20 1 rfl ?_
 (conv=>whnf);refine ⟨rfl,?_⟩
 refine RW.callPX (k := 0) (spec_l05Conf_fn c hc) rfl rfl (Nat.le_of_ble_eq_true rfl) (by decide) rfl (DT.r (DT.r (DT.r DT.e))) (AsPs.here (os := []) (outs := []) rfl (.nil)) (fun _ => AsPs.here rfl (.nil)) fun y1 g2 q3 => ?_
 refine RW.assignMove rfl rfl rfl (by decide) (Nat.le_of_ble_eq_true rfl) (Nat.le_of_ble_eq_true rfl) ?_
 refine RW.nil ?_
 refine CW.keep 20 [0,3] rfl ?_;(conv=>whnf);refine ⟨?_⟩
 refine CW.seq ?_
 refine CW.seq ?_
 refine CW.region ?_
 refine RW.k XK 20 1 rfl ?_
 (conv=>whnf);refine ⟨rfl,?_⟩
 refine RW.callPX (k := 0) (spec_l01Below_fn_dx y1.d 12 y1.hd) rfl rfl (Nat.le_of_ble_eq_true rfl) (by decide) rfl (DT.r (DT.r (DT.r DT.e))) (AsPs.here (os := []) (outs := []) rfl (.cons (.one (.r .r)) (.nil))) (fun _ => AsPs.here rfl (.cons (.one (.r .r)) (.nil))) fun y4 g5 q6 => ?_
 refine RW.nil ?_
 refine CW.keep 20 [0,3,7] rfl ?_;(conv=>whnf);refine ⟨?_⟩
 refine CW.block ?_
 refine CW.k XK 20 1 [0,3,7,8] rfl ?_
 (conv=>whnf);refine ⟨rfl,?_⟩
 refine CW.cond rfl (fun h7 => ?_) (fun h7 => ?_)
 ·skip
  refine CW.region ?_
  refine RW.k XK 20 2 rfl ?_
  (conv=>whnf);refine ⟨rfl,?_⟩
  refine RW.buildK (c := cI) (L := [0, 4, 5, 1]) (vs := [(.int .i64 0), (.int .i64 4), (.int .i64 5), (.int .i64 1)]) rfl rfl rfl rfl rfl (fun _ => rfl) rfl rfl rfl (by decide) (by decide) rfl rfl fun X8 => ?_
  refine RW.freeze 12 (d' := .r (sl 1 cI ([0, 4, 5, 1] : List Int))) rfl rfl ?_
  refine RW.callPX (k := 0) (spec_l01PickInt_fn y4.d ([0, 4, 5, 1] : List Int) y4.hd (Nat.le_of_ble_eq_true rfl)) rfl rfl (Nat.le_of_ble_eq_true rfl) (by decide) rfl (DT.r (DT.r (DT.r DT.e))) (AsPs.here (os := []) (outs := []) rfl (.cons (.one (.r .r)) (.nil))) (fun _ => AsPs.here rfl (.cons (.one (.r .r)) (.nil))) fun y9 g10 q11 => ?_
  refine RW.build1c (c := cI) (v := y9.v) (u := .v (.int .i64 y9.v)) rfl rfl rfl rfl rfl rfl (.inl rfl) rfl rfl fun X12 => ?_
  refine RW.appendSR (c := cI) (l1 := y1.v) (l2 := [y9.v]) rfl rfl rfl rfl rfl rfl rfl rfl (.al (k := none) (i := 14) (sz := 1) (V := X12) rfl rfl nofun) (by decide) (Nat.le_of_ble_eq_true rfl) cI.len (fun _ => rfl) rfl (by have h9 := y1.h; simp only [maxLen, List.length_singleton]; omega) (by have h9 := y1.h; simp only [maxLen, List.length_singleton]; omega) fun X13 => ?_
  refine RW.assignMove rfl rfl rfl (by decide) (Nat.le_of_ble_eq_true rfl) (Nat.le_of_ble_eq_true rfl) ?_
  refine RW.nil ?_
  refine CW.keep 20 [0,3] rfl ?_;(conv=>whnf);refine ⟨?_⟩
  refine CW.seq ?_
  refine CW.region ?_
  refine RW.k XK 20 2 rfl ?_
  (conv=>whnf);refine ⟨rfl,?_⟩
  refine RW.pullS 2 3 (by decide) rfl rfl ?_
  refine RW.nil ?_
  refine CW.keep 20 [0,2] rfl ?_;(conv=>whnf);refine ⟨?_⟩
  refine CW.ret ?_
  refine ⟨⟨(y1.v ++ ([y9.v])), y9.d, (by (try simp only [List.length_append, List.length_singleton]); have h9 := y1.h; omega), y9.hd⟩, ?_⟩
  exact Post.one (RV.w rfl (by rfl)) (AOs.obE (f := fun e => (l01Cur.c e).map .r) (e' := y9.d) rfl (DT.r (DT.r (DT.r DT.e))) (by rfl) AOs.e)
 ·skip
  refine CW.k XK 20 1 [0,3,16] rfl ?_
  (conv=>whnf);refine ⟨rfl,?_⟩
  refine CW.cond rfl (fun h14 => ?_) (fun h14 => ?_)
  ·skip
   refine CW.region ?_
   refine RW.build0 cI rfl rfl rfl rfl rfl fun X15 => ?_
   refine RW.assignMove rfl rfl rfl (by decide) (Nat.le_of_ble_eq_true rfl) (Nat.le_of_ble_eq_true rfl) ?_
   refine RW.nil ?_
   refine CW.keep 20 [0,3] rfl ?_;(conv=>whnf);refine ⟨?_⟩
   refine CW.seq ?_
   refine CW.region ?_
   refine RW.k XK 20 2 rfl ?_
   (conv=>whnf);refine ⟨rfl,?_⟩
   refine RW.pullS 2 3 (by decide) rfl rfl ?_
   refine RW.nil ?_
   refine CW.keep 20 [0,2] rfl ?_;(conv=>whnf);refine ⟨?_⟩
   refine CW.ret ?_
   refine ⟨⟨([] : List Int), y4.d, (by show (0 : Nat) ≤ _; omega), y4.hd⟩, ?_⟩
   exact Post.one (RV.w rfl (by rfl)) (AOs.obE (f := fun e => (l01Cur.c e).map .r) (e' := y4.d) rfl (DT.r (DT.r (DT.r DT.e))) (by rfl) AOs.e)
  ·skip
   refine CW.skip ?_
   refine CW.keep 20 [0,3] rfl ?_;(conv=>whnf);refine ⟨?_⟩
   refine CW.seq ?_
   refine CW.region ?_
   refine RW.k XK 20 2 rfl ?_
   (conv=>whnf);refine ⟨rfl,?_⟩
   refine RW.pullS 2 3 (by decide) rfl rfl ?_
   refine RW.nil ?_
   refine CW.keep 20 [0,2] rfl ?_;(conv=>whnf);refine ⟨?_⟩
   refine CW.ret ?_
   refine ⟨⟨y1.v, y4.d, (by (try simp only [List.length_append, List.length_singleton]); have h9 := y1.h; omega), y4.hd⟩, ?_⟩
   exact Post.one (RV.w rfl (by rfl)) (AOs.obE (f := fun e => (l01Cur.c e).map .r) (e' := y4.d) rfl (DT.r (DT.r (DT.r DT.e))) (by rfl) AOs.e)
set_option maxHeartbeats 4000000 in
theorem spec_l17Right_fn (c : l01Cur) (hc : curOk c) : Eng.FnX E.P (α := Drw (fun m : Message => MD 4 m)) 65 [.ob ((l01Cur.c c).map .r)] (fun y => .one (.agg ((Message.c y.v).map .w))) (fun y => [.ob ((l01Cur.c y.d).map .r)]) := by
 refine Eng.FnX.intro (E := E) (rvs := [.cell 2 25]) Try.func65 rfl rfl rfl (by intro y; simp [outSlots, moved, rvSlot, sl]) ?_
 intro B g bo
 refine CW.keep 77 [0] rfl ?_;(conv=>whnf);refine ⟨?_⟩
 refine CW.k XK 77 1 [0,2] rfl ?_
 (conv=>whnf);intro b1;(conv=>whnf);refine ⟨rfl,?_⟩
 refine CW.seq ?_
 refine CW.region ?_
 refine RW.k XK 77 1 rfl ?_
 (conv=>whnf);refine ⟨rfl,?_⟩
 refine RW.callPX (k := 0) (spec_l01Below_fn_dx c 6 hc) rfl rfl (Nat.le_of_ble_eq_true rfl) (by decide) rfl (DT.r (DT.r (DT.r DT.e))) (AsPs.here (os := []) (outs := []) rfl (.cons (.one (.r .r)) (.nil))) (fun _ => AsPs.here rfl (.cons (.one (.r .r)) (.nil))) fun y2 g3 q4 => ?_
 refine RW.k XK 77 2 rfl ?_
 (conv=>whnf);refine ⟨rfl,?_⟩
 refine RW.callPX (k := 0) (spec_l01Below_fn_dx y2.d 4 y2.hd) rfl rfl (Nat.le_of_ble_eq_true rfl) (by decide) rfl (DT.r (DT.r (DT.r DT.e))) (AsPs.here (os := []) (outs := []) rfl (.cons (.one (.r .r)) (.nil))) (fun _ => AsPs.here rfl (.cons (.one (.r .r)) (.nil))) fun y5 g6 q7 => ?_
 refine RW.k XK 77 2 rfl ?_
 (conv=>whnf);refine ⟨rfl,?_⟩
 refine RW.callPX (k := 0) (spec_l01Below_fn_dx y5.d 8 y5.hd) rfl rfl (Nat.le_of_ble_eq_true rfl) (by decide) rfl (DT.r (DT.r (DT.r DT.e))) (AsPs.here (os := []) (outs := []) rfl (.cons (.one (.r .r)) (.nil))) (fun _ => AsPs.here rfl (.cons (.one (.r .r)) (.nil))) fun y8 g9 q10 => ?_
 refine RW.k XK 77 1 rfl ?_
 (conv=>whnf);refine ⟨rfl,?_⟩
 refine RW.callPX (k := 0) (spec_l01Below_fn_dx y8.d 12 y8.hd) rfl rfl (Nat.le_of_ble_eq_true rfl) (by decide) rfl (DT.r (DT.r (DT.r DT.e))) (AsPs.here (os := []) (outs := []) rfl (.cons (.one (.r .r)) (.nil))) (fun _ => AsPs.here rfl (.cons (.one (.r .r)) (.nil))) fun y11 g12 q13 => ?_
 refine RW.k XK 77 1 rfl ?_
 (conv=>whnf);refine ⟨rfl,?_⟩
 refine RW.callPX (k := 0) (spec_l01Below_fn_dx y11.d 5 y11.hd) rfl rfl (Nat.le_of_ble_eq_true rfl) (by decide) rfl (DT.r (DT.r (DT.r DT.e))) (AsPs.here (os := []) (outs := []) rfl (.cons (.one (.r .r)) (.nil))) (fun _ => AsPs.here rfl (.cons (.one (.r .r)) (.nil))) fun y14 g15 q16 => ?_
 refine RW.k XK 77 1 rfl ?_
 (conv=>whnf);refine ⟨rfl,?_⟩
 refine RW.callPX (k := 0) (spec_l01Below_fn_dx y14.d 9 y14.hd) rfl rfl (Nat.le_of_ble_eq_true rfl) (by decide) rfl (DT.r (DT.r (DT.r DT.e))) (AsPs.here (os := []) (outs := []) rfl (.cons (.one (.r .r)) (.nil))) (fun _ => AsPs.here rfl (.cons (.one (.r .r)) (.nil))) fun y17 g18 q19 => ?_
 refine RW.k XK 77 1 rfl ?_
 (conv=>whnf);refine ⟨rfl,?_⟩
 refine RW.callPX (k := 0) (spec_l01Once_fn y17.d 2 y17.hd) rfl rfl (Nat.le_of_ble_eq_true rfl) (by decide) rfl (DT.r (DT.r (DT.r DT.e))) (AsPs.here (os := []) (outs := []) rfl (.cons (.one (.r .r)) (.nil))) (fun _ => AsPs.here rfl (.cons (.one (.r .r)) (.nil))) fun y20 g21 q22 => ?_
 refine RW.k XK 77 3 rfl ?_
 (conv=>whnf);intro b23;(conv=>whnf);refine ⟨rfl,?_⟩
 refine RW.nil ?_
 refine CW.keep 77 [0,2,3] rfl ?_;(conv=>whnf);refine ⟨?_⟩
 refine CW.k XK 77 1 [0,2,3] rfl ?_
 (conv=>whnf);refine ⟨rfl,?_⟩
 refine CW.seq ?_
 refine CW.k XK 77 1 [0,2,3,29] rfl ?_
 (conv=>whnf);refine ⟨rfl,?_⟩
 refine CW.block ?_
 refine CW.k XK 77 1 [0,2,3,29,30] rfl ?_
 (conv=>whnf);refine ⟨rfl,?_⟩
 refine CW.cond rfl (fun h24 => ?_) (fun h24 => ?_)
 ·skip
  refine CW.seq ?_
  refine CW.region ?_
  refine RW.k XK 77 4 rfl ?_
  (conv=>whnf);refine ⟨rfl,?_⟩
  refine RW.callPX (k := 0) (spec_l01Below_fn_dx y20.d (IntKind.i64.wrap (y8.v + 1)) y20.hd) rfl rfl (Nat.le_of_ble_eq_true rfl) (by decide) rfl (DT.r (DT.r (DT.r DT.e))) (AsPs.here (os := []) (outs := []) rfl (.cons (.one (.r .r)) (.nil))) (fun _ => AsPs.here rfl (.cons (.one (.r .r)) (.nil))) fun y25 g26 q27 => ?_
  refine RW.k XK 77 2 rfl ?_
  (conv=>whnf);refine ⟨rfl,?_⟩
  refine RW.nil ?_
  refine CW.keep 77 [0,2,3] rfl ?_;(conv=>whnf);refine ⟨?_⟩
  refine CW.k XK 77 2 [0,2,3,4,5] rfl ?_
  (conv=>whnf);refine ⟨rfl,?_⟩
  refine CW.block ?_
  refine CW.nilCell 3 8 3 Entry.c rfl rfl ?_
  refine CW.loopI 77 (fun (zz : Nat × Int × List Entry × Value × l01Cur) => match zz with | (i, t, es, X, d) => [(0, .obj (bo 0) ((l01Cur.c d).map .r)), (2, .obj b1 [I 0, I 0, I 0, I 0, I 0, I 0, I 0, Bo false, .r (.v (.slice none 0 0)), .r (.v (.slice none 0 0)), S (⟨#[]⟩), Bo false]), (3, .obj b23 [I (IntKind.i64.wrap (1 + y2.v)), I (IntKind.i64.wrap (1 + y5.v)), I (IntKind.i64.wrap ((Int.tmod (IntKind.i64.wrap (1 + y5.v)) 4) + 1)), I y8.v, I y11.v, I y25.v, I y17.v, Bo y20.v, .w (sl 3 Entry.c es) X, .r (.v (.slice none 0 0)), S (⟨#[]⟩), Bo false]), (4, I t), (5, I (i : Int))]) (fun (zz : Nat × Int × List Entry × Value × l01Cur) => match zz with | (i, t, es, X, d) => curOk d ∧ es.length = i ∧ i ≤ 4 ∧ ∀ e ∈ es, e.data.size ≤ 1048576) (fun (zz : Nat × Int × List Entry × Value × l01Cur) => match zz with | (i, t, es, X, d) => 5 - i) (0, _, [], _, _) rfl (Le.c rfl <| Le.c rfl <| Le.c rfl <| Le.c rfl <| Le.c rfl <| Le.e) ⟨y25.hd, rfl, by omega, fun _ h9 => by cases h9⟩ ?_
  rintro ⟨i, t, es, X, d⟩ ⟨hd, hl, hi4, hall⟩
  refine CW.seq ?_
  refine CW.seq ?_
  refine CW.region ?_
  refine RW.k XK 77 2 rfl ?_
  (conv=>whnf);refine ⟨rfl,?_⟩
  refine RW.callPX (k := 0) (spec_l01Below_fn_dx d 5 hd) rfl rfl (Nat.le_of_ble_eq_true rfl) (by decide) rfl (DT.r (DT.r (DT.r DT.e))) (AsPs.here (os := []) (outs := []) rfl (.cons (.one (.r .r)) (.nil))) (fun _ => AsPs.here rfl (.cons (.one (.r .r)) (.nil))) fun y28 g29 q30 => ?_
  refine RW.k XK 77 1 rfl ?_
  (conv=>whnf);refine ⟨rfl,?_⟩
  refine RW.nil ?_
  refine CW.keep 77 [0,2,3,4,5,43] rfl ?_;(conv=>whnf);refine ⟨?_⟩
  refine CW.cond rfl (fun h31 => ?_) (fun h31 => ?_)
  ·skip
   have hlt := of_decide_eq_true h31
   have hyl := y28.h.2 (by omega)
   refine CW.skip ?_
   refine CW.keep 77 [0,2,3,4,5] rfl ?_;(conv=>whnf);refine ⟨?_⟩
   refine CW.seq ?_
   refine CW.block ?_
   refine CW.seq ?_
   refine CW.region ?_
   refine RW.k XK 77 7 rfl ?_
   (conv=>whnf);refine ⟨rfl,?_⟩
   refine RW.callPX (k := 0) (spec_l01Below_fn_dx y28.d (IntKind.i64.wrap ((IntKind.i64.wrap (y8.v - t)) + 1)) y28.hd) rfl rfl (Nat.le_of_ble_eq_true rfl) (by decide) rfl (DT.r (DT.r (DT.r DT.e))) (AsPs.here (os := []) (outs := []) rfl (.cons (.one (.r .r)) (.nil))) (fun _ => AsPs.here rfl (.cons (.one (.r .r)) (.nil))) fun y32 g33 q34 => ?_
   refine RW.k XK 77 2 rfl ?_
   (conv=>whnf);refine ⟨rfl,?_⟩
   refine RW.nil ?_
   refine CW.keep 77 [0,2,3,4,5] rfl ?_;(conv=>whnf);refine ⟨?_⟩
   refine CW.anyR2 (fc := [(2, b1, [.int .i64 0, .int .i64 0, .int .i64 0, .int .i64 0, .int .i64 0, .int .i64 0, .int .i64 0, .bool false, .slice none 0 0, .slice none 0 0, .string (⟨#[]⟩), .bool false])]) (L0 := [(2, .obj b1 [I 0, I 0, I 0, I 0, I 0, I 0, I 0, Bo false, .r (.v (.slice none 0 0)), .r (.v (.slice none 0 0)), S (⟨#[]⟩), Bo false]), (4, I (IntKind.i64.wrap (t + y32.v))), (5, I (i : Int))]) 77 (fun (zz : Value × Value × (Nat → Nat → Value) × (Nat → Value) × (Drw (fun e : Entry => e.data.size ≤ 1048576))) => match zz with | (Xo35_5_1, Xo35_6_1, go35_4_2, qo35_4_3, yo35_4_1) => [(0, .obj (bo 0) ((l01Cur.c yo35_4_1.d).map .r)), (3, .obj b23 [I (IntKind.i64.wrap (1 + y2.v)), I (IntKind.i64.wrap (1 + y5.v)), I (IntKind.i64.wrap ((Int.tmod (IntKind.i64.wrap (1 + y5.v)) 4) + 1)), I y8.v, I y11.v, I y25.v, I y17.v, Bo y20.v, .w (sl 3 Entry.c (es ++ ([yo35_4_1.v]))) Xo35_6_1, .r (.v (.slice none 0 0)), S (⟨#[]⟩), Bo false])]) (fun all hall f hf b0 hb K hK => ?_) ?_
   ·skip
    have ro35_7 : ∀ B, ∀ (Xo35_5_1 : Value), ∀ (Xo35_6_1 : Value), ∀ (go35_4_2 : Nat → Nat → Value), ∀ (qo35_4_3 : Nat → Value), ∀ (yo35_4_1 : Drw (fun e : Entry => e.data.size ≤ 1048576)), RA f E B all 0 (bt 9 511) ⟨77, [(0, .obj (bo 0) ((l01Cur.c yo35_4_1.d).map .r)), (3, .obj b23 [I (IntKind.i64.wrap (1 + y2.v)), I (IntKind.i64.wrap (1 + y5.v)), I (IntKind.i64.wrap ((Int.tmod (IntKind.i64.wrap (1 + y5.v)) 4) + 1)), I y8.v, I y11.v, I y25.v, I y17.v, Bo y20.v, .w (sl 3 Entry.c (es ++ ([yo35_4_1.v]))) Xo35_6_1, .r (.v (.slice none 0 0)), S (⟨#[]⟩), Bo false])] ++ b0⟩ K := by
     intro B Xo35_5_1 Xo35_6_1 go35_4_2 qo35_4_3 yo35_4_1
     exact RA.of2 hall hf hb (RA.finH (Tell.of rfl) (by kernel_rfl) (hK (Xo35_5_1, Xo35_6_1, go35_4_2, qo35_4_3, yo35_4_1) _ rfl (Le.of rfl)))
    have ro35_6 : ∀ B, ∀ (Xo35_5_1 : Value), ∀ (Xo35_6_1 : Value), ∀ (go35_4_2 : Nat → Nat → Value), ∀ (qo35_4_3 : Nat → Value), ∀ (yo35_4_1 : Drw (fun e : Entry => e.data.size ≤ 1048576)), RA f E B all 1 (bt 9 255) ⟨77, [(0, .obj (bo 0) ((l01Cur.c yo35_4_1.d).map .r)), (3, .obj b23 [I (IntKind.i64.wrap (1 + y2.v)), I (IntKind.i64.wrap (1 + y5.v)), I (IntKind.i64.wrap ((Int.tmod (IntKind.i64.wrap (1 + y5.v)) 4) + 1)), I y8.v, I y11.v, I y25.v, I y17.v, Bo y20.v, .u, .r (.v (.slice none 0 0)), S (⟨#[]⟩), Bo false]), (61, .w (sl 3 Entry.c (es ++ ([yo35_4_1.v]))) Xo35_6_1), (62, .pt 3 b23 8)] ++ b0⟩ K := by
     intro B Xo35_5_1 Xo35_6_1 go35_4_2 qo35_4_3 yo35_4_1
     refine RA.of2 hall hf hb (RA.stepH (L := [8]) (Tell.of rfl) (by kernel_rfl) (by simp) (RA.each ?_ (RA.each0)))
     ·skip
      refine RO.store (d := .al 61 none 3 ((es ++ ([yo35_4_1.v])).length) Xo35_6_1 0) rfl rfl rfl rfl rfl rfl rfl rfl rfl (Nat.le_of_ble_eq_true rfl) rfl rfl ?_
      refine RA.keep 77 [0,2,3,4,5,61] rfl ?_;(conv=>whnf);refine ⟨?_⟩
      refine RA.pullT (k := 3) (l := 61) (j := 8) 3 61 8 rfl rfl rfl (by decide) rfl rfl rfl ?_
      refine RA.keep 77 [0,2,3,4,5] rfl ?_;(conv=>whnf);refine ⟨?_⟩
      exact RA.to2 hall hf hb (ro35_7 B Xo35_5_1 Xo35_6_1 go35_4_2 qo35_4_3 yo35_4_1) rfl rfl (by kernel_rfl)
    have ro35_5 : ∀ B, ∀ (Xo35_5_1 : Value), ∀ (go35_4_2 : Nat → Nat → Value), ∀ (qo35_4_3 : Nat → Value), ∀ (yo35_4_1 : Drw (fun e : Entry => e.data.size ≤ 1048576)), RA f E B all 3 (bt 9 63) ⟨77, [(0, .obj (bo 0) ((l01Cur.c yo35_4_1.d).map .r)), (3, .obj b23 [I (IntKind.i64.wrap (1 + y2.v)), I (IntKind.i64.wrap (1 + y5.v)), I (IntKind.i64.wrap ((Int.tmod (IntKind.i64.wrap (1 + y5.v)) 4) + 1)), I y8.v, I y11.v, I y25.v, I y17.v, Bo y20.v, .w (sl 3 Entry.c es) X, .r (.v (.slice none 0 0)), S (⟨#[]⟩), Bo false]), (56, .al 3 (some 8) 3 es.length X 0), (60, .w (sl 3 Entry.c ([yo35_4_1.v])) Xo35_5_1)] ++ b0⟩ K := by
     intro B Xo35_5_1 go35_4_2 qo35_4_3 yo35_4_1
     refine RA.of2 hall hf hb (RA.stepH (L := [6]) (Tell.of rfl) (by kernel_rfl) (by simp) (RA.each ?_ (RA.each0)))
     ·skip
      refine RO.takeO 56 3 8 (by decide) rfl rfl rfl ?_
      refine RO.appendSR (c := Entry.c) (l1 := es) (l2 := [yo35_4_1.v]) rfl rfl rfl rfl rfl rfl rfl rfl rfl rfl (.al (k := none) (i := 60) (sz := 3) (V := Xo35_5_1) rfl rfl nofun) (by decide) (Nat.le_of_ble_eq_true rfl) Entry.len (fun _ => rfl) rfl (by simp only [maxLen, List.length_singleton]; omega) (by simp only [maxLen, List.length_singleton]; omega) fun Xo35_6_1 => ?_
      refine RA.fr XK 77 1 [7] (bt 9 255) rfl rfl (by kernel_rfl) (Tell.of rfl) ?_
      (conv=>whnf);refine ⟨rfl,fun B=>?_⟩
      exact RA.to2 hall hf hb (ro35_6 B Xo35_5_1 Xo35_6_1 go35_4_2 qo35_4_3 yo35_4_1) rfl rfl (by kernel_rfl)
    have ro35_4 : ∀ B, ∀ (Xo35_5_1 : Value), ∀ (go35_4_2 : Nat → Nat → Value), ∀ (qo35_4_3 : Nat → Value), ∀ (yo35_4_1 : Drw (fun e : Entry => e.data.size ≤ 1048576)), RA f E B all 4 (bt 9 61) ⟨77, [(0, .obj (bo 0) ((l01Cur.c yo35_4_1.d).map .r)), (3, .obj b23 [I (IntKind.i64.wrap (1 + y2.v)), I (IntKind.i64.wrap (1 + y5.v)), I (IntKind.i64.wrap ((Int.tmod (IntKind.i64.wrap (1 + y5.v)) 4) + 1)), I y8.v, I y11.v, I y25.v, I y17.v, Bo y20.v, .w (sl 3 Entry.c es) X, .r (.v (.slice none 0 0)), S (⟨#[]⟩), Bo false]), (55, .pt 3 b23 8), (60, .w (sl 3 Entry.c ([yo35_4_1.v])) Xo35_5_1)] ++ b0⟩ K := by
     intro B Xo35_5_1 go35_4_2 qo35_4_3 yo35_4_1
     refine RA.of2 hall hf hb (RA.stepH (L := [1]) (Tell.of rfl) (by kernel_rfl) (by simp) (RA.each ?_ (RA.each0)))
     ·skip
      refine RO.v rfl rfl (V.loadPrim (d := .al 3 (some 8) 3 es.length X 0) rfl rfl (.inr ⟨_, rfl⟩) rfl rfl rfl) rfl ?_
      exact RA.to2 hall hf hb (ro35_5 B Xo35_5_1 go35_4_2 qo35_4_3 yo35_4_1) rfl rfl (by kernel_rfl)
    have ro35_3 : ∀ B, ∀ (go35_4_2 : Nat → Nat → Value), ∀ (qo35_4_3 : Nat → Value), ∀ (yo35_4_1 : Drw (fun e : Entry => e.data.size ≤ 1048576)), RA f E B all 4 (bt 9 31) ⟨77, [(0, .obj (bo 0) ((l01Cur.c yo35_4_1.d).map .r)), (3, .obj b23 [I (IntKind.i64.wrap (1 + y2.v)), I (IntKind.i64.wrap (1 + y5.v)), I (IntKind.i64.wrap ((Int.tmod (IntKind.i64.wrap (1 + y5.v)) 4) + 1)), I y8.v, I y11.v, I y25.v, I y17.v, Bo y20.v, .w (sl 3 Entry.c es) X, .r (.v (.slice none 0 0)), S (⟨#[]⟩), Bo false]), (56, .al 3 (some 8) 3 es.length X 0), (59, .agg ((Entry.c yo35_4_1.v).map .r))] ++ b0⟩ K := by
     intro B go35_4_2 qo35_4_3 yo35_4_1
     refine RA.of2 hall hf hb (RA.stepH (L := [5]) (Tell.of rfl) (by kernel_rfl) (by simp) (RA.each ?_ (RA.each0)))
     ·skip
      refine RO.build1 (c := Entry.c) (v := yo35_4_1.v) rfl rfl rfl rfl rfl rfl rfl rfl (DW.v (DW.v (DW.v DW.e))) Entry.len (by decide) (by decide) fun Xo35_5_1 => ?_
      exact RA.to2 hall hf hb (ro35_5 B Xo35_5_1 go35_4_2 qo35_4_3 yo35_4_1) rfl rfl (by kernel_rfl)
    have ro35_2 : ∀ B, ∀ (go35_4_2 : Nat → Nat → Value), ∀ (qo35_4_3 : Nat → Value), ∀ (yo35_4_1 : Drw (fun e : Entry => e.data.size ≤ 1048576)), RA f E B all 5 (bt 9 29) ⟨77, [(0, .obj (bo 0) ((l01Cur.c yo35_4_1.d).map .r)), (3, .obj b23 [I (IntKind.i64.wrap (1 + y2.v)), I (IntKind.i64.wrap (1 + y5.v)), I (IntKind.i64.wrap ((Int.tmod (IntKind.i64.wrap (1 + y5.v)) 4) + 1)), I y8.v, I y11.v, I y25.v, I y17.v, Bo y20.v, .w (sl 3 Entry.c es) X, .r (.v (.slice none 0 0)), S (⟨#[]⟩), Bo false]), (55, .pt 3 b23 8), (59, .agg ((Entry.c yo35_4_1.v).map .r))] ++ b0⟩ K := by
     intro B go35_4_2 qo35_4_3 yo35_4_1
     refine RA.of2 hall hf hb (RA.stepH (L := [1, 5]) (Tell.of rfl) (by kernel_rfl) (by simp) (RA.each ?_ (RA.each ?_ (RA.each0))))
     ·skip
      refine RO.v rfl rfl (V.loadPrim (d := .al 3 (some 8) 3 es.length X 0) rfl rfl (.inr ⟨_, rfl⟩) rfl rfl rfl) rfl ?_
      exact RA.to2 hall hf hb (ro35_3 B go35_4_2 qo35_4_3 yo35_4_1) rfl rfl (by kernel_rfl)
     ·skip
      refine RO.build1 (c := Entry.c) (v := yo35_4_1.v) rfl rfl rfl rfl rfl rfl rfl rfl (DW.v (DW.v (DW.v DW.e))) Entry.len (by decide) (by decide) fun Xo35_5_1 => ?_
      exact RA.to2 hall hf hb (ro35_4 B Xo35_5_1 go35_4_2 qo35_4_3 yo35_4_1) rfl rfl (by kernel_rfl)
    have ro35_1 : ∀ B, RA f E B all 5 (bt 9 15) ⟨77, [(0, .obj (bo 0) ((l01Cur.c y32.d).map .r)), (3, .obj b23 [I (IntKind.i64.wrap (1 + y2.v)), I (IntKind.i64.wrap (1 + y5.v)), I (IntKind.i64.wrap ((Int.tmod (IntKind.i64.wrap (1 + y5.v)) 4) + 1)), I y8.v, I y11.v, I y25.v, I y17.v, Bo y20.v, .w (sl 3 Entry.c es) X, .r (.v (.slice none 0 0)), S (⟨#[]⟩), Bo false]), (56, .al 3 (some 8) 3 es.length X 0), (57, .pt 0 (bo 0) 0), (58, I (IntKind.i64.wrap (t + y32.v)))] ++ b0⟩ K := by
     intro B
     refine RA.of2 hall hf hb (RA.stepH (L := [4]) (Tell.of rfl) (by kernel_rfl) (by simp) (RA.each ?_ (RA.each0)))
     ·skip
      refine RO.callPX (k := 0) (spec_l05Right_fn y32.d (IntKind.i64.wrap (t + y32.v)) y32.hd) rfl rfl rfl rfl (Nat.le_of_ble_eq_true rfl) (by decide) rfl (DT.r (DT.r (DT.r DT.e))) (AsPs.here (os := []) (outs := []) rfl (.cons (.one (.r .r)) (.nil))) (fun _ => AsPs.here rfl (.cons (.one (.r .r)) (.nil))) fun yo35_4_1 go35_4_2 qo35_4_3 => ?_
      exact RA.to2 hall hf hb (ro35_3 B go35_4_2 qo35_4_3 yo35_4_1) rfl rfl (by kernel_rfl)
    have ro35_0 : ∀ B, RA f E B all 6 (bt 9 13) ⟨77, [(0, .obj (bo 0) ((l01Cur.c y32.d).map .r)), (3, .obj b23 [I (IntKind.i64.wrap (1 + y2.v)), I (IntKind.i64.wrap (1 + y5.v)), I (IntKind.i64.wrap ((Int.tmod (IntKind.i64.wrap (1 + y5.v)) 4) + 1)), I y8.v, I y11.v, I y25.v, I y17.v, Bo y20.v, .w (sl 3 Entry.c es) X, .r (.v (.slice none 0 0)), S (⟨#[]⟩), Bo false]), (55, .pt 3 b23 8), (57, .pt 0 (bo 0) 0), (58, I (IntKind.i64.wrap (t + y32.v)))] ++ b0⟩ K := by
     intro B
     refine RA.of2 hall hf hb (RA.stepH (L := [1, 4]) (Tell.of rfl) (by kernel_rfl) (by simp) (RA.each ?_ (RA.each ?_ (RA.each0))))
     ·skip
      refine RO.v rfl rfl (V.loadPrim (d := .al 3 (some 8) 3 es.length X 0) rfl rfl (.inr ⟨_, rfl⟩) rfl rfl rfl) rfl ?_
      exact RA.to2 hall hf hb (ro35_1 B) rfl rfl (by kernel_rfl)
     ·skip
      refine RO.callPX (k := 0) (spec_l05Right_fn y32.d (IntKind.i64.wrap (t + y32.v)) y32.hd) rfl rfl rfl rfl (Nat.le_of_ble_eq_true rfl) (by decide) rfl (DT.r (DT.r (DT.r DT.e))) (AsPs.here (os := []) (outs := []) rfl (.cons (.one (.r .r)) (.nil))) (fun _ => AsPs.here rfl (.cons (.one (.r .r)) (.nil))) fun yo35_4_1 go35_4_2 qo35_4_3 => ?_
      exact RA.to2 hall hf hb (ro35_2 B go35_4_2 qo35_4_3 yo35_4_1) rfl rfl (by kernel_rfl)
    refine RA.start (by kernel_rfl) (by kernel_rfl) (m := 9) (ls' := (bt 9 0)) ?_
    refine RA.fr XK 77 6 [0,2,3] (bt 9 13) rfl rfl (by kernel_rfl) (Tell.of rfl) ?_
    (conv=>whnf);refine ⟨rfl,fun B=>?_⟩
    exact RA.to2 hall hf hb (ro35_0 B) rfl rfl (by kernel_rfl)
   ·rintro ⟨Xo35_5_1, Xo35_6_1, go35_4_2, qo35_4_3, yo35_4_1⟩
    refine CW.keep 77 [0,2,3,4,5] rfl ?_;(conv=>whnf);refine ⟨?_⟩
    refine CW.region ?_
    refine RW.k XK 77 1 rfl ?_
    (conv=>whnf);refine ⟨rfl,?_⟩
    refine RW.v rfl (V.inc rfl rfl rfl (show i < 4 by omega) (by simp only [maxLen]; omega)) ?_
    refine RW.k XK 77 1 rfl ?_
    (conv=>whnf);refine ⟨rfl,?_⟩
    refine RW.nil ?_
    exact ⟨(i + 1, (IntKind.i64.wrap (t + y32.v)), _, _, _), by simp only []; omega, ⟨yo35_4_1.hd, by (try simp only []); rw [List.length_append, List.length_singleton]; omega, by omega, snoc_all hall yo35_4_1.h⟩, rfl, Le.c rfl <| Le.c rfl <| Le.c rfl <| Le.c rfl <| Le.c rfl <| Le.e⟩
  ·skip
   have hge := of_decide_eq_false h31
   refine CW.exit ?_
   refine CW.keep 77 [0,2,3] rfl ?_;(conv=>whnf);refine ⟨?_⟩
   refine CW.seq ?_
   refine CW.region ?_
   refine RW.k XK 77 2 rfl ?_
   (conv=>whnf);refine ⟨rfl,?_⟩
   refine RW.keep 77 [0,2,3] rfl ?_;(conv=>whnf);refine ⟨?_⟩
   refine RW.pullO (k := 2) (l := 3) (j := 8) 2 3 8 rfl rfl rfl (by decide) rfl rfl rfl rfl ?_
   refine RW.keep 77 [0,2,3] rfl ?_;(conv=>whnf);refine ⟨?_⟩
   refine RW.nil ?_
   refine CW.keep 77 [0,2] rfl ?_;(conv=>whnf);refine ⟨?_⟩
   refine CW.ret ?_
   refine ⟨⟨(⟨(IntKind.i64.wrap (1 + y2.v)), (IntKind.i64.wrap (1 + y5.v)), (IntKind.i64.wrap ((Int.tmod (IntKind.i64.wrap (1 + y5.v)) 4) + 1)), y8.v, y11.v, y25.v, y17.v, y20.v, es, [], ⟨#[]⟩, false⟩ : Message), y28.d, ⟨(by show es.length ≤ _; omega), hall, (by show (0 : Nat) ≤ _; omega), (by show (0 : Nat) ≤ _; omega)⟩, y28.hd⟩, ?_⟩
   exact Post.one (RV.c (f := fun e => (Message.c e).map .w) (e' := (⟨(IntKind.i64.wrap (1 + y2.v)), (IntKind.i64.wrap (1 + y5.v)), (IntKind.i64.wrap ((Int.tmod (IntKind.i64.wrap (1 + y5.v)) 4) + 1)), y8.v, y11.v, y25.v, y17.v, y20.v, es, [], ⟨#[]⟩, false⟩ : Message)) rfl rfl rfl rfl (DT.v (DT.v (DT.v (DT.v (DT.v (DT.v (DT.v (DT.v (DT.w (DT.n (DT.v (DT.v DT.e)))))))))))) (by rfl)) (AOs.obE (f := fun e => (l01Cur.c e).map .r) (e' := y28.d) rfl (DT.r (DT.r (DT.r DT.e))) (by rfl) AOs.e)
 ·skip
  refine CW.k XK 77 1 [0,2,3,63] rfl ?_
  (conv=>whnf);refine ⟨rfl,?_⟩
  refine CW.cond rfl (fun h36 => ?_) (fun h36 => ?_)
  ·skip
   refine CW.seq ?_
   refine CW.region ?_
   refine RW.k XK 77 1 rfl ?_
   (conv=>whnf);refine ⟨rfl,?_⟩
   refine RW.callPX (k := 0) (spec_l05Conf_fn y20.d y20.hd) rfl rfl (Nat.le_of_ble_eq_true rfl) (by decide) rfl (DT.r (DT.r (DT.r DT.e))) (AsPs.here (os := []) (outs := []) rfl (.nil)) (fun _ => AsPs.here rfl (.nil)) fun y37 g38 q39 => ?_
   refine RW.k XK 77 2 rfl ?_
   (conv=>whnf);refine ⟨rfl,?_⟩
   refine RW.keep 77 [0,2,3,66] rfl ?_;(conv=>whnf);refine ⟨?_⟩
   refine RW.pullT (k := 3) (l := 66) (j := 9) 3 66 9 rfl rfl rfl (by decide) rfl rfl rfl ?_
   refine RW.keep 77 [0,2,3] rfl ?_;(conv=>whnf);refine ⟨?_⟩
   refine RW.nil ?_
   refine CW.keep 77 [0,2,3] rfl ?_;(conv=>whnf);refine ⟨?_⟩
   refine CW.seq ?_
   refine CW.region ?_
   refine RW.k XK 77 2 rfl ?_
   (conv=>whnf);refine ⟨rfl,?_⟩
   refine RW.callPX (k := 0) (spec_l01Below_fn_dx y37.d 9 y37.hd) rfl rfl (Nat.le_of_ble_eq_true rfl) (by decide) rfl (DT.r (DT.r (DT.r DT.e))) (AsPs.here (os := []) (outs := []) rfl (.cons (.one (.r .r)) (.nil))) (fun _ => AsPs.here rfl (.cons (.one (.r .r)) (.nil))) fun y40 g41 q42 => ?_
   refine RW.callPX (k := 0) (spec_l01Text_fn y40.d y40.v y40.hd) rfl rfl (Nat.le_of_ble_eq_true rfl) (by decide) rfl (DT.r (DT.r (DT.r DT.e))) (AsPs.here (os := []) (outs := []) rfl (.cons (.one (.r .r)) (.nil))) (fun _ => AsPs.here rfl (.cons (.one (.r .r)) (.nil))) fun y43 g44 q45 => ?_
   refine RW.k XK 77 2 rfl ?_
   (conv=>whnf);refine ⟨rfl,?_⟩
   refine RW.nil ?_
   refine CW.keep 77 [0,2,3] rfl ?_;(conv=>whnf);refine ⟨?_⟩
   refine CW.region ?_
   refine RW.k XK 77 1 rfl ?_
   (conv=>whnf);refine ⟨rfl,?_⟩
   refine RW.callPX (k := 0) (spec_l01Once_fn y43.d 2 y43.hd) rfl rfl (Nat.le_of_ble_eq_true rfl) (by decide) rfl (DT.r (DT.r (DT.r DT.e))) (AsPs.here (os := []) (outs := []) rfl (.cons (.one (.r .r)) (.nil))) (fun _ => AsPs.here rfl (.cons (.one (.r .r)) (.nil))) fun y46 g47 q48 => ?_
   refine RW.k XK 77 2 rfl ?_
   (conv=>whnf);refine ⟨rfl,?_⟩
   refine RW.nil ?_
   refine CW.keep 77 [0,2,3] rfl ?_;(conv=>whnf);refine ⟨?_⟩
   refine CW.seq ?_
   refine CW.region ?_
   refine RW.k XK 77 2 rfl ?_
   (conv=>whnf);refine ⟨rfl,?_⟩
   refine RW.keep 77 [0,2,3] rfl ?_;(conv=>whnf);refine ⟨?_⟩
   refine RW.pullO (k := 2) (l := 3) (j := 9) 2 3 9 rfl rfl rfl (by decide) rfl rfl rfl rfl ?_
   refine RW.keep 77 [0,2,3] rfl ?_;(conv=>whnf);refine ⟨?_⟩
   refine RW.nil ?_
   refine CW.keep 77 [0,2] rfl ?_;(conv=>whnf);refine ⟨?_⟩
   refine CW.ret ?_
   refine ⟨⟨(⟨(IntKind.i64.wrap (1 + y2.v)), (IntKind.i64.wrap (1 + y5.v)), (IntKind.i64.wrap ((Int.tmod (IntKind.i64.wrap (1 + y5.v)) 4) + 1)), y8.v, y11.v, y14.v, y17.v, y20.v, [], y37.v, y43.v, y46.v⟩ : Message), y46.d, ⟨(by show (0 : Nat) ≤ _; omega), (fun _ h9 => by cases h9), (Nat.le_trans y37.h (by omega)), (Nat.le_trans y43.h (by omega))⟩, y46.hd⟩, ?_⟩
   exact Post.one (RV.c (f := fun e => (Message.c e).map .w) (e' := (⟨(IntKind.i64.wrap (1 + y2.v)), (IntKind.i64.wrap (1 + y5.v)), (IntKind.i64.wrap ((Int.tmod (IntKind.i64.wrap (1 + y5.v)) 4) + 1)), y8.v, y11.v, y14.v, y17.v, y20.v, [], y37.v, y43.v, y46.v⟩ : Message)) rfl rfl rfl rfl (DT.v (DT.v (DT.v (DT.v (DT.v (DT.v (DT.v (DT.v (DT.n (DT.w (DT.v (DT.v DT.e)))))))))))) (by rfl)) (AOs.obE (f := fun e => (l01Cur.c e).map .r) (e' := y46.d) rfl (DT.r (DT.r (DT.r DT.e))) (by rfl) AOs.e)
  ·skip
   refine CW.skip ?_
   refine CW.keep 77 [0,2,3] rfl ?_;(conv=>whnf);refine ⟨?_⟩
   refine CW.k XK 77 1 [0,2] rfl ?_
   (conv=>whnf);refine ⟨rfl,?_⟩
   refine CW.ret ?_
   refine ⟨⟨(⟨(IntKind.i64.wrap (1 + y2.v)), (IntKind.i64.wrap (1 + y5.v)), (IntKind.i64.wrap ((Int.tmod (IntKind.i64.wrap (1 + y5.v)) 4) + 1)), y8.v, y11.v, y14.v, y17.v, y20.v, [], [], ⟨#[]⟩, false⟩ : Message), y20.d, ⟨(by show (0 : Nat) ≤ _; omega), (fun _ h9 => by cases h9), (by show (0 : Nat) ≤ _; omega), (by show (0 : Nat) ≤ _; omega)⟩, y20.hd⟩, ?_⟩
   exact Post.one (RV.c (f := fun e => (Message.c e).map .w) (e' := (⟨(IntKind.i64.wrap (1 + y2.v)), (IntKind.i64.wrap (1 + y5.v)), (IntKind.i64.wrap ((Int.tmod (IntKind.i64.wrap (1 + y5.v)) 4) + 1)), y8.v, y11.v, y14.v, y17.v, y20.v, [], [], ⟨#[]⟩, false⟩ : Message)) rfl rfl rfl rfl (DT.v (DT.v (DT.v (DT.v (DT.v (DT.v (DT.v (DT.v (DT.n (DT.n (DT.v (DT.v DT.e)))))))))))) (by rfl)) (AOs.obE (f := fun e => (l01Cur.c e).map .r) (e' := y20.d) rfl (DT.r (DT.r (DT.r DT.e))) (by rfl) AOs.e)
set_option maxHeartbeats 4000000 in
theorem spec_l17Any_fn (c : l01Cur) (hc : curOk c) : Eng.FnX E.P (α := Drw (fun m : Message => MD 5 m)) 36 [.ob ((l01Cur.c c).map .r)] (fun y => .one (.agg ((Message.c y.v).map .w))) (fun y => [.ob ((l01Cur.c y.d).map .r)]) := by
 refine Eng.FnX.intro (E := E) (rvs := [.cell 2 25]) Try.func36 rfl rfl rfl (by intro y; simp [outSlots, moved, rvSlot, sl]) ?_
 intro B g bo
 refine CW.keep 59 [0] rfl ?_;(conv=>whnf);refine ⟨?_⟩
 refine CW.k XK 59 1 [0,2] rfl ?_
 (conv=>whnf);intro b1;(conv=>whnf);refine ⟨rfl,?_⟩
 refine CW.seq ?_
 refine CW.region ?_
 refine RW.k XK 59 1 rfl ?_
 (conv=>whnf);refine ⟨rfl,?_⟩
 refine RW.callPX (k := 0) (spec_l17Right_fn c hc) rfl rfl (Nat.le_of_ble_eq_true rfl) (by decide) rfl (DT.r (DT.r (DT.r DT.e))) (AsPs.here (os := []) (outs := []) rfl (.nil)) (fun _ => AsPs.here rfl (.nil)) fun y2 g3 q4 => ?_
 refine RW.k XK 59 2 rfl ?_
 (conv=>whnf);intro b5;(conv=>whnf);refine ⟨rfl,?_⟩
 refine RW.keep 59 [0,2,3,5] rfl ?_;(conv=>whnf);refine ⟨?_⟩
 refine RW.pullA (k := 3) (l := 5) (j := 8) 3 5 8 rfl rfl rfl (by decide) rfl rfl rfl rfl ?_
 refine RW.keep 59 [0,2,3,5] rfl ?_;(conv=>whnf);refine ⟨?_⟩
 refine RW.pullA (k := 3) (l := 5) (j := 9) 3 5 9 rfl rfl rfl (by decide) rfl rfl rfl rfl ?_
 refine RW.keep 59 [0,2,3] rfl ?_;(conv=>whnf);refine ⟨?_⟩
 refine RW.nil ?_
 refine CW.keep 59 [0,2,3] rfl ?_;(conv=>whnf);refine ⟨?_⟩
 refine CW.seq ?_
 refine CW.seq ?_
 refine CW.region ?_
 refine RW.k XK 59 1 rfl ?_
 (conv=>whnf);refine ⟨rfl,?_⟩
 refine RW.callPX (k := 0) (spec_l01Below_fn_dx y2.d 40 y2.hd) rfl rfl (Nat.le_of_ble_eq_true rfl) (by decide) rfl (DT.r (DT.r (DT.r DT.e))) (AsPs.here (os := []) (outs := []) rfl (.cons (.one (.r .r)) (.nil))) (fun _ => AsPs.here rfl (.cons (.one (.r .r)) (.nil))) fun y6 g7 q8 => ?_
 refine RW.nil ?_
 refine CW.keep 59 [0,2,3,7] rfl ?_;(conv=>whnf);refine ⟨?_⟩
 refine CW.block ?_
 refine CW.k XK 59 1 [0,2,3,7,8] rfl ?_
 (conv=>whnf);refine ⟨rfl,?_⟩
 refine CW.cond rfl (fun h9 => ?_) (fun h9 => ?_)
 ·skip
  refine CW.region ?_
  refine RW.k XK 59 1 rfl ?_
  (conv=>whnf);refine ⟨rfl,?_⟩
  refine RW.buildK (c := cI) (L := [0, 7, 1, 5]) (vs := [(.int .i64 0), (.int .i64 7), (.int .i64 1), (.int .i64 5)]) rfl rfl rfl rfl rfl (fun _ => rfl) rfl rfl rfl (by decide) (by decide) rfl rfl fun X10 => ?_
  refine RW.freeze 11 (d' := .r (sl 1 cI ([0, 7, 1, 5] : List Int))) rfl rfl ?_
  refine RW.callPX (k := 0) (spec_l01PickInt_fn y6.d ([0, 7, 1, 5] : List Int) y6.hd (Nat.le_of_ble_eq_true rfl)) rfl rfl (Nat.le_of_ble_eq_true rfl) (by decide) rfl (DT.r (DT.r (DT.r DT.e))) (AsPs.here (os := []) (outs := []) rfl (.cons (.one (.r .r)) (.nil))) (fun _ => AsPs.here rfl (.cons (.one (.r .r)) (.nil))) fun y11 g12 q13 => ?_
  refine RW.k XK 59 2 rfl ?_
  (conv=>whnf);refine ⟨rfl,?_⟩
  refine RW.nil ?_
  refine CW.keep 59 [0,2,3] rfl ?_;(conv=>whnf);refine ⟨?_⟩
  refine CW.seq ?_
  refine CW.region ?_
  refine RW.k XK 59 2 rfl ?_
  (conv=>whnf);refine ⟨rfl,?_⟩
  refine RW.keep 59 [0,2,3] rfl ?_;(conv=>whnf);refine ⟨?_⟩
  refine RW.pullO (k := 2) (l := 3) (j := 8) 2 3 8 rfl rfl rfl (by decide) rfl rfl rfl rfl ?_
  refine RW.keep 59 [0,2,3] rfl ?_;(conv=>whnf);refine ⟨?_⟩
  refine RW.pullO (k := 2) (l := 3) (j := 9) 2 3 9 rfl rfl rfl (by decide) rfl rfl rfl rfl ?_
  refine RW.keep 59 [0,2] rfl ?_;(conv=>whnf);refine ⟨?_⟩
  refine RW.nil ?_
  refine CW.keep 59 [0,2] rfl ?_;(conv=>whnf);refine ⟨?_⟩
  refine CW.ret ?_
  refine ⟨⟨(⟨y11.v, y2.v.from_, y2.v.to, y2.v.term_, y2.v.index, y2.v.logTerm, y2.v.commit, y2.v.ok, y2.v.entries, y2.v.conf, y2.v.data, y2.v.last⟩ : Message), y11.d, ⟨(Nat.le_trans y2.h.es (by omega)), y2.h.ee, y2.h.cf, y2.h.da⟩, y11.hd⟩, ?_⟩
  exact Post.one (RV.c (f := fun e => (Message.c e).map .w) (e' := (⟨y11.v, y2.v.from_, y2.v.to, y2.v.term_, y2.v.index, y2.v.logTerm, y2.v.commit, y2.v.ok, y2.v.entries, y2.v.conf, y2.v.data, y2.v.last⟩ : Message)) rfl rfl rfl rfl (DT.v (DT.v (DT.v (DT.v (DT.v (DT.v (DT.v (DT.v (DT.w (DT.w (DT.v (DT.v DT.e)))))))))))) (by rfl)) (AOs.obE (f := fun e => (l01Cur.c e).map .r) (e' := y11.d) rfl (DT.r (DT.r (DT.r DT.e))) (by rfl) AOs.e)
 ·skip
  refine CW.k XK 59 1 [0,2,3,7,14] rfl ?_
  (conv=>whnf);refine ⟨rfl,?_⟩
  refine CW.cond rfl (fun h14 => ?_) (fun h14 => ?_)
  ·skip
   refine CW.region ?_
   refine RW.k XK 59 3 rfl ?_
   (conv=>whnf);refine ⟨rfl,?_⟩
   refine RW.buildV (c := cI) (L := [0, 5, y2.v.to]) (vs := [(.int .i64 0), (.int .i64 5), (.int .i64 y2.v.to)]) [.const (.int .i64 0), .const (.int .i64 5), .tmp 18] rfl rfl rfl rfl rfl rfl rfl rfl rfl rfl (by decide) (by decide) rfl rfl fun X15 => ?_
   refine RW.freeze 19 (d' := .r (sl 1 cI ([0, 5, y2.v.to] : List Int))) rfl rfl ?_
   refine RW.callPX (k := 0) (spec_l01PickInt_fn y6.d ([0, 5, y2.v.to] : List Int) y6.hd (Nat.le_of_ble_eq_true rfl)) rfl rfl (Nat.le_of_ble_eq_true rfl) (by decide) rfl (DT.r (DT.r (DT.r DT.e))) (AsPs.here (os := []) (outs := []) rfl (.cons (.one (.r .r)) (.nil))) (fun _ => AsPs.here rfl (.cons (.one (.r .r)) (.nil))) fun y16 g17 q18 => ?_
   refine RW.k XK 59 2 rfl ?_
   (conv=>whnf);refine ⟨rfl,?_⟩
   refine RW.nil ?_
   refine CW.keep 59 [0,2,3] rfl ?_;(conv=>whnf);refine ⟨?_⟩
   refine CW.seq ?_
   refine CW.region ?_
   refine RW.k XK 59 2 rfl ?_
   (conv=>whnf);refine ⟨rfl,?_⟩
   refine RW.keep 59 [0,2,3] rfl ?_;(conv=>whnf);refine ⟨?_⟩
   refine RW.pullO (k := 2) (l := 3) (j := 8) 2 3 8 rfl rfl rfl (by decide) rfl rfl rfl rfl ?_
   refine RW.keep 59 [0,2,3] rfl ?_;(conv=>whnf);refine ⟨?_⟩
   refine RW.pullO (k := 2) (l := 3) (j := 9) 2 3 9 rfl rfl rfl (by decide) rfl rfl rfl rfl ?_
   refine RW.keep 59 [0,2] rfl ?_;(conv=>whnf);refine ⟨?_⟩
   refine RW.nil ?_
   refine CW.keep 59 [0,2] rfl ?_;(conv=>whnf);refine ⟨?_⟩
   refine CW.ret ?_
   refine ⟨⟨(⟨y2.v.kind, y16.v, y2.v.to, y2.v.term_, y2.v.index, y2.v.logTerm, y2.v.commit, y2.v.ok, y2.v.entries, y2.v.conf, y2.v.data, y2.v.last⟩ : Message), y16.d, ⟨(Nat.le_trans y2.h.es (by omega)), y2.h.ee, y2.h.cf, y2.h.da⟩, y16.hd⟩, ?_⟩
   exact Post.one (RV.c (f := fun e => (Message.c e).map .w) (e' := (⟨y2.v.kind, y16.v, y2.v.to, y2.v.term_, y2.v.index, y2.v.logTerm, y2.v.commit, y2.v.ok, y2.v.entries, y2.v.conf, y2.v.data, y2.v.last⟩ : Message)) rfl rfl rfl rfl (DT.v (DT.v (DT.v (DT.v (DT.v (DT.v (DT.v (DT.v (DT.w (DT.w (DT.v (DT.v DT.e)))))))))))) (by rfl)) (AOs.obE (f := fun e => (l01Cur.c e).map .r) (e' := y16.d) rfl (DT.r (DT.r (DT.r DT.e))) (by rfl) AOs.e)
  ·skip
   refine CW.k XK 59 1 [0,2,3,7,22] rfl ?_
   (conv=>whnf);refine ⟨rfl,?_⟩
   refine CW.cond rfl (fun h19 => ?_) (fun h19 => ?_)
   ·skip
    refine CW.region ?_
    refine RW.k XK 59 1 rfl ?_
    (conv=>whnf);refine ⟨rfl,?_⟩
    refine RW.buildK (c := cI) (L := [(-1), 100000, 100001]) (vs := [(.int .i64 (-1)), (.int .i64 100000), (.int .i64 100001)]) rfl rfl rfl rfl rfl (fun _ => rfl) rfl rfl rfl (by decide) (by decide) rfl rfl fun X20 => ?_
    refine RW.freeze 25 (d' := .r (sl 1 cI ([(-1), 100000, 100001] : List Int))) rfl rfl ?_
    refine RW.callPX (k := 0) (spec_l01PickInt_fn y6.d ([(-1), 100000, 100001] : List Int) y6.hd (Nat.le_of_ble_eq_true rfl)) rfl rfl (Nat.le_of_ble_eq_true rfl) (by decide) rfl (DT.r (DT.r (DT.r DT.e))) (AsPs.here (os := []) (outs := []) rfl (.cons (.one (.r .r)) (.nil))) (fun _ => AsPs.here rfl (.cons (.one (.r .r)) (.nil))) fun y21 g22 q23 => ?_
    refine RW.k XK 59 2 rfl ?_
    (conv=>whnf);refine ⟨rfl,?_⟩
    refine RW.nil ?_
    refine CW.keep 59 [0,2,3] rfl ?_;(conv=>whnf);refine ⟨?_⟩
    refine CW.seq ?_
    refine CW.region ?_
    refine RW.k XK 59 2 rfl ?_
    (conv=>whnf);refine ⟨rfl,?_⟩
    refine RW.keep 59 [0,2,3] rfl ?_;(conv=>whnf);refine ⟨?_⟩
    refine RW.pullO (k := 2) (l := 3) (j := 8) 2 3 8 rfl rfl rfl (by decide) rfl rfl rfl rfl ?_
    refine RW.keep 59 [0,2,3] rfl ?_;(conv=>whnf);refine ⟨?_⟩
    refine RW.pullO (k := 2) (l := 3) (j := 9) 2 3 9 rfl rfl rfl (by decide) rfl rfl rfl rfl ?_
    refine RW.keep 59 [0,2] rfl ?_;(conv=>whnf);refine ⟨?_⟩
    refine RW.nil ?_
    refine CW.keep 59 [0,2] rfl ?_;(conv=>whnf);refine ⟨?_⟩
    refine CW.ret ?_
    refine ⟨⟨(⟨y2.v.kind, y2.v.from_, y2.v.to, y21.v, y2.v.index, y2.v.logTerm, y2.v.commit, y2.v.ok, y2.v.entries, y2.v.conf, y2.v.data, y2.v.last⟩ : Message), y21.d, ⟨(Nat.le_trans y2.h.es (by omega)), y2.h.ee, y2.h.cf, y2.h.da⟩, y21.hd⟩, ?_⟩
    exact Post.one (RV.c (f := fun e => (Message.c e).map .w) (e' := (⟨y2.v.kind, y2.v.from_, y2.v.to, y21.v, y2.v.index, y2.v.logTerm, y2.v.commit, y2.v.ok, y2.v.entries, y2.v.conf, y2.v.data, y2.v.last⟩ : Message)) rfl rfl rfl rfl (DT.v (DT.v (DT.v (DT.v (DT.v (DT.v (DT.v (DT.v (DT.w (DT.w (DT.v (DT.v DT.e)))))))))))) (by rfl)) (AOs.obE (f := fun e => (l01Cur.c e).map .r) (e' := y21.d) rfl (DT.r (DT.r (DT.r DT.e))) (by rfl) AOs.e)
   ·skip
    refine CW.k XK 59 1 [0,2,3,7,28] rfl ?_
    (conv=>whnf);refine ⟨rfl,?_⟩
    refine CW.cond rfl (fun h24 => ?_) (fun h24 => ?_)
    ·skip
     refine CW.region ?_
     refine RW.k XK 59 1 rfl ?_
     (conv=>whnf);refine ⟨rfl,?_⟩
     refine RW.buildK (c := cI) (L := [(-1), 1000000, 1000001]) (vs := [(.int .i64 (-1)), (.int .i64 1000000), (.int .i64 1000001)]) rfl rfl rfl rfl rfl (fun _ => rfl) rfl rfl rfl (by decide) (by decide) rfl rfl fun X25 => ?_
     refine RW.freeze 31 (d' := .r (sl 1 cI ([(-1), 1000000, 1000001] : List Int))) rfl rfl ?_
     refine RW.callPX (k := 0) (spec_l01PickInt_fn y6.d ([(-1), 1000000, 1000001] : List Int) y6.hd (Nat.le_of_ble_eq_true rfl)) rfl rfl (Nat.le_of_ble_eq_true rfl) (by decide) rfl (DT.r (DT.r (DT.r DT.e))) (AsPs.here (os := []) (outs := []) rfl (.cons (.one (.r .r)) (.nil))) (fun _ => AsPs.here rfl (.cons (.one (.r .r)) (.nil))) fun y26 g27 q28 => ?_
     refine RW.k XK 59 2 rfl ?_
     (conv=>whnf);refine ⟨rfl,?_⟩
     refine RW.nil ?_
     refine CW.keep 59 [0,2,3] rfl ?_;(conv=>whnf);refine ⟨?_⟩
     refine CW.seq ?_
     refine CW.region ?_
     refine RW.k XK 59 2 rfl ?_
     (conv=>whnf);refine ⟨rfl,?_⟩
     refine RW.keep 59 [0,2,3] rfl ?_;(conv=>whnf);refine ⟨?_⟩
     refine RW.pullO (k := 2) (l := 3) (j := 8) 2 3 8 rfl rfl rfl (by decide) rfl rfl rfl rfl ?_
     refine RW.keep 59 [0,2,3] rfl ?_;(conv=>whnf);refine ⟨?_⟩
     refine RW.pullO (k := 2) (l := 3) (j := 9) 2 3 9 rfl rfl rfl (by decide) rfl rfl rfl rfl ?_
     refine RW.keep 59 [0,2] rfl ?_;(conv=>whnf);refine ⟨?_⟩
     refine RW.nil ?_
     refine CW.keep 59 [0,2] rfl ?_;(conv=>whnf);refine ⟨?_⟩
     refine CW.ret ?_
     refine ⟨⟨(⟨y2.v.kind, y2.v.from_, y2.v.to, y2.v.term_, y26.v, y2.v.logTerm, y2.v.commit, y2.v.ok, y2.v.entries, y2.v.conf, y2.v.data, y2.v.last⟩ : Message), y26.d, ⟨(Nat.le_trans y2.h.es (by omega)), y2.h.ee, y2.h.cf, y2.h.da⟩, y26.hd⟩, ?_⟩
     exact Post.one (RV.c (f := fun e => (Message.c e).map .w) (e' := (⟨y2.v.kind, y2.v.from_, y2.v.to, y2.v.term_, y26.v, y2.v.logTerm, y2.v.commit, y2.v.ok, y2.v.entries, y2.v.conf, y2.v.data, y2.v.last⟩ : Message)) rfl rfl rfl rfl (DT.v (DT.v (DT.v (DT.v (DT.v (DT.v (DT.v (DT.v (DT.w (DT.w (DT.v (DT.v DT.e)))))))))))) (by rfl)) (AOs.obE (f := fun e => (l01Cur.c e).map .r) (e' := y26.d) rfl (DT.r (DT.r (DT.r DT.e))) (by rfl) AOs.e)
    ·skip
     refine CW.k XK 59 1 [0,2,3,7,34] rfl ?_
     (conv=>whnf);refine ⟨rfl,?_⟩
     refine CW.cond rfl (fun h29 => ?_) (fun h29 => ?_)
     ·skip
      refine CW.anyR2 (fc := [(2, b1, [.int .i64 0, .int .i64 0, .int .i64 0, .int .i64 0, .int .i64 0, .int .i64 0, .int .i64 0, .bool false, .slice none 0 0, .slice none 0 0, .string (⟨#[]⟩), .bool false])]) (L0 := [(2, .obj b1 [I 0, I 0, I 0, I 0, I 0, I 0, I 0, Bo false, .r (.v (.slice none 0 0)), .r (.v (.slice none 0 0)), S (⟨#[]⟩), Bo false])]) 59 (fun (zz : Value × Value × (Nat → Nat → Value) × (Nat → Value) × (Drw (fun e : Entry => e.data.size ≤ 1048576))) => match zz with | (Xo30_4_1, Xo30_5_1, go30_3_2, qo30_3_3, yo30_3_1) => [(0, .obj (bo 0) ((l01Cur.c yo30_3_1.d).map .r)), (3, .obj b5 [I y2.v.kind, I y2.v.from_, I y2.v.to, I y2.v.term_, I y2.v.index, I y2.v.logTerm, I y2.v.commit, Bo y2.v.ok, .w (sl 3 Entry.c (y2.v.entries ++ ([yo30_3_1.v]))) Xo30_5_1, .w (sl 1 cI y2.v.conf) (g3 0 9), S y2.v.data, Bo y2.v.last])]) (fun all hall f hf b0 hb K hK => ?_) ?_
      ·skip
       have ro30_7 : ∀ B, ∀ (Xo30_4_1 : Value), ∀ (Xo30_5_1 : Value), ∀ (go30_3_2 : Nat → Nat → Value), ∀ (qo30_3_3 : Nat → Value), ∀ (yo30_3_1 : Drw (fun e : Entry => e.data.size ≤ 1048576)), RA f E B all 0 (bt 8 255) ⟨59, [(0, .obj (bo 0) ((l01Cur.c yo30_3_1.d).map .r)), (3, .obj b5 [I y2.v.kind, I y2.v.from_, I y2.v.to, I y2.v.term_, I y2.v.index, I y2.v.logTerm, I y2.v.commit, Bo y2.v.ok, .w (sl 3 Entry.c (y2.v.entries ++ ([yo30_3_1.v]))) Xo30_5_1, .w (sl 1 cI y2.v.conf) (g3 0 9), S y2.v.data, Bo y2.v.last])] ++ b0⟩ K := by
        intro B Xo30_4_1 Xo30_5_1 go30_3_2 qo30_3_3 yo30_3_1
        exact RA.of2 hall hf hb (RA.finH (Tell.of rfl) (by kernel_rfl) (hK (Xo30_4_1, Xo30_5_1, go30_3_2, qo30_3_3, yo30_3_1) _ rfl (Le.of rfl)))
       have ro30_6 : ∀ B, ∀ (Xo30_4_1 : Value), ∀ (Xo30_5_1 : Value), ∀ (go30_3_2 : Nat → Nat → Value), ∀ (qo30_3_3 : Nat → Value), ∀ (yo30_3_1 : Drw (fun e : Entry => e.data.size ≤ 1048576)), RA f E B all 1 (bt 8 127) ⟨59, [(0, .obj (bo 0) ((l01Cur.c yo30_3_1.d).map .r)), (3, .obj b5 [I y2.v.kind, I y2.v.from_, I y2.v.to, I y2.v.term_, I y2.v.index, I y2.v.logTerm, I y2.v.commit, Bo y2.v.ok, .u, .w (sl 1 cI y2.v.conf) (g3 0 9), S y2.v.data, Bo y2.v.last]), (41, .w (sl 3 Entry.c (y2.v.entries ++ ([yo30_3_1.v]))) Xo30_5_1), (42, .pt 3 b5 8)] ++ b0⟩ K := by
        intro B Xo30_4_1 Xo30_5_1 go30_3_2 qo30_3_3 yo30_3_1
        refine RA.of2 hall hf hb (RA.stepH (L := [7]) (Tell.of rfl) (by kernel_rfl) (by simp) (RA.each ?_ (RA.each0)))
        ·skip
         refine RO.store (d := .al 41 none 3 ((y2.v.entries ++ ([yo30_3_1.v])).length) Xo30_5_1 0) rfl rfl rfl rfl rfl rfl rfl rfl rfl (Nat.le_of_ble_eq_true rfl) rfl rfl ?_
         refine RA.keep 59 [0,2,3,41] rfl ?_;(conv=>whnf);refine ⟨?_⟩
         refine RA.pullT (k := 3) (l := 41) (j := 8) 3 41 8 rfl rfl rfl (by decide) rfl rfl rfl ?_
         refine RA.keep 59 [0,2,3] rfl ?_;(conv=>whnf);refine ⟨?_⟩
         exact RA.to2 hall hf hb (ro30_7 B Xo30_4_1 Xo30_5_1 go30_3_2 qo30_3_3 yo30_3_1) rfl rfl (by kernel_rfl)
       have ro30_5 : ∀ B, ∀ (Xo30_4_1 : Value), ∀ (go30_3_2 : Nat → Nat → Value), ∀ (qo30_3_3 : Nat → Value), ∀ (yo30_3_1 : Drw (fun e : Entry => e.data.size ≤ 1048576)), RA f E B all 3 (bt 8 31) ⟨59, [(0, .obj (bo 0) ((l01Cur.c yo30_3_1.d).map .r)), (3, .obj b5 [I y2.v.kind, I y2.v.from_, I y2.v.to, I y2.v.term_, I y2.v.index, I y2.v.logTerm, I y2.v.commit, Bo y2.v.ok, .w (sl 3 Entry.c y2.v.entries) (g3 0 8), .w (sl 1 cI y2.v.conf) (g3 0 9), S y2.v.data, Bo y2.v.last]), (37, .al 3 (some 8) 3 y2.v.entries.length (g3 0 8) 0), (40, .w (sl 3 Entry.c ([yo30_3_1.v])) Xo30_4_1)] ++ b0⟩ K := by
        intro B Xo30_4_1 go30_3_2 qo30_3_3 yo30_3_1
        refine RA.of2 hall hf hb (RA.stepH (L := [5]) (Tell.of rfl) (by kernel_rfl) (by simp) (RA.each ?_ (RA.each0)))
        ·skip
         refine RO.takeO 37 3 8 (by decide) rfl rfl rfl ?_
         refine RO.appendSR (c := Entry.c) (l1 := y2.v.entries) (l2 := [yo30_3_1.v]) rfl rfl rfl rfl rfl rfl rfl rfl rfl rfl (.al (k := none) (i := 40) (sz := 3) (V := Xo30_4_1) rfl rfl nofun) (by decide) (Nat.le_of_ble_eq_true rfl) Entry.len (fun _ => rfl) rfl (by have h9 := y2.h.es; simp only [maxLen, List.length_singleton]; omega) (by have h9 := y2.h.es; simp only [maxLen, List.length_singleton]; omega) fun Xo30_5_1 => ?_
         refine RA.fr XK 59 1 [6] (bt 8 127) rfl rfl (by kernel_rfl) (Tell.of rfl) ?_
         (conv=>whnf);refine ⟨rfl,fun B=>?_⟩
         exact RA.to2 hall hf hb (ro30_6 B Xo30_4_1 Xo30_5_1 go30_3_2 qo30_3_3 yo30_3_1) rfl rfl (by kernel_rfl)
       have ro30_4 : ∀ B, ∀ (Xo30_4_1 : Value), ∀ (go30_3_2 : Nat → Nat → Value), ∀ (qo30_3_3 : Nat → Value), ∀ (yo30_3_1 : Drw (fun e : Entry => e.data.size ≤ 1048576)), RA f E B all 4 (bt 8 29) ⟨59, [(0, .obj (bo 0) ((l01Cur.c yo30_3_1.d).map .r)), (3, .obj b5 [I y2.v.kind, I y2.v.from_, I y2.v.to, I y2.v.term_, I y2.v.index, I y2.v.logTerm, I y2.v.commit, Bo y2.v.ok, .w (sl 3 Entry.c y2.v.entries) (g3 0 8), .w (sl 1 cI y2.v.conf) (g3 0 9), S y2.v.data, Bo y2.v.last]), (36, .pt 3 b5 8), (40, .w (sl 3 Entry.c ([yo30_3_1.v])) Xo30_4_1)] ++ b0⟩ K := by
        intro B Xo30_4_1 go30_3_2 qo30_3_3 yo30_3_1
        refine RA.of2 hall hf hb (RA.stepH (L := [1]) (Tell.of rfl) (by kernel_rfl) (by simp) (RA.each ?_ (RA.each0)))
        ·skip
         refine RO.v rfl rfl (V.loadPrim (d := .al 3 (some 8) 3 y2.v.entries.length (g3 0 8) 0) rfl rfl (.inr ⟨_, rfl⟩) rfl rfl rfl) rfl ?_
         exact RA.to2 hall hf hb (ro30_5 B Xo30_4_1 go30_3_2 qo30_3_3 yo30_3_1) rfl rfl (by kernel_rfl)
       have ro30_3 : ∀ B, ∀ (go30_3_2 : Nat → Nat → Value), ∀ (qo30_3_3 : Nat → Value), ∀ (yo30_3_1 : Drw (fun e : Entry => e.data.size ≤ 1048576)), RA f E B all 4 (bt 8 15) ⟨59, [(0, .obj (bo 0) ((l01Cur.c yo30_3_1.d).map .r)), (3, .obj b5 [I y2.v.kind, I y2.v.from_, I y2.v.to, I y2.v.term_, I y2.v.index, I y2.v.logTerm, I y2.v.commit, Bo y2.v.ok, .w (sl 3 Entry.c y2.v.entries) (g3 0 8), .w (sl 1 cI y2.v.conf) (g3 0 9), S y2.v.data, Bo y2.v.last]), (37, .al 3 (some 8) 3 y2.v.entries.length (g3 0 8) 0), (39, .agg ((Entry.c yo30_3_1.v).map .r))] ++ b0⟩ K := by
        intro B go30_3_2 qo30_3_3 yo30_3_1
        refine RA.of2 hall hf hb (RA.stepH (L := [4]) (Tell.of rfl) (by kernel_rfl) (by simp) (RA.each ?_ (RA.each0)))
        ·skip
         refine RO.build1 (c := Entry.c) (v := yo30_3_1.v) rfl rfl rfl rfl rfl rfl rfl rfl (DW.v (DW.v (DW.v DW.e))) Entry.len (by decide) (by decide) fun Xo30_4_1 => ?_
         exact RA.to2 hall hf hb (ro30_5 B Xo30_4_1 go30_3_2 qo30_3_3 yo30_3_1) rfl rfl (by kernel_rfl)
       have ro30_2 : ∀ B, ∀ (go30_3_2 : Nat → Nat → Value), ∀ (qo30_3_3 : Nat → Value), ∀ (yo30_3_1 : Drw (fun e : Entry => e.data.size ≤ 1048576)), RA f E B all 5 (bt 8 13) ⟨59, [(0, .obj (bo 0) ((l01Cur.c yo30_3_1.d).map .r)), (3, .obj b5 [I y2.v.kind, I y2.v.from_, I y2.v.to, I y2.v.term_, I y2.v.index, I y2.v.logTerm, I y2.v.commit, Bo y2.v.ok, .w (sl 3 Entry.c y2.v.entries) (g3 0 8), .w (sl 1 cI y2.v.conf) (g3 0 9), S y2.v.data, Bo y2.v.last]), (36, .pt 3 b5 8), (39, .agg ((Entry.c yo30_3_1.v).map .r))] ++ b0⟩ K := by
        intro B go30_3_2 qo30_3_3 yo30_3_1
        refine RA.of2 hall hf hb (RA.stepH (L := [1, 4]) (Tell.of rfl) (by kernel_rfl) (by simp) (RA.each ?_ (RA.each ?_ (RA.each0))))
        ·skip
         refine RO.v rfl rfl (V.loadPrim (d := .al 3 (some 8) 3 y2.v.entries.length (g3 0 8) 0) rfl rfl (.inr ⟨_, rfl⟩) rfl rfl rfl) rfl ?_
         exact RA.to2 hall hf hb (ro30_3 B go30_3_2 qo30_3_3 yo30_3_1) rfl rfl (by kernel_rfl)
        ·skip
         refine RO.build1 (c := Entry.c) (v := yo30_3_1.v) rfl rfl rfl rfl rfl rfl rfl rfl (DW.v (DW.v (DW.v DW.e))) Entry.len (by decide) (by decide) fun Xo30_4_1 => ?_
         exact RA.to2 hall hf hb (ro30_4 B Xo30_4_1 go30_3_2 qo30_3_3 yo30_3_1) rfl rfl (by kernel_rfl)
       have ro30_1 : ∀ B, RA f E B all 5 (bt 8 7) ⟨59, [(0, .obj (bo 0) ((l01Cur.c y6.d).map .r)), (3, .obj b5 [I y2.v.kind, I y2.v.from_, I y2.v.to, I y2.v.term_, I y2.v.index, I y2.v.logTerm, I y2.v.commit, Bo y2.v.ok, .w (sl 3 Entry.c y2.v.entries) (g3 0 8), .w (sl 1 cI y2.v.conf) (g3 0 9), S y2.v.data, Bo y2.v.last]), (37, .al 3 (some 8) 3 y2.v.entries.length (g3 0 8) 0), (38, .pt 0 (bo 0) 0)] ++ b0⟩ K := by
        intro B
        refine RA.of2 hall hf hb (RA.stepH (L := [3]) (Tell.of rfl) (by kernel_rfl) (by simp) (RA.each ?_ (RA.each0)))
        ·skip
         refine RO.callPX (k := 0) (spec_l05Any_fn y6.d y6.hd) rfl rfl rfl rfl (Nat.le_of_ble_eq_true rfl) (by decide) rfl (DT.r (DT.r (DT.r DT.e))) (AsPs.here (os := []) (outs := []) rfl (.nil)) (fun _ => AsPs.here rfl (.nil)) fun yo30_3_1 go30_3_2 qo30_3_3 => ?_
         exact RA.to2 hall hf hb (ro30_3 B go30_3_2 qo30_3_3 yo30_3_1) rfl rfl (by kernel_rfl)
       have ro30_0 : ∀ B, RA f E B all 6 (bt 8 5) ⟨59, [(0, .obj (bo 0) ((l01Cur.c y6.d).map .r)), (3, .obj b5 [I y2.v.kind, I y2.v.from_, I y2.v.to, I y2.v.term_, I y2.v.index, I y2.v.logTerm, I y2.v.commit, Bo y2.v.ok, .w (sl 3 Entry.c y2.v.entries) (g3 0 8), .w (sl 1 cI y2.v.conf) (g3 0 9), S y2.v.data, Bo y2.v.last]), (36, .pt 3 b5 8), (38, .pt 0 (bo 0) 0)] ++ b0⟩ K := by
        intro B
        refine RA.of2 hall hf hb (RA.stepH (L := [1, 3]) (Tell.of rfl) (by kernel_rfl) (by simp) (RA.each ?_ (RA.each ?_ (RA.each0))))
        ·skip
         refine RO.v rfl rfl (V.loadPrim (d := .al 3 (some 8) 3 y2.v.entries.length (g3 0 8) 0) rfl rfl (.inr ⟨_, rfl⟩) rfl rfl rfl) rfl ?_
         exact RA.to2 hall hf hb (ro30_1 B) rfl rfl (by kernel_rfl)
        ·skip
         refine RO.callPX (k := 0) (spec_l05Any_fn y6.d y6.hd) rfl rfl rfl rfl (Nat.le_of_ble_eq_true rfl) (by decide) rfl (DT.r (DT.r (DT.r DT.e))) (AsPs.here (os := []) (outs := []) rfl (.nil)) (fun _ => AsPs.here rfl (.nil)) fun yo30_3_1 go30_3_2 qo30_3_3 => ?_
         exact RA.to2 hall hf hb (ro30_2 B go30_3_2 qo30_3_3 yo30_3_1) rfl rfl (by kernel_rfl)
       refine RA.start (by kernel_rfl) (by kernel_rfl) (m := 8) (ls' := (bt 8 0)) ?_
       refine RA.fr XK 59 6 [0,2] (bt 8 5) rfl rfl (by kernel_rfl) (Tell.of rfl) ?_
       (conv=>whnf);refine ⟨rfl,fun B=>?_⟩
       exact RA.to2 hall hf hb (ro30_0 B) rfl rfl (by kernel_rfl)
      ·rintro ⟨Xo30_4_1, Xo30_5_1, go30_3_2, qo30_3_3, yo30_3_1⟩
       refine CW.keep 59 [0,2,3] rfl ?_;(conv=>whnf);refine ⟨?_⟩
       refine CW.seq ?_
       refine CW.region ?_
       refine RW.k XK 59 2 rfl ?_
       (conv=>whnf);refine ⟨rfl,?_⟩
       refine RW.keep 59 [0,2,3] rfl ?_;(conv=>whnf);refine ⟨?_⟩
       refine RW.pullO (k := 2) (l := 3) (j := 8) 2 3 8 rfl rfl rfl (by decide) rfl rfl rfl rfl ?_
       refine RW.keep 59 [0,2,3] rfl ?_;(conv=>whnf);refine ⟨?_⟩
       refine RW.pullO (k := 2) (l := 3) (j := 9) 2 3 9 rfl rfl rfl (by decide) rfl rfl rfl rfl ?_
       refine RW.keep 59 [0,2,3] rfl ?_;(conv=>whnf);refine ⟨?_⟩
       refine RW.nil ?_
       refine CW.keep 59 [0,2] rfl ?_;(conv=>whnf);refine ⟨?_⟩
       refine CW.ret ?_
       refine ⟨⟨(⟨y2.v.kind, y2.v.from_, y2.v.to, y2.v.term_, y2.v.index, y2.v.logTerm, y2.v.commit, y2.v.ok, (y2.v.entries ++ ([yo30_3_1.v])), y2.v.conf, y2.v.data, y2.v.last⟩ : Message), yo30_3_1.d, ⟨(by show List.length (_ ++ [_]) ≤ _; have h9 := y2.h.es; rw [List.length_append, List.length_singleton]; omega), (snoc_all y2.h.ee yo30_3_1.h), y2.h.cf, y2.h.da⟩, yo30_3_1.hd⟩, ?_⟩
       exact Post.one (RV.c (f := fun e => (Message.c e).map .w) (e' := (⟨y2.v.kind, y2.v.from_, y2.v.to, y2.v.term_, y2.v.index, y2.v.logTerm, y2.v.commit, y2.v.ok, (y2.v.entries ++ ([yo30_3_1.v])), y2.v.conf, y2.v.data, y2.v.last⟩ : Message)) rfl rfl rfl rfl (DT.v (DT.v (DT.v (DT.v (DT.v (DT.v (DT.v (DT.v (DT.w (DT.w (DT.v (DT.v DT.e)))))))))))) (by rfl)) (AOs.obE (f := fun e => (l01Cur.c e).map .r) (e' := yo30_3_1.d) rfl (DT.r (DT.r (DT.r DT.e))) (by rfl) AOs.e)
     ·skip
      refine CW.k XK 59 1 [0,2,3,7,43] rfl ?_
      (conv=>whnf);refine ⟨rfl,?_⟩
      refine CW.cond rfl (fun h31 => ?_) (fun h31 => ?_)
      ·skip
       refine CW.region ?_
       refine RW.k XK 59 1 rfl ?_
       (conv=>whnf);refine ⟨rfl,?_⟩
       refine RW.callPX (k := 0) (spec_l01Below_fn_dx y6.d 2 y6.hd) rfl rfl (Nat.le_of_ble_eq_true rfl) (by decide) rfl (DT.r (DT.r (DT.r DT.e))) (AsPs.here (os := []) (outs := []) rfl (.cons (.one (.r .r)) (.nil))) (fun _ => AsPs.here rfl (.cons (.one (.r .r)) (.nil))) fun y32 g33 q34 => ?_
       refine RW.k XK 59 1 rfl ?_
       (conv=>whnf);refine ⟨rfl,?_⟩
       refine RW.callX rfl (spec_l01Long_fn (IntKind.i64.wrap (60 + y32.v)) 65 (by have h9 := y32.h; rw [wrap_small (by omega) (by omega)]; omega)) rfl (.cons (.one (.r .r)) (.cons (.one (.r .r)) (.nil))) fun y35 g36 => ?_
       refine RW.k XK 59 2 rfl ?_
       (conv=>whnf);refine ⟨rfl,?_⟩
       refine RW.nil ?_
       refine CW.keep 59 [0,2,3] rfl ?_;(conv=>whnf);refine ⟨?_⟩
       refine CW.seq ?_
       refine CW.region ?_
       refine RW.k XK 59 2 rfl ?_
       (conv=>whnf);refine ⟨rfl,?_⟩
       refine RW.keep 59 [0,2,3] rfl ?_;(conv=>whnf);refine ⟨?_⟩
       refine RW.pullO (k := 2) (l := 3) (j := 8) 2 3 8 rfl rfl rfl (by decide) rfl rfl rfl rfl ?_
       refine RW.keep 59 [0,2,3] rfl ?_;(conv=>whnf);refine ⟨?_⟩
       refine RW.pullO (k := 2) (l := 3) (j := 9) 2 3 9 rfl rfl rfl (by decide) rfl rfl rfl rfl ?_
       refine RW.keep 59 [0,2,3] rfl ?_;(conv=>whnf);refine ⟨?_⟩
       refine RW.nil ?_
       refine CW.keep 59 [0,2] rfl ?_;(conv=>whnf);refine ⟨?_⟩
       refine CW.ret ?_
       refine ⟨⟨(⟨y2.v.kind, y2.v.from_, y2.v.to, y2.v.term_, y2.v.index, y2.v.logTerm, y2.v.commit, y2.v.ok, y2.v.entries, y2.v.conf, y35.1, y2.v.last⟩ : Message), y32.d, ⟨(Nat.le_trans y2.h.es (by omega)), y2.h.ee, y2.h.cf, (Nat.le_trans y35.2 (by omega))⟩, y32.hd⟩, ?_⟩
       exact Post.one (RV.c (f := fun e => (Message.c e).map .w) (e' := (⟨y2.v.kind, y2.v.from_, y2.v.to, y2.v.term_, y2.v.index, y2.v.logTerm, y2.v.commit, y2.v.ok, y2.v.entries, y2.v.conf, y35.1, y2.v.last⟩ : Message)) rfl rfl rfl rfl (DT.v (DT.v (DT.v (DT.v (DT.v (DT.v (DT.v (DT.v (DT.w (DT.w (DT.v (DT.v DT.e)))))))))))) (by rfl)) (AOs.obE (f := fun e => (l01Cur.c e).map .r) (e' := y32.d) rfl (DT.r (DT.r (DT.r DT.e))) (by rfl) AOs.e)
      ·skip
       refine CW.k XK 59 1 [0,2,3,7,50] rfl ?_
       (conv=>whnf);refine ⟨rfl,?_⟩
       refine CW.cond rfl (fun h37 => ?_) (fun h37 => ?_)
       ·skip
        refine CW.region ?_
        refine RW.k XK 59 1 rfl ?_
        (conv=>whnf);refine ⟨rfl,?_⟩
        refine RW.callPX (k := 0) (spec_l05AnyConf_fn y6.d y6.hd) rfl rfl (Nat.le_of_ble_eq_true rfl) (by decide) rfl (DT.r (DT.r (DT.r DT.e))) (AsPs.here (os := []) (outs := []) rfl (.nil)) (fun _ => AsPs.here rfl (.nil)) fun y38 g39 q40 => ?_
        refine RW.k XK 59 2 rfl ?_
        (conv=>whnf);refine ⟨rfl,?_⟩
        refine RW.keep 59 [0,2,3,53] rfl ?_;(conv=>whnf);refine ⟨?_⟩
        refine RW.pullT (k := 3) (l := 53) (j := 9) 3 53 9 rfl rfl rfl (by decide) rfl rfl rfl ?_
        refine RW.keep 59 [0,2,3] rfl ?_;(conv=>whnf);refine ⟨?_⟩
        refine RW.nil ?_
        refine CW.keep 59 [0,2,3] rfl ?_;(conv=>whnf);refine ⟨?_⟩
        refine CW.seq ?_
        refine CW.region ?_
        refine RW.k XK 59 2 rfl ?_
        (conv=>whnf);refine ⟨rfl,?_⟩
        refine RW.keep 59 [0,2,3] rfl ?_;(conv=>whnf);refine ⟨?_⟩
        refine RW.pullO (k := 2) (l := 3) (j := 8) 2 3 8 rfl rfl rfl (by decide) rfl rfl rfl rfl ?_
        refine RW.keep 59 [0,2,3] rfl ?_;(conv=>whnf);refine ⟨?_⟩
        refine RW.pullO (k := 2) (l := 3) (j := 9) 2 3 9 rfl rfl rfl (by decide) rfl rfl rfl rfl ?_
        refine RW.keep 59 [0,2,3] rfl ?_;(conv=>whnf);refine ⟨?_⟩
        refine RW.nil ?_
        refine CW.keep 59 [0,2] rfl ?_;(conv=>whnf);refine ⟨?_⟩
        refine CW.ret ?_
        refine ⟨⟨(⟨y2.v.kind, y2.v.from_, y2.v.to, y2.v.term_, y2.v.index, y2.v.logTerm, y2.v.commit, y2.v.ok, y2.v.entries, y38.v, y2.v.data, y2.v.last⟩ : Message), y38.d, ⟨(Nat.le_trans y2.h.es (by omega)), y2.h.ee, (Nat.le_trans y38.h (by omega)), y2.h.da⟩, y38.hd⟩, ?_⟩
        exact Post.one (RV.c (f := fun e => (Message.c e).map .w) (e' := (⟨y2.v.kind, y2.v.from_, y2.v.to, y2.v.term_, y2.v.index, y2.v.logTerm, y2.v.commit, y2.v.ok, y2.v.entries, y38.v, y2.v.data, y2.v.last⟩ : Message)) rfl rfl rfl rfl (DT.v (DT.v (DT.v (DT.v (DT.v (DT.v (DT.v (DT.v (DT.w (DT.w (DT.v (DT.v DT.e)))))))))))) (by rfl)) (AOs.obE (f := fun e => (l01Cur.c e).map .r) (e' := y38.d) rfl (DT.r (DT.r (DT.r DT.e))) (by rfl) AOs.e)
       ·skip
        refine CW.k XK 59 1 [0,2,3,55] rfl ?_
        (conv=>whnf);refine ⟨rfl,?_⟩
        refine CW.cond rfl (fun h41 => ?_) (fun h41 => ?_)
        ·skip
         refine CW.region ?_
         refine RW.k XK 59 2 rfl ?_
         (conv=>whnf);refine ⟨rfl,?_⟩
         refine RW.nil ?_
         refine CW.keep 59 [0,2,3] rfl ?_;(conv=>whnf);refine ⟨?_⟩
         refine CW.seq ?_
         refine CW.region ?_
         refine RW.k XK 59 2 rfl ?_
         (conv=>whnf);refine ⟨rfl,?_⟩
         refine RW.keep 59 [0,2,3] rfl ?_;(conv=>whnf);refine ⟨?_⟩
         refine RW.pullO (k := 2) (l := 3) (j := 8) 2 3 8 rfl rfl rfl (by decide) rfl rfl rfl rfl ?_
         refine RW.keep 59 [0,2,3] rfl ?_;(conv=>whnf);refine ⟨?_⟩
         refine RW.pullO (k := 2) (l := 3) (j := 9) 2 3 9 rfl rfl rfl (by decide) rfl rfl rfl rfl ?_
         refine RW.keep 59 [0,2,3] rfl ?_;(conv=>whnf);refine ⟨?_⟩
         refine RW.nil ?_
         refine CW.keep 59 [0,2] rfl ?_;(conv=>whnf);refine ⟨?_⟩
         refine CW.ret ?_
         refine ⟨⟨(⟨y2.v.kind, y2.v.from_, y2.v.to, y2.v.term_, y2.v.index, y2.v.logTerm, y2.v.commit, y2.v.ok, y2.v.entries, y2.v.conf, y2.v.data, true⟩ : Message), y6.d, ⟨(Nat.le_trans y2.h.es (by omega)), y2.h.ee, y2.h.cf, y2.h.da⟩, y6.hd⟩, ?_⟩
         exact Post.one (RV.c (f := fun e => (Message.c e).map .w) (e' := (⟨y2.v.kind, y2.v.from_, y2.v.to, y2.v.term_, y2.v.index, y2.v.logTerm, y2.v.commit, y2.v.ok, y2.v.entries, y2.v.conf, y2.v.data, true⟩ : Message)) rfl rfl rfl rfl (DT.v (DT.v (DT.v (DT.v (DT.v (DT.v (DT.v (DT.v (DT.w (DT.w (DT.v (DT.v DT.e)))))))))))) (by rfl)) (AOs.obE (f := fun e => (l01Cur.c e).map .r) (e' := y6.d) rfl (DT.r (DT.r (DT.r DT.e))) (by rfl) AOs.e)
        ·skip
         refine CW.skip ?_
         refine CW.keep 59 [0,2,3] rfl ?_;(conv=>whnf);refine ⟨?_⟩
         refine CW.seq ?_
         refine CW.region ?_
         refine RW.k XK 59 2 rfl ?_
         (conv=>whnf);refine ⟨rfl,?_⟩
         refine RW.keep 59 [0,2,3] rfl ?_;(conv=>whnf);refine ⟨?_⟩
         refine RW.pullO (k := 2) (l := 3) (j := 8) 2 3 8 rfl rfl rfl (by decide) rfl rfl rfl rfl ?_
         refine RW.keep 59 [0,2,3] rfl ?_;(conv=>whnf);refine ⟨?_⟩
         refine RW.pullO (k := 2) (l := 3) (j := 9) 2 3 9 rfl rfl rfl (by decide) rfl rfl rfl rfl ?_
         refine RW.keep 59 [0,2,3] rfl ?_;(conv=>whnf);refine ⟨?_⟩
         refine RW.nil ?_
         refine CW.keep 59 [0,2] rfl ?_;(conv=>whnf);refine ⟨?_⟩
         refine CW.ret ?_
         refine ⟨⟨y2.v, y6.d, ⟨(Nat.le_trans y2.h.es (by omega)), y2.h.ee, y2.h.cf, y2.h.da⟩, y6.hd⟩, ?_⟩
         exact Post.one (RV.c (f := fun e => (Message.c e).map .w) (e' := y2.v) rfl rfl rfl rfl (DT.v (DT.v (DT.v (DT.v (DT.v (DT.v (DT.v (DT.v (DT.w (DT.w (DT.v (DT.v DT.e)))))))))))) (by rfl)) (AOs.obE (f := fun e => (l01Cur.c e).map .r) (e' := y6.d) rfl (DT.r (DT.r (DT.r DT.e))) (by rfl) AOs.e)
end Go.Proofs.Ytmhnehgpmndiiaa.Y
