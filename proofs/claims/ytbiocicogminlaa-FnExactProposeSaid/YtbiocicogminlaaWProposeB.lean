import Derived.Test.YtbiocicogminlaaWProposeA
namespace Go.Proofs.Ytbiocicogminlaa.Y
open Go Go.RowKit Go.Eng Go.Proofs
set_option maxRecDepth 10000
set_option maxHeartbeats 4000000 in
theorem slices_Index___int_int__fn (a : List Int) (n : Int) : Eng.Fn E.P 134 [.one (.r (sl 1 cI a)), .one (.r (.v (.int .i64 n)))] (.one (.one (.w (.v (.int .i64 (idxF (fun y => n == y) a)))))) [.one (.r (sl 1 cI a)), .one (.r (.v (.int .i64 n)))] := by
 refine Eng.Fn.intro (E := E) (rvs := [.tmp 4]) Try.func134 rfl rfl rfl (by simp [outSlots, moved, rvSlot, sl]) ?_
 intro B g bo
 refine CW.bound (x := .tmp 0) (n := a.length) (AsT.r) (fun hl0 => ?_)
 refine CW.keep 19 [0,1] rfl ?_;(conv=>whnf);refine ⟨?_⟩
 refine CW.k XK 19 1 [0,1] rfl ?_
 (conv=>whnf);refine ⟨rfl,?_⟩
 refine CW.seq ?_
 refine CW.k XK 19 1 [0,1,7,8] rfl ?_
 (conv=>whnf);refine ⟨rfl,?_⟩
 refine CW.block ?_
 refine CW.loopI 19 (fun (i : Nat) => [(0, .r (sl 1 cI a)), (1, I n), (7, I (a.length : Int)), (8, I (i : Int))]) (fun (i : Nat) => i ≤ a.length ∧ (a.take i).any (fun y => n == y) = false) (fun (i : Nat) => a.length - i) 0 rfl (Le.c rfl <| Le.c rfl <| Le.c rfl <| Le.c rfl <| Le.e) ⟨by omega, by simp⟩ ?_
 rintro i ⟨hb, hr⟩
 refine CW.k XK 19 1 [0,1,7,8,9] rfl ?_
 (conv=>whnf);refine ⟨rfl,?_⟩
 refine CW.seq ?_
 refine CW.cond rfl (fun h1 => ?_) (fun h1 => ?_)
 ·skip
  have hii : i < a.length := by have := h1; simp at this; first | exact this | omega | (simp; done) | (simp; omega)
  obtain ⟨ei, hei⟩ : ∃ e, a[i]? = some e := ⟨_, List.getElem?_eq_getElem hii⟩
  have hdi := drop_get hei
  refine CW.skip ?_
  refine CW.keep 19 [0,1,7,8] rfl ?_;(conv=>whnf);refine ⟨?_⟩
  refine CW.seq ?_
  refine CW.block ?_
  refine CW.k XK 19 1 [0,1,5,7,8] rfl ?_
  (conv=>whnf);refine ⟨rfl,?_⟩
  refine CW.seq ?_
  refine CW.region ?_
  refine RW.k XK 19 3 rfl ?_
  (conv=>whnf);refine ⟨rfl,?_⟩
  refine RW.v rfl (V.indexS rfl rfl rfl rfl rfl rfl cI.len hei) ?_
  refine RW.k XK 19 2 rfl ?_
  (conv=>whnf);refine ⟨rfl,?_⟩
  refine RW.nil ?_
  refine CW.keep 19 [0,1,5,7,8,16] rfl ?_;(conv=>whnf);refine ⟨?_⟩
  refine CW.cond rfl (fun h2 => ?_) (fun h2 => ?_)
  ·skip
   refine CW.k XK 19 1 [4] rfl ?_
   (conv=>whnf);refine ⟨rfl,?_⟩
   refine CW.ret ?_
   exact Post.one (RV.i rfl (by exact idxF_at hr hei h2)) (AOs.r (AOs.r AOs.e))
  ·skip
   refine CW.skip ?_
   refine CW.keep 19 [0,1,7,8] rfl ?_;(conv=>whnf);refine ⟨?_⟩
   refine CW.region ?_
   refine RW.v rfl (V.inc rfl rfl rfl hii hl0) ?_
   refine RW.k XK 19 1 rfl ?_
   (conv=>whnf);refine ⟨rfl,?_⟩
   refine RW.nil ?_
   exact ⟨i + 1, by omega, ⟨by omega, any_snoc hr hei h2⟩, rfl, Le.c rfl <| Le.c rfl <| Le.c rfl <| Le.c rfl <| Le.e⟩
 ·skip
  have hii : a.length ≤ i := by have := h1; simp at this; first | exact this | omega | (simp; done) | (simp; omega)
  have hdi : a.drop i = [] := List.drop_eq_nil_of_le hii
  refine CW.exit ?_
  refine CW.keep 19 [] rfl ?_;(conv=>whnf);refine ⟨?_⟩
  refine CW.k XK 19 1 [4] rfl ?_
  (conv=>whnf);refine ⟨rfl,?_⟩
  refine CW.ret ?_
  exact Post.one (RV.i rfl (by exact idxF_no hr hii)) (AOs.r (AOs.r AOs.e))
set_option maxHeartbeats 4000000 in
theorem slices_Contains___int_int__fn (a : List Int) (n : Int) : Eng.Fn E.P 108 [.one (.r (sl 1 cI a)), .one (.r (.v (.int .i64 n)))] (.one (.one (.w (.v (.bool (hasI a n)))))) [.one (.r (sl 1 cI a)), .one (.r (.v (.int .i64 n)))] := by
 refine Eng.Fn.intro (E := E) (rvs := [.tmp 4]) Try.func108 rfl rfl rfl (by simp [outSlots, moved, rvSlot, sl]) ?_
 intro B g bo
 refine CW.bound (x := .tmp 0) (n := a.length) (AsT.r) (fun hl0 => ?_)
 refine CW.keep 9 [0,1] rfl ?_;(conv=>whnf);refine ⟨?_⟩
 refine CW.k XK 9 1 [0,1] rfl ?_
 (conv=>whnf);refine ⟨rfl,?_⟩
 refine CW.seq ?_
 refine CW.region ?_
 refine RW.k XK 9 2 rfl ?_
 (conv=>whnf);refine ⟨rfl,?_⟩
 refine RW.call rfl (slices_Index___int_int__fn a n) rfl (.cons (.one (.r .r)) (.cons (.one (.r .r)) (.nil))) fun g1 => ?_
 refine RW.k XK 9 2 rfl ?_
 (conv=>whnf);refine ⟨rfl,?_⟩
 refine RW.nil ?_
 refine CW.keep 9 [4] rfl ?_;(conv=>whnf);refine ⟨?_⟩
 refine CW.ret ?_
 exact Post.one (RV.b rfl (by exact hasI_idx a n)) (AOs.r (AOs.r AOs.e))
set_option maxHeartbeats 4000000 in
theorem impl_Most_fn (a : List Int) (l : List Int) : Eng.Fn E.P 131 [.one (.r (sl 1 cI a)), .one (.r (sl 1 cI l))] (.one (.one (.w (.v (.bool (most a l)))))) [.one (.r (sl 1 cI a)), .one (.r (sl 1 cI l))] := by
 refine Eng.Fn.intro (E := E) (rvs := [.tmp 4]) Try.func131 rfl rfl rfl (by simp [outSlots, moved, rvSlot, sl]) ?_
 intro B g bo
 refine CW.bound (x := .tmp 0) (n := a.length) (AsT.r) (fun hl0 => ?_)
 refine CW.bound (x := .tmp 1) (n := l.length) (AsT.r) (fun hl1 => ?_)
 refine CW.keep 29 [0,1] rfl ?_;(conv=>whnf);refine ⟨?_⟩
 refine CW.k XK 29 2 [0,1,5] rfl ?_
 (conv=>whnf);refine ⟨rfl,?_⟩
 refine CW.seq ?_
 refine CW.k XK 29 1 [0,1,5,8,9,10] rfl ?_
 (conv=>whnf);refine ⟨rfl,?_⟩
 refine CW.block ?_
 refine CW.loopI 29 (fun (zz : Nat × Int) => match zz with | (i, c) => [(0, .r (sl 1 cI a)), (1, .r (sl 1 cI l)), (5, I c), (8, .r (sl 1 cI a)), (9, I (a.length : Int)), (10, I (i : Int))]) (fun (zz : Nat × Int) => match zz with | (i, c) => i ≤ a.length ∧ mostGo l (a.drop i) c = mostGo l a 0) (fun (zz : Nat × Int) => match zz with | (i, c) => a.length - i) (0, _) rfl (Le.c rfl <| Le.c rfl <| Le.c rfl <| Le.c rfl <| Le.c rfl <| Le.c rfl <| Le.e) ⟨by omega, by simp⟩ ?_
 rintro ⟨i, c⟩ ⟨hb, hr⟩
 refine CW.k XK 29 1 [0,1,5,8,9,10,11] rfl ?_
 (conv=>whnf);refine ⟨rfl,?_⟩
 refine CW.seq ?_
 refine CW.cond rfl (fun h1 => ?_) (fun h1 => ?_)
 ·skip
  have hii : i < a.length := by have := h1; simp at this; first | exact this | omega | (simp; done) | (simp; omega)
  obtain ⟨ei, hei⟩ : ∃ e, a[i]? = some e := ⟨_, List.getElem?_eq_getElem hii⟩
  have hdi := drop_get hei
  refine CW.skip ?_
  refine CW.keep 29 [0,1,5,8,9,10] rfl ?_;(conv=>whnf);refine ⟨?_⟩
  refine CW.seq ?_
  refine CW.block ?_
  refine CW.seq ?_
  refine CW.region ?_
  refine RW.v rfl (V.indexS rfl rfl rfl rfl rfl rfl cI.len hei) ?_
  refine RW.k XK 29 2 rfl ?_
  (conv=>whnf);refine ⟨rfl,?_⟩
  refine RW.nil ?_
  refine CW.keep 29 [0,1,5,7,8,9,10] rfl ?_;(conv=>whnf);refine ⟨?_⟩
  refine CW.seq ?_
  refine CW.region ?_
  refine RW.k XK 29 2 rfl ?_
  (conv=>whnf);refine ⟨rfl,?_⟩
  refine RW.call rfl (slices_Contains___int_int__fn l ei) rfl (.cons (.one (.r .r)) (.cons (.one (.r .r)) (.nil))) fun g2 => ?_
  refine RW.nil ?_
  refine CW.keep 29 [0,1,5,8,9,10,16] rfl ?_;(conv=>whnf);refine ⟨?_⟩
  refine CW.cond rfl (fun h3 => ?_) (fun h3 => ?_)
  ·skip
   refine CW.region ?_
   refine RW.k XK 29 3 rfl ?_
   (conv=>whnf);refine ⟨rfl,?_⟩
   refine RW.nil ?_
   refine CW.keep 29 [0,1,5,8,9,10] rfl ?_;(conv=>whnf);refine ⟨?_⟩
   refine CW.region ?_
   refine RW.v rfl (V.inc rfl rfl rfl hii hl0) ?_
   refine RW.k XK 29 1 rfl ?_
   (conv=>whnf);refine ⟨rfl,?_⟩
   refine RW.nil ?_
   exact ⟨(i + 1, _), by simp only []; omega, ⟨by omega, by rw [← hr, hdi, mostGo]; simp_all⟩, rfl, Le.c rfl <| Le.c rfl <| Le.c rfl <| Le.c rfl <| Le.c rfl <| Le.c rfl <| Le.e⟩
  ·skip
   refine CW.skip ?_
   refine CW.keep 29 [0,1,5,8,9,10] rfl ?_;(conv=>whnf);refine ⟨?_⟩
   refine CW.region ?_
   refine RW.v rfl (V.inc rfl rfl rfl hii hl0) ?_
   refine RW.k XK 29 1 rfl ?_
   (conv=>whnf);refine ⟨rfl,?_⟩
   refine RW.nil ?_
   exact ⟨(i + 1, _), by simp only []; omega, ⟨by omega, by rw [← hr, hdi, mostGo]; simp_all⟩, rfl, Le.c rfl <| Le.c rfl <| Le.c rfl <| Le.c rfl <| Le.c rfl <| Le.c rfl <| Le.e⟩
 ·skip
  have hii : a.length ≤ i := by have := h1; simp at this; first | exact this | omega | (simp; done) | (simp; omega)
  have hdi : a.drop i = [] := List.drop_eq_nil_of_le hii
  refine CW.exit ?_
  refine CW.keep 29 [0,5] rfl ?_;(conv=>whnf);refine ⟨?_⟩
  refine CW.seqJ 29 (fun (v4 : Bool) => [(4, Bo v4)]) (fun v4 => v4 = ((confOk a) && decide ((IntKind.i64.wrap (2 * c)) > (a.length : Int)))) ?_ ?_
  ·refine CW.region ?_
   refine RW.k XK 29 1 rfl ?_
   (conv=>whnf);refine ⟨rfl,?_⟩
   refine RW.call rfl (impl_ConfOk_fn a) rfl (.cons (.one (.r .r)) (.nil)) fun g5 => ?_
   refine RW.k XK 29 1 rfl ?_
   (conv=>whnf);refine ⟨rfl,?_⟩
   refine RW.gv rfl rfl rfl rfl (fun h6 => V.mv (d := I c) rfl rfl) (fun h6 => ?_) (fun h6 => ?_)
   ·skip
    refine RW.k XK 29 6 rfl ?_
    (conv=>whnf);refine ⟨rfl,?_⟩
    refine RW.nil ?_
    exact ⟨_, by first | rfl | (simp_all; done) | (simp_all; omega) | grind, rfl, Le.of rfl⟩
   ·skip
    refine RW.k XK 29 6 rfl ?_
    (conv=>whnf);refine ⟨rfl,?_⟩
    refine RW.nil ?_
    exact ⟨_, by first | rfl | (simp_all; done) | (simp_all; omega) | grind, rfl, Le.of rfl⟩
  ·intro v4 hv7
   refine CW.ret ?_
   exact Post.one (RV.b rfl (by simp_all [most, mostGo])) (AOs.r (AOs.r AOs.e))
set_option maxHeartbeats 4000000 in
theorem __impl_Node__follow_fn (n : Node) (l : Int) : Eng.Fn E.P 132 [.ob ((Node.c n).map .w), .one (.r (.v (.int .i64 l)))] (.tup []) [.ob ((Node.c (followN n l)).map .w), .one (.r (.v (.int .i64 l)))] := by
 refine Eng.Fn.intro (E := E) (rvs := []) Try.func132 rfl rfl rfl (by simp [outSlots, moved, rvSlot, sl]) ?_
 intro B g bo
 refine CW.keep 17 [0,1] rfl ?_;(conv=>whnf);refine ⟨?_⟩
 refine CW.region ?_
 refine RW.k XK 17 17 rfl ?_
 (conv=>whnf);refine ⟨rfl,?_⟩
 refine RW.nil ?_
 exact Post.tup (by decide) RVs.e (AOs.obE (f := fun e => (Node.c e).map .w) (e' := (⟨n.id, n.term_, n.vote, 0, l, n.conf, n.log, n.commit, n.clock, n.limit, [], []⟩ : Node)) rfl (DT.v (DT.v (DT.v (DT.v (DT.v (DT.w (DT.v (DT.v (DT.w (DT.v (DT.v (DT.v (DT.n (DT.n DT.e)))))))))))))) (by rfl) (AOs.r AOs.e))
set_option maxHeartbeats 4000000 in
theorem __impl_Node__message_fn (n : Node) (k : Int) (t : Int) : Eng.Fn E.P 136 [.one (.r (.f none (Node.c n))), .one (.r (.v (.int .i64 k))), .one (.r (.v (.int .i64 t)))] (.one (.agg ((Message.c (msgN n k t)).map .w))) [.one (.r (.f none (Node.c n))), .one (.r (.v (.int .i64 k))), .one (.r (.v (.int .i64 t)))] := by
 refine Eng.Fn.intro (E := E) (rvs := [.cell 6 124]) Try.func136 rfl rfl rfl (by simp [outSlots, moved, rvSlot, sl]) ?_
 intro B g bo
 refine CW.asRp 0 rfl ?_
 refine CW.keep 18 [0,1,2] rfl ?_;(conv=>whnf);refine ⟨?_⟩
 refine CW.k XK 18 1 [0,1,2,6] rfl ?_
 (conv=>whnf);intro b1;(conv=>whnf);refine ⟨rfl,?_⟩
 refine CW.anyJ2 (fc := []) (L0 := []) 18 (fun (_ : Unit) => [(6, .obj b1 [I k, I n.id, I t, I n.term_, I 0, I 0, I 0, Bo false, .r (.v (.slice none 0 0)), .r (.v (.slice none 0 0)), S (⟨#[]⟩), Bo false])]) (fun all hall f hf b0 hb K hK => ?_) ?_
 ·skip
  have ro2_1 : ∀ B, RA f E B all 0 (bt 12 4095) ⟨18, [(6, .obj b1 [I k, I n.id, I t, I n.term_, I 0, I 0, I 0, Bo false, .r (.v (.slice none 0 0)), .r (.v (.slice none 0 0)), S (⟨#[]⟩), Bo false])] ++ b0⟩ K := by
   intro B
   exact RA.of2 hall hf hb (RA.finH (Tell.of rfl) (by kernel_rfl) (hK () _ rfl (Le.of rfl)))
  have ro2_0 : ∀ B, RA f E B all 1 (bt 12 2047) ⟨18, [(6, .obj b1 [I 0, I 0, I 0, I 0, I 0, I 0, I 0, Bo false, .r (.v (.slice none 0 0)), .r (.v (.slice none 0 0)), S (⟨#[]⟩), Bo false]), (17, .agg [I k, I n.id, I t, I n.term_, I 0, I 0, I 0, Bo false, .r (.v (.slice none 0 0)), .r (.v (.slice none 0 0)), S (⟨#[]⟩), Bo false])] ++ b0⟩ K := by
   intro B
   refine RA.of2 hall hf hb (RA.stepH (L := [11]) (Tell.of rfl) (by kernel_rfl) (by simp) (RA.each ?_ (RA.each0)))
   ·skip
    refine RO.storeAgg (es := [I k, I n.id, I t, I n.term_, I 0, I 0, I 0, Bo false, .r (.v (.slice none 0 0)), .r (.v (.slice none 0 0)), S (⟨#[]⟩), Bo false]) rfl rfl rfl rfl rfl rfl rfl rfl rfl rfl (Nat.le_of_ble_eq_true rfl) rfl ?_
    exact RA.to2 hall hf hb (ro2_1 B) rfl rfl (by kernel_rfl)
  refine RA.start (by kernel_rfl) (by kernel_rfl) (m := 12) (ls' := (bt 12 0)) ?_
  refine RA.fr XK 18 1 [0,1,2,3,4,5,6,7,8,9,10] (bt 12 2047) rfl rfl (by kernel_rfl) (Tell.of rfl) ?_
  (conv=>whnf);refine ⟨rfl,fun B=>?_⟩
  exact RA.to2 hall hf hb (ro2_0 B) rfl rfl (by kernel_rfl)
 ·rintro _
  refine CW.ret ?_
  exact Post.one (RV.c (f := fun e => (Message.c e).map .w) (e' := (⟨k, n.id, t, n.term_, 0, 0, 0, false, [], [], ⟨#[]⟩, false⟩ : Message)) rfl rfl rfl rfl (DT.v (DT.v (DT.v (DT.v (DT.v (DT.v (DT.v (DT.v (DT.n (DT.n (DT.v (DT.v DT.e)))))))))))) (by rfl)) (AOs.r (AOs.r (AOs.r AOs.e)))
set_option maxHeartbeats 4000000 in
theorem __impl_Node__send_fn (n : Node) (p : Peer) (hl : logB n.log) (hp : peerB n.log p) (hc : n.conf.length ≤ 1048576) : Eng.Fn E.P 133 [.one (.r (.f none (Node.c n))), .agg ((Peer.c p).map .r)] (.one (.agg ((Message.c (sendN n p)).map .w))) [.one (.r (.f none (Node.c n))), .agg ((Peer.c p).map .r)] := by
 refine Eng.Fn.intro (E := E) (rvs := [.cell 4 124]) Try.func133 rfl rfl rfl (by simp [outSlots, moved, rvSlot, sl]) ?_
 intro B g bo
 refine CW.asRp 0 rfl ?_
 refine CW.keep 89 [0,1] rfl ?_;(conv=>whnf);refine ⟨?_⟩
 refine CW.seq ?_
 refine CW.region ?_
 refine RW.k XK 89 1 rfl ?_
 (conv=>whnf);intro b1;(conv=>whnf);refine ⟨rfl,?_⟩
 refine RW.freezeB (ts := (Peer.c p)) 3 rfl (DRd.r (DRd.r (DRd.r (DRd.r DRd.e)))) ?_
 refine RW.k XK 89 1 rfl ?_
 (conv=>whnf);intro b2;(conv=>whnf);refine ⟨rfl,?_⟩
 refine RW.nil ?_
 refine CW.keep 89 [0,3,4] rfl ?_;(conv=>whnf);refine ⟨?_⟩
 refine CW.seq ?_
 refine CW.seq ?_
 refine CW.drawn (by kernel_rfl) ?_
 refine RQ.k XK 89 8 rfl ?_
 (conv=>whnf);refine ⟨rfl,?_⟩
 refine RQ.nil ?_
 refine CW.keep 89 [0,3,4,15] rfl ?_;(conv=>whnf);refine ⟨?_⟩
 refine CW.cond rfl (fun h3 => ?_) (fun h3 => ?_)
 ·skip
  refine CW.seq ?_
  refine CW.region ?_
  refine RW.k XK 89 3 rfl ?_
  (conv=>whnf);refine ⟨rfl,?_⟩
  refine RW.call rfl (__impl_Node__message_fn n 5 p.id) rfl (.cons (.one (.r .rp)) (.cons (.one (.r .r)) (.cons (.one (.r .r)) (.nil)))) fun g4 => ?_
  refine RW.k XK 89 2 rfl ?_
  (conv=>whnf);intro b5;(conv=>whnf);refine ⟨rfl,?_⟩
  refine RW.keep 89 [0,3,4,5,19] rfl ?_;(conv=>whnf);refine ⟨?_⟩
  refine RW.pullA (k := 5) (l := 19) (j := 8) 5 19 8 rfl rfl rfl (by decide) rfl rfl rfl rfl ?_
  refine RW.keep 89 [0,3,4,5,19] rfl ?_;(conv=>whnf);refine ⟨?_⟩
  refine RW.pullA (k := 5) (l := 19) (j := 9) 5 19 9 rfl rfl rfl (by decide) rfl rfl rfl rfl ?_
  refine RW.keep 89 [0,3,4,5] rfl ?_;(conv=>whnf);refine ⟨?_⟩
  refine RW.nil ?_
  refine CW.keep 89 [0,3,4,5] rfl ?_;(conv=>whnf);refine ⟨?_⟩
  refine CW.anyJ2 (fc := [(4, b2, [.int .i64 0, .int .i64 0, .int .i64 0, .int .i64 0, .int .i64 0, .int .i64 0, .int .i64 0, .bool false, .slice none 0 0, .slice none 0 0, .string (⟨#[]⟩), .bool false])]) (L0 := [(4, .obj b2 [I 0, I 0, I 0, I 0, I 0, I 0, I 0, Bo false, .r (.v (.slice none 0 0)), .r (.v (.slice none 0 0)), S (⟨#[]⟩), Bo false])]) 89 (fun (go6_14_1 : (Nat → Nat → Value)) => [(5, .obj b5 [I ((msgN n 5 p.id).kind), I ((msgN n 5 p.id).from_), I ((msgN n 5 p.id).to), I ((msgN n 5 p.id).term_), I n.log.start, I n.log.startTerm, I p.sent, Bo ((msgN n 5 p.id).ok), .w (sl 3 Entry.c ((msgN n 5 p.id).entries)) (g4 0 8), .w (sl 1 cI n.conf) (go6_14_1 0 0), S ((msgN n 5 p.id).data), Bo ((msgN n 5 p.id).last)])]) (fun all hall f hf b0 hb K hK => ?_) ?_
  ·skip
   have ro6_5 : ∀ B, ∀ (go6_14_1 : Nat → Nat → Value), RA f E B all 0 (bt 25 33554431) ⟨89, [(5, .obj b5 [I ((msgN n 5 p.id).kind), I ((msgN n 5 p.id).from_), I ((msgN n 5 p.id).to), I ((msgN n 5 p.id).term_), I n.log.start, I n.log.startTerm, I p.sent, Bo ((msgN n 5 p.id).ok), .w (sl 3 Entry.c ((msgN n 5 p.id).entries)) (g4 0 8), .w (sl 1 cI n.conf) (go6_14_1 0 0), S ((msgN n 5 p.id).data), Bo ((msgN n 5 p.id).last)])] ++ b0⟩ K := by
    intro B go6_14_1
    exact RA.of2 hall hf hb (RA.finH (Tell.of rfl) (by kernel_rfl) (hK go6_14_1 _ rfl (Le.of rfl)))
   have ro6_4 : ∀ B, ∀ (go6_14_1 : Nat → Nat → Value), RA f E B all 1 (bt 25 16777215) ⟨89, [(5, .obj b5 [I ((msgN n 5 p.id).kind), I ((msgN n 5 p.id).from_), I ((msgN n 5 p.id).to), I ((msgN n 5 p.id).term_), I n.log.start, I n.log.startTerm, I ((msgN n 5 p.id).commit), Bo ((msgN n 5 p.id).ok), .w (sl 3 Entry.c ((msgN n 5 p.id).entries)) (g4 0 8), .w (sl 1 cI n.conf) (go6_14_1 0 0), S ((msgN n 5 p.id).data), Bo ((msgN n 5 p.id).last)]), (36, I p.sent), (40, .pt 5 b5 6)] ++ b0⟩ K := by
    intro B go6_14_1
    refine RA.of2 hall hf hb (RA.stepH (L := [24]) (Tell.of rfl) (by kernel_rfl) (by simp) (RA.each ?_ (RA.each0)))
    ·skip
     refine RO.store (d := I p.sent) rfl rfl rfl rfl rfl rfl rfl rfl rfl (Nat.le_of_ble_eq_true rfl) rfl rfl ?_
     exact RA.to2 hall hf hb (ro6_5 B go6_14_1) rfl rfl (by kernel_rfl)
   have ro6_3 : ∀ B, ∀ (go6_14_1 : Nat → Nat → Value), RA f E B all 3 (bt 25 4194303) ⟨89, [(5, .obj b5 [I ((msgN n 5 p.id).kind), I ((msgN n 5 p.id).from_), I ((msgN n 5 p.id).to), I ((msgN n 5 p.id).term_), I n.log.start, I n.log.startTerm, I ((msgN n 5 p.id).commit), Bo ((msgN n 5 p.id).ok), .w (sl 3 Entry.c ((msgN n 5 p.id).entries)) (g4 0 8), .w (sl 1 cI ((msgN n 5 p.id).conf)) (g4 0 9), S ((msgN n 5 p.id).data), Bo ((msgN n 5 p.id).last)]), (34, .w (sl 1 cI n.conf) (go6_14_1 0 0)), (36, I p.sent), (39, .pt 5 b5 9)] ++ b0⟩ K := by
    intro B go6_14_1
    refine RA.of2 hall hf hb (RA.stepH (L := [22]) (Tell.of rfl) (by kernel_rfl) (by simp) (RA.each ?_ (RA.each0)))
    ·skip
     refine RO.store (d := .al 34 none 1 n.conf.length (go6_14_1 0 0) 0) rfl rfl rfl rfl rfl rfl rfl rfl rfl (Nat.le_of_ble_eq_true rfl) rfl rfl ?_
     refine RA.keep 89 [4,5,34,36] rfl ?_;(conv=>whnf);refine ⟨?_⟩
     refine RA.pullT (k := 5) (l := 34) (j := 9) 5 34 9 rfl rfl rfl (by decide) rfl rfl rfl ?_
     refine RA.keep 89 [4,5,36] rfl ?_;(conv=>whnf);refine ⟨?_⟩
     refine RA.fr XK 89 1 [23] (bt 25 16777215) rfl rfl (by kernel_rfl) (Tell.of rfl) ?_
     (conv=>whnf);refine ⟨rfl,fun B=>?_⟩
     exact RA.to2 hall hf hb (ro6_4 B go6_14_1) rfl rfl (by kernel_rfl)
   have ro6_2 : ∀ B, ∀ (go6_14_1 : Nat → Nat → Value), RA f E B all 5 (bt 25 1048575) ⟨89, [(5, .obj b5 [I ((msgN n 5 p.id).kind), I ((msgN n 5 p.id).from_), I ((msgN n 5 p.id).to), I ((msgN n 5 p.id).term_), I n.log.start, I ((msgN n 5 p.id).logTerm), I ((msgN n 5 p.id).commit), Bo ((msgN n 5 p.id).ok), .w (sl 3 Entry.c ((msgN n 5 p.id).entries)) (g4 0 8), .w (sl 1 cI ((msgN n 5 p.id).conf)) (g4 0 9), S ((msgN n 5 p.id).data), Bo ((msgN n 5 p.id).last)]), (29, I n.log.startTerm), (34, .w (sl 1 cI n.conf) (go6_14_1 0 0)), (36, I p.sent), (38, .pt 5 b5 5)] ++ b0⟩ K := by
    intro B go6_14_1
    refine RA.of2 hall hf hb (RA.stepH (L := [20]) (Tell.of rfl) (by kernel_rfl) (by simp) (RA.each ?_ (RA.each0)))
    ·skip
     refine RO.store (d := I n.log.startTerm) rfl rfl rfl rfl rfl rfl rfl rfl rfl (Nat.le_of_ble_eq_true rfl) rfl rfl ?_
     refine RA.fr XK 89 3 [21] (bt 25 4194303) rfl rfl (by kernel_rfl) (Tell.of rfl) ?_
     (conv=>whnf);refine ⟨rfl,fun B=>?_⟩
     exact RA.to2 hall hf hb (ro6_3 B go6_14_1) rfl rfl (by kernel_rfl)
   have ro6_1 : ∀ B, ∀ (go6_14_1 : Nat → Nat → Value), RA f E B all 7 (bt 25 262143) ⟨89, [(5, .obj b5 [I ((msgN n 5 p.id).kind), I ((msgN n 5 p.id).from_), I ((msgN n 5 p.id).to), I ((msgN n 5 p.id).term_), I ((msgN n 5 p.id).index), I ((msgN n 5 p.id).logTerm), I ((msgN n 5 p.id).commit), Bo ((msgN n 5 p.id).ok), .w (sl 3 Entry.c ((msgN n 5 p.id).entries)) (g4 0 8), .w (sl 1 cI ((msgN n 5 p.id).conf)) (g4 0 9), S ((msgN n 5 p.id).data), Bo ((msgN n 5 p.id).last)]), (24, I n.log.start), (29, I n.log.startTerm), (34, .w (sl 1 cI n.conf) (go6_14_1 0 0)), (36, I p.sent), (37, .pt 5 b5 4)] ++ b0⟩ K := by
    intro B go6_14_1
    refine RA.of2 hall hf hb (RA.stepH (L := [18]) (Tell.of rfl) (by kernel_rfl) (by simp) (RA.each ?_ (RA.each0)))
    ·skip
     refine RO.store (d := I n.log.start) rfl rfl rfl rfl rfl rfl rfl rfl rfl (Nat.le_of_ble_eq_true rfl) rfl rfl ?_
     refine RA.fr XK 89 5 [19] (bt 25 1048575) rfl rfl (by kernel_rfl) (Tell.of rfl) ?_
     (conv=>whnf);refine ⟨rfl,fun B=>?_⟩
     exact RA.to2 hall hf hb (ro6_2 B go6_14_1) rfl rfl (by kernel_rfl)
   have ro6_0 : ∀ B, RA f E B all 8 (bt 25 245759) ⟨89, [(5, .obj b5 [I ((msgN n 5 p.id).kind), I ((msgN n 5 p.id).from_), I ((msgN n 5 p.id).to), I ((msgN n 5 p.id).term_), I ((msgN n 5 p.id).index), I ((msgN n 5 p.id).logTerm), I ((msgN n 5 p.id).commit), Bo ((msgN n 5 p.id).ok), .w (sl 3 Entry.c ((msgN n 5 p.id).entries)) (g4 0 8), .w (sl 1 cI ((msgN n 5 p.id).conf)) (g4 0 9), S ((msgN n 5 p.id).data), Bo ((msgN n 5 p.id).last)]), (24, I n.log.start), (29, I n.log.startTerm), (33, .r (sl 1 cI n.conf)), (36, I p.sent), (37, .pt 5 b5 4)] ++ b0⟩ K := by
    intro B
    refine RA.of2 hall hf hb (RA.stepH (L := [14]) (Tell.of rfl) (by kernel_rfl) (by simp) (RA.each ?_ (RA.each0)))
    ·skip
     refine RO.call rfl rfl (impl_copyInts_fn n.conf hc) rfl (.cons (.one (.r .r)) (.nil)) rfl fun go6_14_1 => ?_
     exact RA.to2 hall hf hb (ro6_1 B go6_14_1) rfl rfl (by kernel_rfl)
   refine RA.start (by kernel_rfl) (by kernel_rfl) (m := 25) (ls' := (bt 25 0)) ?_
   refine RA.fr XK 89 8 [0,1,2,3,4,5,6,7,8,9,10,11,12,13,15,16,17] (bt 25 245759) rfl rfl (by kernel_rfl) (Tell.of rfl) ?_
   (conv=>whnf);refine ⟨rfl,fun B=>?_⟩
   exact RA.to2 hall hf hb (ro6_0 B) rfl rfl (by kernel_rfl)
  ·rintro go6_14_1
   refine CW.seq ?_
   refine CW.region ?_
   refine RW.k XK 89 2 rfl ?_
   (conv=>whnf);refine ⟨rfl,?_⟩
   refine RW.keep 89 [4,5] rfl ?_;(conv=>whnf);refine ⟨?_⟩
   refine RW.pullO (k := 4) (l := 5) (j := 8) 4 5 8 rfl rfl rfl (by decide) rfl rfl rfl rfl ?_
   refine RW.keep 89 [4,5] rfl ?_;(conv=>whnf);refine ⟨?_⟩
   refine RW.pullO (k := 4) (l := 5) (j := 9) 4 5 9 rfl rfl rfl (by decide) rfl rfl rfl rfl ?_
   refine RW.keep 89 [4,5] rfl ?_;(conv=>whnf);refine ⟨?_⟩
   refine RW.nil ?_
   refine CW.keep 89 [4] rfl ?_;(conv=>whnf);refine ⟨?_⟩
   refine CW.ret ?_
   exact Post.one (RV.c (f := fun e => (Message.c e).map .w) (e' := (⟨(msgN n 5 p.id).kind, (msgN n 5 p.id).from_, (msgN n 5 p.id).to, (msgN n 5 p.id).term_, n.log.start, n.log.startTerm, p.sent, (msgN n 5 p.id).ok, (msgN n 5 p.id).entries, n.conf, (msgN n 5 p.id).data, (msgN n 5 p.id).last⟩ : Message)) rfl rfl rfl rfl (DT.v (DT.v (DT.v (DT.v (DT.v (DT.v (DT.v (DT.v (DT.w (DT.w (DT.v (DT.v DT.e)))))))))))) (by unfold sendN; first | (rw [if_pos (by simpa using h3)]; rfl) | (rw [if_neg (by simpa using h3)]; rfl))) (AOs.r (AOs.a rfl AOs.e))
 ·skip
  refine CW.skip ?_
  refine CW.keep 89 [0,3,4] rfl ?_;(conv=>whnf);refine ⟨?_⟩
  refine CW.seq ?_
  refine CW.region ?_
  refine RW.k XK 89 3 rfl ?_
  (conv=>whnf);refine ⟨rfl,?_⟩
  refine RW.call rfl (__impl_Node__message_fn n 3 p.id) rfl (.cons (.one (.r .rp)) (.cons (.one (.r .r)) (.cons (.one (.r .r)) (.nil)))) fun g7 => ?_
  refine RW.k XK 89 2 rfl ?_
  (conv=>whnf);intro b8;(conv=>whnf);refine ⟨rfl,?_⟩
  refine RW.keep 89 [0,3,4,6,45] rfl ?_;(conv=>whnf);refine ⟨?_⟩
  refine RW.pullA (k := 6) (l := 45) (j := 8) 6 45 8 rfl rfl rfl (by decide) rfl rfl rfl rfl ?_
  refine RW.keep 89 [0,3,4,6,45] rfl ?_;(conv=>whnf);refine ⟨?_⟩
  refine RW.pullA (k := 6) (l := 45) (j := 9) 6 45 9 rfl rfl rfl (by decide) rfl rfl rfl rfl ?_
  refine RW.keep 89 [0,3,4,6] rfl ?_;(conv=>whnf);refine ⟨?_⟩
  refine RW.nil ?_
  refine CW.keep 89 [0,3,4,6] rfl ?_;(conv=>whnf);refine ⟨?_⟩
  refine CW.anyJ2 (fc := [(4, b2, [.int .i64 0, .int .i64 0, .int .i64 0, .int .i64 0, .int .i64 0, .int .i64 0, .int .i64 0, .bool false, .slice none 0 0, .slice none 0 0, .string (⟨#[]⟩), .bool false])]) (L0 := [(0, .rp (Node.c n)), (3, .rp (Peer.c p)), (4, .obj b2 [I 0, I 0, I 0, I 0, I 0, I 0, I 0, Bo false, .r (.v (.slice none 0 0)), .r (.v (.slice none 0 0)), S (⟨#[]⟩), Bo false])]) 89 (fun (go9_10_1 : (Nat → Nat → Value)) => [(6, .obj b8 [I ((msgN n 3 p.id).kind), I ((msgN n 3 p.id).from_), I ((msgN n 3 p.id).to), I ((msgN n 3 p.id).term_), I (IntKind.i64.wrap (p.next - 1)), I (logTerm n.log (IntKind.i64.wrap (p.next - 1))), I n.commit, Bo ((msgN n 3 p.id).ok), .w (sl 3 Entry.c ((msgN n 3 p.id).entries)) (g7 0 8), .w (sl 1 cI ((msgN n 3 p.id).conf)) (g7 0 9), S ((msgN n 3 p.id).data), Bo ((msgN n 3 p.id).last)])]) (fun all hall f hf b0 hb K hK => ?_) ?_
  ·skip
   have ro9_4 : ∀ B, ∀ (go9_10_1 : Nat → Nat → Value), RA f E B all 0 (bt 21 2097151) ⟨89, [(6, .obj b8 [I ((msgN n 3 p.id).kind), I ((msgN n 3 p.id).from_), I ((msgN n 3 p.id).to), I ((msgN n 3 p.id).term_), I (IntKind.i64.wrap (p.next - 1)), I (logTerm n.log (IntKind.i64.wrap (p.next - 1))), I n.commit, Bo ((msgN n 3 p.id).ok), .w (sl 3 Entry.c ((msgN n 3 p.id).entries)) (g7 0 8), .w (sl 1 cI ((msgN n 3 p.id).conf)) (g7 0 9), S ((msgN n 3 p.id).data), Bo ((msgN n 3 p.id).last)])] ++ b0⟩ K := by
    intro B go9_10_1
    exact RA.of2 hall hf hb (RA.finH (Tell.of rfl) (by kernel_rfl) (hK go9_10_1 _ rfl (Le.of rfl)))
   have ro9_3 : ∀ B, ∀ (go9_10_1 : Nat → Nat → Value), RA f E B all 1 (bt 21 1048575) ⟨89, [(6, .obj b8 [I ((msgN n 3 p.id).kind), I ((msgN n 3 p.id).from_), I ((msgN n 3 p.id).to), I ((msgN n 3 p.id).term_), I (IntKind.i64.wrap (p.next - 1)), I (logTerm n.log (IntKind.i64.wrap (p.next - 1))), I ((msgN n 3 p.id).commit), Bo ((msgN n 3 p.id).ok), .w (sl 3 Entry.c ((msgN n 3 p.id).entries)) (g7 0 8), .w (sl 1 cI ((msgN n 3 p.id).conf)) (g7 0 9), S ((msgN n 3 p.id).data), Bo ((msgN n 3 p.id).last)]), (60, I n.commit), (63, .pt 6 b8 6)] ++ b0⟩ K := by
    intro B go9_10_1
    refine RA.of2 hall hf hb (RA.stepH (L := [20]) (Tell.of rfl) (by kernel_rfl) (by simp) (RA.each ?_ (RA.each0)))
    ·skip
     refine RO.store (d := I n.commit) rfl rfl rfl rfl rfl rfl rfl rfl rfl (Nat.le_of_ble_eq_true rfl) rfl rfl ?_
     exact RA.to2 hall hf hb (ro9_4 B go9_10_1) rfl rfl (by kernel_rfl)
   have ro9_2 : ∀ B, ∀ (go9_10_1 : Nat → Nat → Value), RA f E B all 3 (bt 21 262143) ⟨89, [(6, .obj b8 [I ((msgN n 3 p.id).kind), I ((msgN n 3 p.id).from_), I ((msgN n 3 p.id).to), I ((msgN n 3 p.id).term_), I (IntKind.i64.wrap (p.next - 1)), I ((msgN n 3 p.id).logTerm), I ((msgN n 3 p.id).commit), Bo ((msgN n 3 p.id).ok), .w (sl 3 Entry.c ((msgN n 3 p.id).entries)) (g7 0 8), .w (sl 1 cI ((msgN n 3 p.id).conf)) (g7 0 9), S ((msgN n 3 p.id).data), Bo ((msgN n 3 p.id).last)]), (56, I (logTerm n.log (IntKind.i64.wrap (p.next - 1)))), (60, I n.commit), (62, .pt 6 b8 5)] ++ b0⟩ K := by
    intro B go9_10_1
    refine RA.of2 hall hf hb (RA.stepH (L := [18]) (Tell.of rfl) (by kernel_rfl) (by simp) (RA.each ?_ (RA.each0)))
    ·skip
     refine RO.store (d := I (logTerm n.log (IntKind.i64.wrap (p.next - 1)))) rfl rfl rfl rfl rfl rfl rfl rfl rfl (Nat.le_of_ble_eq_true rfl) rfl rfl ?_
     refine RA.fr XK 89 1 [19] (bt 21 1048575) rfl rfl (by kernel_rfl) (Tell.of rfl) ?_
     (conv=>whnf);refine ⟨rfl,fun B=>?_⟩
     exact RA.to2 hall hf hb (ro9_3 B go9_10_1) rfl rfl (by kernel_rfl)
   have ro9_1 : ∀ B, ∀ (go9_10_1 : Nat → Nat → Value), RA f E B all 5 (bt 21 65535) ⟨89, [(6, .obj b8 [I ((msgN n 3 p.id).kind), I ((msgN n 3 p.id).from_), I ((msgN n 3 p.id).to), I ((msgN n 3 p.id).term_), I ((msgN n 3 p.id).index), I ((msgN n 3 p.id).logTerm), I ((msgN n 3 p.id).commit), Bo ((msgN n 3 p.id).ok), .w (sl 3 Entry.c ((msgN n 3 p.id).entries)) (g7 0 8), .w (sl 1 cI ((msgN n 3 p.id).conf)) (g7 0 9), S ((msgN n 3 p.id).data), Bo ((msgN n 3 p.id).last)]), (48, I (IntKind.i64.wrap (p.next - 1))), (56, I (logTerm n.log (IntKind.i64.wrap (p.next - 1)))), (60, I n.commit), (61, .pt 6 b8 4)] ++ b0⟩ K := by
    intro B go9_10_1
    refine RA.of2 hall hf hb (RA.stepH (L := [16]) (Tell.of rfl) (by kernel_rfl) (by simp) (RA.each ?_ (RA.each0)))
    ·skip
     refine RO.store (d := I (IntKind.i64.wrap (p.next - 1))) rfl rfl rfl rfl rfl rfl rfl rfl rfl (Nat.le_of_ble_eq_true rfl) rfl rfl ?_
     refine RA.fr XK 89 3 [17] (bt 21 262143) rfl rfl (by kernel_rfl) (Tell.of rfl) ?_
     (conv=>whnf);refine ⟨rfl,fun B=>?_⟩
     exact RA.to2 hall hf hb (ro9_2 B go9_10_1) rfl rfl (by kernel_rfl)
   have ro9_0 : ∀ B, RA f E B all 6 (bt 21 64511) ⟨89, [(6, .obj b8 [I ((msgN n 3 p.id).kind), I ((msgN n 3 p.id).from_), I ((msgN n 3 p.id).to), I ((msgN n 3 p.id).term_), I ((msgN n 3 p.id).index), I ((msgN n 3 p.id).logTerm), I ((msgN n 3 p.id).commit), Bo ((msgN n 3 p.id).ok), .w (sl 3 Entry.c ((msgN n 3 p.id).entries)) (g7 0 8), .w (sl 1 cI ((msgN n 3 p.id).conf)) (g7 0 9), S ((msgN n 3 p.id).data), Bo ((msgN n 3 p.id).last)]), (48, I (IntKind.i64.wrap (p.next - 1))), (52, .agg ((Log.c n.log).map .r)), (55, I (IntKind.i64.wrap (p.next - 1))), (60, I n.commit), (61, .pt 6 b8 4)] ++ b0⟩ K := by
    intro B
    refine RA.of2 hall hf hb (RA.stepH (L := [10]) (Tell.of rfl) (by kernel_rfl) (by simp) (RA.each ?_ (RA.each0)))
    ·skip
     refine RO.call rfl rfl (impl_LogTerm_fn n.log (IntKind.i64.wrap (p.next - 1)) hl (wrap_le _)) rfl (.cons (.agg (.cons (.r .r) (.cons (.r .r) (.cons (.r .r) (.nil))))) (.cons (.one (.r .r)) (.nil))) rfl fun go9_10_1 => ?_
     exact RA.to2 hall hf hb (ro9_1 B go9_10_1) rfl rfl (by kernel_rfl)
   refine RA.start (by kernel_rfl) (by kernel_rfl) (m := 21) (ls' := (bt 21 0)) ?_
   refine RA.fr XK 89 6 [0,1,2,3,4,5,6,7,8,9,11,12,13,14,15] (bt 21 64511) rfl rfl (by kernel_rfl) (Tell.of rfl) ?_
   (conv=>whnf);refine ⟨rfl,fun B=>?_⟩
   exact RA.to2 hall hf hb (ro9_0 B) rfl rfl (by kernel_rfl)
  ·rintro go9_10_1
   refine CW.seq ?_
   refine CW.drawn (by kernel_rfl) ?_
   refine RQ.k XK 89 14 rfl ?_
   (conv=>whnf);refine ⟨rfl,?_⟩
   refine RQ.v rfl (V.dropS (m := (p.next - 1 - n.log.start).toNat) rfl rfl rfl rfl rfl rfl (by have hl1 := hl.1; have hl2 := hl.2.1; have hl3 := hl.2.2; have hp1 := hp.1; have hp2 := hp.2; have hn : n.log.start < p.next := (by simpa using h3); rw [IntKind.wrap_i64, IntKind.wrap_i64]; omega) Entry.len (by have hl1 := hl.1; have hl2 := hl.2.1; have hl3 := hl.2.2; have hp1 := hp.1; have hp2 := hp.2; have hn : n.log.start < p.next := (by simpa using h3); omega)) ?_
   refine RQ.k XK 89 1 rfl ?_
   (conv=>whnf);refine ⟨rfl,?_⟩
   refine RQ.nil ?_
   refine CW.keep 89 [4,6,7] rfl ?_;(conv=>whnf);refine ⟨?_⟩
   refine CW.anyJ2 (fc := [(4, b2, [.int .i64 0, .int .i64 0, .int .i64 0, .int .i64 0, .int .i64 0, .int .i64 0, .int .i64 0, .bool false, .slice none 0 0, .slice none 0 0, .string (⟨#[]⟩), .bool false])]) (L0 := [(4, .obj b2 [I 0, I 0, I 0, I 0, I 0, I 0, I 0, Bo false, .r (.v (.slice none 0 0)), .r (.v (.slice none 0 0)), S (⟨#[]⟩), Bo false])]) 89 (fun (Xo10_7_1 : Value) => [(6, .obj b8 [I ((msgN n 3 p.id).kind), I ((msgN n 3 p.id).from_), I ((msgN n 3 p.id).to), I ((msgN n 3 p.id).term_), I (IntKind.i64.wrap (p.next - 1)), I (logTerm n.log (IntKind.i64.wrap (p.next - 1))), I n.commit, Bo ((msgN n 3 p.id).ok), .w (sl 3 Entry.c (((msgN n 3 p.id).entries) ++ ((n.log.entries.drop (p.next - 1 - n.log.start).toNat).take (min 4 (n.log.entries.drop (p.next - 1 - n.log.start).toNat).length)))) Xo10_7_1, .w (sl 1 cI ((msgN n 3 p.id).conf)) (g7 0 9), S ((msgN n 3 p.id).data), Bo ((msgN n 3 p.id).last)])]) (fun all hall f hf b0 hb K hK => ?_) ?_
   ·skip
    have ro10_3 : ∀ B, ∀ (Xo10_7_1 : Value), RA f E B all 0 (bt 10 1023) ⟨89, [(6, .obj b8 [I ((msgN n 3 p.id).kind), I ((msgN n 3 p.id).from_), I ((msgN n 3 p.id).to), I ((msgN n 3 p.id).term_), I (IntKind.i64.wrap (p.next - 1)), I (logTerm n.log (IntKind.i64.wrap (p.next - 1))), I n.commit, Bo ((msgN n 3 p.id).ok), .w (sl 3 Entry.c (((msgN n 3 p.id).entries) ++ ((n.log.entries.drop (p.next - 1 - n.log.start).toNat).take (min 4 (n.log.entries.drop (p.next - 1 - n.log.start).toNat).length)))) Xo10_7_1, .w (sl 1 cI ((msgN n 3 p.id).conf)) (g7 0 9), S ((msgN n 3 p.id).data), Bo ((msgN n 3 p.id).last)])] ++ b0⟩ K := by
     intro B Xo10_7_1
     exact RA.of2 hall hf hb (RA.finH (Tell.of rfl) (by kernel_rfl) (hK Xo10_7_1 _ rfl (Le.of rfl)))
    have ro10_2 : ∀ B, ∀ (Xo10_7_1 : Value), RA f E B all 1 (bt 10 511) ⟨89, [(6, .obj b8 [I ((msgN n 3 p.id).kind), I ((msgN n 3 p.id).from_), I ((msgN n 3 p.id).to), I ((msgN n 3 p.id).term_), I (IntKind.i64.wrap (p.next - 1)), I (logTerm n.log (IntKind.i64.wrap (p.next - 1))), I n.commit, Bo ((msgN n 3 p.id).ok), .u, .w (sl 1 cI ((msgN n 3 p.id).conf)) (g7 0 9), S ((msgN n 3 p.id).data), Bo ((msgN n 3 p.id).last)]), (86, .w (sl 3 Entry.c (((msgN n 3 p.id).entries) ++ ((n.log.entries.drop (p.next - 1 - n.log.start).toNat).take (min 4 (n.log.entries.drop (p.next - 1 - n.log.start).toNat).length)))) Xo10_7_1), (87, .pt 6 b8 8)] ++ b0⟩ K := by
     intro B Xo10_7_1
     refine RA.of2 hall hf hb (RA.stepH (L := [9]) (Tell.of rfl) (by kernel_rfl) (by simp) (RA.each ?_ (RA.each0)))
     ·skip
      refine RO.store (d := .al 86 none 3 ((((msgN n 3 p.id).entries) ++ ((n.log.entries.drop (p.next - 1 - n.log.start).toNat).take (min 4 (n.log.entries.drop (p.next - 1 - n.log.start).toNat).length))).length) Xo10_7_1 0) rfl rfl rfl rfl rfl rfl rfl rfl rfl (Nat.le_of_ble_eq_true rfl) rfl rfl ?_
      refine RA.keep 89 [4,6,86] rfl ?_;(conv=>whnf);refine ⟨?_⟩
      refine RA.pullT (k := 6) (l := 86) (j := 8) 6 86 8 rfl rfl rfl (by decide) rfl rfl rfl ?_
      refine RA.keep 89 [4,6] rfl ?_;(conv=>whnf);refine ⟨?_⟩
      exact RA.to2 hall hf hb (ro10_3 B Xo10_7_1) rfl rfl (by kernel_rfl)
    have ro10_1 : ∀ B, RA f E B all 3 (bt 10 127) ⟨89, [(6, .obj b8 [I ((msgN n 3 p.id).kind), I ((msgN n 3 p.id).from_), I ((msgN n 3 p.id).to), I ((msgN n 3 p.id).term_), I (IntKind.i64.wrap (p.next - 1)), I (logTerm n.log (IntKind.i64.wrap (p.next - 1))), I n.commit, Bo ((msgN n 3 p.id).ok), .w (sl 3 Entry.c ((msgN n 3 p.id).entries)) (g7 0 8), .w (sl 1 cI ((msgN n 3 p.id).conf)) (g7 0 9), S ((msgN n 3 p.id).data), Bo ((msgN n 3 p.id).last)]), (80, .al 6 (some 8) 3 (((msgN n 3 p.id).entries).length) (g7 0 8) 0), (85, .r (sl 3 Entry.c ((n.log.entries.drop (p.next - 1 - n.log.start).toNat).take (min 4 (n.log.entries.drop (p.next - 1 - n.log.start).toNat).length))))] ++ b0⟩ K := by
     intro B
     refine RA.of2 hall hf hb (RA.stepH (L := [7]) (Tell.of rfl) (by kernel_rfl) (by simp) (RA.each ?_ (RA.each0)))
     ·skip
      refine RO.takeO 80 6 8 (by decide) rfl rfl rfl ?_
      refine RO.appendSR (c := Entry.c) (l1 := (msgN n 3 p.id).entries) (l2 := ((n.log.entries.drop (p.next - 1 - n.log.start).toNat).take (min 4 (n.log.entries.drop (p.next - 1 - n.log.start).toNat).length))) rfl rfl rfl rfl rfl rfl rfl rfl rfl rfl .r (by decide) (Nat.le_of_ble_eq_true rfl) Entry.len (fun _ => rfl) rfl (by have hl3 := hl.2.2; simp only [msgN, maxLen, List.length_nil, List.length_take, List.length_drop]; omega) (by have hl3 := hl.2.2; simp only [msgN, maxLen, List.length_nil, List.length_take, List.length_drop]; omega) fun Xo10_7_1 => ?_
      refine RA.fr XK 89 1 [8] (bt 10 511) rfl rfl (by kernel_rfl) (Tell.of rfl) ?_
      (conv=>whnf);refine ⟨rfl,fun B=>?_⟩
      exact RA.to2 hall hf hb (ro10_2 B Xo10_7_1) rfl rfl (by kernel_rfl)
    have ro10_0 : ∀ B, RA f E B all 4 (bt 10 125) ⟨89, [(6, .obj b8 [I ((msgN n 3 p.id).kind), I ((msgN n 3 p.id).from_), I ((msgN n 3 p.id).to), I ((msgN n 3 p.id).term_), I (IntKind.i64.wrap (p.next - 1)), I (logTerm n.log (IntKind.i64.wrap (p.next - 1))), I n.commit, Bo ((msgN n 3 p.id).ok), .w (sl 3 Entry.c ((msgN n 3 p.id).entries)) (g7 0 8), .w (sl 1 cI ((msgN n 3 p.id).conf)) (g7 0 9), S ((msgN n 3 p.id).data), Bo ((msgN n 3 p.id).last)]), (79, .pt 6 b8 8), (85, .r (sl 3 Entry.c ((n.log.entries.drop (p.next - 1 - n.log.start).toNat).take (min 4 (n.log.entries.drop (p.next - 1 - n.log.start).toNat).length))))] ++ b0⟩ K := by
     intro B
     refine RA.of2 hall hf hb (RA.stepH (L := [1]) (Tell.of rfl) (by kernel_rfl) (by simp) (RA.each ?_ (RA.each0)))
     ·skip
      refine RO.v rfl rfl (V.loadPrim (d := .al 6 (some 8) 3 (((msgN n 3 p.id).entries).length) (g7 0 8) 0) rfl rfl (.inr ⟨_, rfl⟩) rfl rfl rfl) rfl ?_
      exact RA.to2 hall hf hb (ro10_1 B) rfl rfl (by kernel_rfl)
    refine RA.start (by kernel_rfl) (by kernel_rfl) (m := 10) (ls' := (bt 10 0)) ?_
    refine RA.fr XK 89 5 [0,2,3,4,5] (bt 10 61) rfl rfl (by kernel_rfl) (Tell.of rfl) ?_
    (conv=>whnf);refine ⟨rfl,fun B=>?_⟩
    refine RA.first (i := 6) (ls' := (bt 10 125)) (Tell.of rfl) (by kernel_rfl) rfl rfl rfl (VF.p (V.takeSZ (m := (min 4 (n.log.entries.drop (p.next - 1 - n.log.start).toNat).length)) rfl rfl rfl rfl rfl rfl (by unfold mnI; split <;> omega) Entry.len (Nat.min_le_right _ _))) ?_
    exact RA.to2 hall hf hb (ro10_0 B) rfl rfl (by kernel_rfl)
   ·rintro Xo10_7_1
    refine CW.seq ?_
    refine CW.region ?_
    refine RW.k XK 89 2 rfl ?_
    (conv=>whnf);refine ⟨rfl,?_⟩
    refine RW.keep 89 [4,6] rfl ?_;(conv=>whnf);refine ⟨?_⟩
    refine RW.pullO (k := 4) (l := 6) (j := 8) 4 6 8 rfl rfl rfl (by decide) rfl rfl rfl rfl ?_
    refine RW.keep 89 [4,6] rfl ?_;(conv=>whnf);refine ⟨?_⟩
    refine RW.pullO (k := 4) (l := 6) (j := 9) 4 6 9 rfl rfl rfl (by decide) rfl rfl rfl rfl ?_
    refine RW.keep 89 [4,6] rfl ?_;(conv=>whnf);refine ⟨?_⟩
    refine RW.nil ?_
    refine CW.keep 89 [4] rfl ?_;(conv=>whnf);refine ⟨?_⟩
    refine CW.ret ?_
    exact Post.one (RV.c (f := fun e => (Message.c e).map .w) (e' := (⟨(msgN n 3 p.id).kind, (msgN n 3 p.id).from_, (msgN n 3 p.id).to, (msgN n 3 p.id).term_, (IntKind.i64.wrap (p.next - 1)), (logTerm n.log (IntKind.i64.wrap (p.next - 1))), n.commit, (msgN n 3 p.id).ok, (((msgN n 3 p.id).entries) ++ ((n.log.entries.drop (p.next - 1 - n.log.start).toNat).take (min 4 (n.log.entries.drop (p.next - 1 - n.log.start).toNat).length))), (msgN n 3 p.id).conf, (msgN n 3 p.id).data, (msgN n 3 p.id).last⟩ : Message)) rfl rfl rfl rfl (DT.v (DT.v (DT.v (DT.v (DT.v (DT.v (DT.v (DT.v (DT.w (DT.w (DT.v (DT.v DT.e)))))))))))) (by unfold sendN; first | (rw [if_pos (by simpa using h3)]; rfl) | (rw [if_neg (by simpa using h3)]; rfl))) (AOs.r (AOs.a rfl AOs.e))
set_option maxHeartbeats 4000000 in
theorem __impl_Node__sendAll_fn (n : Node) (hl : logB n.log) (hp : ∀ p ∈ n.peers, peerB n.log p) (hc : n.conf.length ≤ 1048576) (hm : n.peers.length ≤ 1048576) : Eng.Fn E.P 102 [.one (.r (.f none (Node.c n)))] (.one (.one (.w (sl 12 Message.c (n.peers.map (sendN n)))))) [.one (.r (.f none (Node.c n)))] := by
 refine Eng.Fn.intro (E := E) (rvs := [.tmp 2]) Try.func102 rfl rfl rfl (by simp [outSlots, moved, rvSlot, sl]) ?_
 intro B g bo
 refine CW.asRp 0 rfl ?_
 refine CW.keep 24 [0] rfl ?_;(conv=>whnf);refine ⟨?_⟩
 refine CW.k XK 24 1 [0] rfl ?_
 (conv=>whnf);refine ⟨rfl,?_⟩
 refine CW.seq ?_
 refine CW.region ?_
 refine RW.build0 Message.c rfl rfl rfl rfl rfl fun X1 => ?_
 refine RW.assignMove rfl rfl rfl (by decide) (Nat.le_of_ble_eq_true rfl) (Nat.le_of_ble_eq_true rfl) ?_
 refine RW.nil ?_
 refine CW.keep 24 [0,3] rfl ?_;(conv=>whnf);refine ⟨?_⟩
 refine CW.seq ?_
 refine CW.k XK 24 1 [0,3,10,11,12] rfl ?_
 (conv=>whnf);refine ⟨rfl,?_⟩
 refine CW.block ?_
 refine CW.loopI 24 (fun (zz : Nat × Value) => match zz with | (i, X) => [(0, .rp (Node.c n)), (3, .w (sl 12 Message.c ((n.peers.take i).map (sendN n))) X), (10, .r (sl 4 Peer.c n.peers)), (11, I (n.peers.length : Int)), (12, I (i : Int))]) (fun (zz : Nat × Value) => match zz with | (i, X) => i ≤ n.peers.length) (fun (zz : Nat × Value) => match zz with | (i, X) => n.peers.length - i) (0, _) rfl (Le.c rfl <| Le.c rfl <| Le.c rfl <| Le.c rfl <| Le.c rfl <| Le.e) (by omega) ?_
 rintro ⟨i, X⟩ hb
 have hl0 : n.peers.length ≤ maxLen := by simp only [maxLen]; omega
 refine CW.k XK 24 1 [0,3,10,11,12,13] rfl ?_
 (conv=>whnf);refine ⟨rfl,?_⟩
 refine CW.seq ?_
 refine CW.cond rfl (fun h2 => ?_) (fun h2 => ?_)
 ·skip
  have hii : i < n.peers.length := by have := h2; simp at this; first | exact this | omega | (simp; done) | (simp; omega)
  obtain ⟨ei, hei⟩ : ∃ e, n.peers[i]? = some e := ⟨_, List.getElem?_eq_getElem hii⟩
  have hdi := drop_get hei
  refine CW.skip ?_
  refine CW.keep 24 [0,3,10,11,12] rfl ?_;(conv=>whnf);refine ⟨?_⟩
  refine CW.seq ?_
  refine CW.block ?_
  refine CW.seq ?_
  refine CW.region ?_
  refine RW.v rfl (V.indexS rfl rfl rfl rfl rfl rfl Peer.len hei) ?_
  refine RW.k XK 24 3 rfl ?_
  (conv=>whnf);intro b3;(conv=>whnf);refine ⟨rfl,?_⟩
  refine RW.freezeB (ts := (Peer.c ei)) 5 rfl (DRd.r (DRd.r (DRd.r (DRd.r DRd.e)))) ?_
  refine RW.nil ?_
  refine CW.keep 24 [0,3,5,10,11,12] rfl ?_;(conv=>whnf);refine ⟨?_⟩
  refine CW.region ?_
  refine RW.k XK 24 3 rfl ?_
  (conv=>whnf);refine ⟨rfl,?_⟩
  refine RW.call rfl (__impl_Node__send_fn n ei hl (hp ei (List.mem_of_getElem? hei)) hc) rfl (.cons (.one (.r .rp)) (.cons (.agg (.cons (.r .r) (.cons (.r .r) (.cons (.r .r) (.cons (.r .r) (.nil)))))) (.nil))) fun g4 => ?_
  refine RW.build1O (c := Message.c) (v := (sendN n ei)) rfl rfl rfl rfl rfl rfl rfl (DW.v (DW.v (DW.v (DW.v (DW.v (DW.v (DW.v (DW.v (DW.w (DW.w (DW.v (DW.v DW.e)))))))))))) Message.len (by decide) (by decide) (by decide) (Nat.le_of_ble_eq_true rfl) fun X5 => ?_
  refine RW.appendSS (c := Message.c) (l1 := ((n.peers.take i).map (sendN n))) (l2 := [(sendN n ei)]) rfl rfl rfl rfl rfl rfl rfl rfl rfl rfl (by decide) (by decide) (by decide) (Nat.le_of_ble_eq_true rfl) Message.len (fun _ => rfl) rfl (by simp only [maxLen, List.length_map, List.length_take, List.length_singleton]; omega) (by simp only [maxLen, List.length_map, List.length_take, List.length_singleton]; omega) fun X6 => ?_
  refine RW.assignMove rfl rfl rfl (by decide) (Nat.le_of_ble_eq_true rfl) (Nat.le_of_ble_eq_true rfl) ?_
  refine RW.nil ?_
  refine CW.keep 24 [0,3,10,11,12] rfl ?_;(conv=>whnf);refine ⟨?_⟩
  refine CW.region ?_
  refine RW.v rfl (V.inc rfl rfl rfl hii hl0) ?_
  refine RW.k XK 24 1 rfl ?_
  (conv=>whnf);refine ⟨rfl,?_⟩
  refine RW.nil ?_
  exact ⟨(i + 1, _), by simp only []; omega, (by omega), rfl, Le.c rfl <| Le.c (Dw_congr (by rw [take_snoc hei, List.map_append]; rfl)) <| Le.c rfl <| Le.c rfl <| Le.c rfl <| Le.e⟩
 ·skip
  have hii : n.peers.length ≤ i := by have := h2; simp at this; first | exact this | omega | (simp; done) | (simp; omega)
  have hdi : n.peers.drop i = [] := List.drop_eq_nil_of_le hii
  refine CW.exit ?_
  refine CW.keep 24 [3] rfl ?_;(conv=>whnf);refine ⟨?_⟩
  refine CW.seq ?_
  refine CW.region ?_
  refine RW.k XK 24 2 rfl ?_
  (conv=>whnf);refine ⟨rfl,?_⟩
  refine RW.pullS 2 3 (by decide) rfl rfl ?_
  refine RW.nil ?_
  refine CW.keep 24 [2] rfl ?_;(conv=>whnf);refine ⟨?_⟩
  refine CW.ret ?_
  exact Post.one (RV.w rfl (by rw [List.take_of_length_le hii])) (AOs.r AOs.e)
set_option maxHeartbeats 4000000 in
theorem __impl_Node__commit_fn (n : Node) (hl : logB n.log) (hok : okToNode n) (ht : 0 ≤ n.term_) : Eng.Fn E.P 101 [.ob ((Node.c n).map .w)] (.tup []) [.ob ((Node.c (commitN n)).map .w)] := by
 refine Eng.Fn.intro (E := E) (rvs := []) Try.func101 rfl rfl rfl (by simp [outSlots, moved, rvSlot, sl]) ?_
 intro B g bo
 refine CW.keep 108 [0] rfl ?_;(conv=>whnf);refine ⟨?_⟩
 have hpm : n.peers.length ≤ 1048576 := hok.2.2.2.1
 refine CW.seq ?_
 refine CW.region ?_
 refine RW.k XK 108 4 rfl ?_
 (conv=>whnf);refine ⟨rfl,?_⟩
 refine RW.callOwn rfl (impl_LogLast_fn n.log (hok.2.1)) rfl (.cons (.agg (.cons (.r .r) (.cons (.r .r) (.cons (.r (.alo (k := none) (i := 0) (j := 8) (sz := 3) (V := (g 0 8)) rfl rfl rfl nofun)) (.nil))))) (.nil)) rfl fun g1 => ?_
 refine RW.k XK 108 5 rfl ?_
 (conv=>whnf);refine ⟨rfl,?_⟩
 refine RW.nil ?_
 refine CW.keep 108 [0,2] rfl ?_;(conv=>whnf);refine ⟨?_⟩
 refine CW.seq ?_
 refine CW.region ?_
 refine RW.k XK 108 3 rfl ?_
 (conv=>whnf);refine ⟨rfl,?_⟩
 refine RW.callOwn rfl (impl_ConfOf_fn n hok) rfl (.cons (.agg (.cons (.r .r) (.cons (.r .r) (.cons (.r .r) (.cons (.r .r) (.cons (.r .r) (.cons (.r (.alo (k := none) (i := 0) (j := 5) (sz := 1) (V := (g 0 5)) rfl rfl rfl nofun)) (.cons (.r .r) (.cons (.r .r) (.cons (.r (.alo (k := none) (i := 0) (j := 8) (sz := 3) (V := (g 0 8)) rfl rfl rfl nofun)) (.cons (.r .r) (.cons (.r .r) (.cons (.r .r) (.cons (.r (.alo (k := none) (i := 0) (j := 12) (sz := 1) (V := (g 0 12)) rfl rfl rfl nofun)) (.cons (.r (.alo (k := none) (i := 0) (j := 13) (sz := 4) (V := (g 0 13)) rfl rfl rfl nofun)) (.nil)))))))))))))))) (.nil)) rfl fun g2 => ?_
 refine RW.assignMove rfl rfl rfl (by decide) (Nat.le_of_ble_eq_true rfl) (Nat.le_of_ble_eq_true rfl) ?_
 refine RW.nil ?_
 refine CW.keep 108 [0,2,4] rfl ?_;(conv=>whnf);refine ⟨?_⟩
 refine CW.seq ?_
 refine CW.k XK 108 1 [0,2,4,5] rfl ?_
 (conv=>whnf);refine ⟨rfl,?_⟩
 refine CW.block ?_
 refine CW.loopI 108 (fun (zz : Nat × Int × Int) => match zz with | (f, idx, c) => [(0, .obj (bo 0) [I n.id, I n.term_, I n.vote, I n.role, I n.lead, .w (sl 1 cI n.conf) (g 0 5), I n.log.start, I n.log.startTerm, .w (sl 3 Entry.c n.log.entries) (g 0 8), I c, I n.clock, I n.limit, .w (sl 1 cI n.votes) (g 0 12), .w (sl 4 Peer.c n.peers) (g 0 13)]), (2, I ((logLast n.log).1)), (4, .w (sl 1 cI ((lastC n (logLast n.log).1).2)) (g2 0 0)), (5, I idx)]) (fun (zz : Nat × Int × Int) => match zz with | (f, idx, c) => CmP n f idx c) (fun (zz : Nat × Int × Int) => match zz with | (f, idx, c) => f) (70, _, _) rfl (Le.c rfl <| Le.c rfl <| Le.c rfl <| Le.c rfl <| Le.e) (CmP.init n) ?_
 rintro ⟨f, idx, c⟩ hP
 have hidx : idx ≤ 9223372036854775807 := by have h1 := hP.at_; have h2 := logLast_1 hl; have h3 := hl.2.1; have h4 := hl.2.2; have h5 := hP.f70; omega
 refine CW.seq ?_
 refine CW.seqJ 108 (fun (v3 : Bool) => [(0, .obj (bo 0) [I n.id, I n.term_, I n.vote, I n.role, I n.lead, .w (sl 1 cI n.conf) (g 0 5), I n.log.start, I n.log.startTerm, .w (sl 3 Entry.c n.log.entries) (g 0 8), I c, I n.clock, I n.limit, .w (sl 1 cI n.votes) (g 0 12), .w (sl 4 Peer.c n.peers) (g 0 13)]), (2, I ((logLast n.log).1)), (4, .w (sl 1 cI ((lastC n (logLast n.log).1).2)) (g2 0 0)), (5, I idx), (42, Bo v3)]) (fun v3 => v3 = (decide (idx > c) && ((logTerm n.log idx) == n.term_))) ?_ ?_
 ·refine CW.drawn (by kernel_rfl) ?_
  refine RQ.k XK 108 7 rfl ?_
  (conv=>whnf);refine ⟨rfl,?_⟩
  refine RQ.gv rfl rfl rfl rfl (fun h4 => V.mv (d := .pt 0 (bo 0) 0) rfl rfl) (fun h4 => ?_) (fun h4 => ?_)
  ·skip
   refine RQ.k XK 108 4 rfl ?_
   (conv=>whnf);refine ⟨rfl,?_⟩
   refine RQ.guardT rfl rfl rfl rfl (QOK.call (impl_LogTerm_fn n.log idx hl hidx) rfl (.cons (.agg (.cons (.r .r) (.cons (.r .r) (.cons (.r (.alo (k := none) (i := 0) (j := 8) (sz := 3) (V := (g 0 8)) rfl rfl rfl nofun)) (.nil))))) (.cons (.one (.r .r)) (.nil))) ?_)
   refine RQ.k XK 108 6 rfl ?_
   (conv=>whnf);refine ⟨rfl,?_⟩
   refine RQ.nil ?_
   exact ⟨_, by first | rfl | (simp_all; done) | (simp_all; omega) | grind, rfl, Le.of rfl⟩
  ·skip
   refine RQ.k XK 108 11 rfl ?_
   (conv=>whnf);refine ⟨rfl,?_⟩
   refine RQ.nil ?_
   exact ⟨_, by first | rfl | (simp_all; done) | (simp_all; omega) | grind, rfl, Le.of rfl⟩
 ·intro v3 hv5
  refine CW.cond rfl (fun h6 => ?_) (fun h6 => ?_)
  ·skip
   have hg : (decide (idx > c) && logTerm n.log idx == n.term_) = true := hv5.symm.trans h6
   refine CW.skip ?_
   refine CW.keep 108 [0,2,4,5] rfl ?_;(conv=>whnf);refine ⟨?_⟩
   refine CW.seq ?_
   refine CW.block ?_
   refine CW.seq ?_
   refine CW.region ?_
   refine RW.k XK 108 4 rfl ?_
   (conv=>whnf);refine ⟨rfl,?_⟩
   refine RW.build1c (c := cI) (v := n.id) (u := .v (.int .i64 n.id)) rfl rfl rfl rfl rfl rfl (.inl rfl) rfl rfl fun X7 => ?_
   refine RW.assignMove rfl rfl rfl (by decide) (Nat.le_of_ble_eq_true rfl) (Nat.le_of_ble_eq_true rfl) ?_
   refine RW.nil ?_
   refine CW.keep 108 [0,2,4,5,6] rfl ?_;(conv=>whnf);refine ⟨?_⟩
   refine CW.seq ?_
   refine CW.k XK 108 1 [0,2,4,5,6,53,54,55] rfl ?_
   (conv=>whnf);refine ⟨rfl,?_⟩
   refine CW.block ?_
   refine CW.loopI 108 (fun (zz : Nat × Value) => match zz with | (k, X) => [(0, .obj (bo 0) [I n.id, I n.term_, I n.vote, I n.role, I n.lead, .w (sl 1 cI n.conf) (g 0 5), I n.log.start, I n.log.startTerm, .w (sl 3 Entry.c n.log.entries) (g 0 8), I c, I n.clock, I n.limit, .w (sl 1 cI n.votes) (g 0 12), .w (sl 4 Peer.c n.peers) (g 0 13)]), (2, I ((logLast n.log).1)), (4, .w (sl 1 cI ((lastC n (logLast n.log).1).2)) (g2 0 0)), (5, I idx), (6, .w (sl 1 cI ([n.id] ++ ((n.peers.take k).filter (fun p => decide (p.match_ ≥ idx))).map (·.id))) X), (53, .al 0 (some 13) 4 n.peers.length (g 0 13) 0), (54, I (n.peers.length : Int)), (55, I (k : Int))]) (fun (zz : Nat × Value) => match zz with | (k, X) => k ≤ n.peers.length) (fun (zz : Nat × Value) => match zz with | (k, X) => n.peers.length - k) (0, _) rfl (Le.c rfl <| Le.c rfl <| Le.c rfl <| Le.c rfl <| Le.c rfl <| Le.c rfl <| Le.c rfl <| Le.c rfl <| Le.e) (by omega) ?_
   rintro ⟨k, X⟩ hb
   have hl0 : n.peers.length ≤ maxLen := by simp only [maxLen]; omega
   have hvl := votes_len n.peers k idx
   refine CW.k XK 108 1 [0,2,4,5,6,53,54,55,56] rfl ?_
   (conv=>whnf);refine ⟨rfl,?_⟩
   refine CW.seq ?_
   refine CW.cond rfl (fun h8 => ?_) (fun h8 => ?_)
   ·skip
    have hik : k < n.peers.length := by have := h8; simp at this; first | exact this | omega | (simp; done) | (simp; omega)
    obtain ⟨ek, hek⟩ : ∃ e, n.peers[k]? = some e := ⟨_, List.getElem?_eq_getElem hik⟩
    have hdk := drop_get hek
    refine CW.skip ?_
    refine CW.keep 108 [0,2,4,5,6,53,54,55] rfl ?_;(conv=>whnf);refine ⟨?_⟩
    refine CW.seq ?_
    refine CW.block ?_
    refine CW.seq ?_
    refine CW.region ?_
    refine RW.swapO 53 0 13 (by decide) rfl rfl rfl ?_
    refine RW.v rfl (V.indexW rfl rfl rfl rfl rfl rfl rfl hik) ?_
    refine RW.v rfl (V.loadAggF (m := k) rfl rfl rfl rfl rfl Peer.len hek (vs := Peer.vs ek) rfl (by decide)) ?_
    refine RW.k XK 108 2 rfl ?_
    (conv=>whnf);intro b9;(conv=>whnf);refine ⟨rfl,?_⟩
    refine RW.freezeB (ts := (Peer.c ek)) 8 rfl (DRd.r (DRd.r (DRd.r (DRd.r DRd.e)))) ?_
    refine RW.unswapO (k := 0) (l := 53) (j := 13) 0 53 13 rfl rfl rfl (by decide) rfl rfl rfl ?_
    refine RW.nil ?_
    refine CW.keep 108 [0,2,4,5,6,8,53,54,55] rfl ?_;(conv=>whnf);refine ⟨?_⟩
    refine CW.k XK 108 1 [0,2,4,5,6,8,53,54,55,62] rfl ?_
    (conv=>whnf);refine ⟨rfl,?_⟩
    refine CW.cond rfl (fun h10 => ?_) (fun h10 => ?_)
    ·skip
     have hmt : decide (ek.match_ ≥ idx) = true := h10
     refine CW.region ?_
     refine RW.k XK 108 3 rfl ?_
     (conv=>whnf);refine ⟨rfl,?_⟩
     refine RW.build1c (c := cI) (v := ek.id) (u := .v (.int .i64 ek.id)) rfl rfl rfl rfl rfl rfl (.inl rfl) rfl rfl fun X11 => ?_
     refine RW.appendSR (c := cI) (l1 := ([n.id] ++ ((n.peers.take k).filter (fun p => decide (p.match_ ≥ idx))).map (·.id))) (l2 := [ek.id]) rfl rfl rfl rfl rfl rfl rfl rfl (.al (k := none) (i := 66) (sz := 1) (V := X11) rfl rfl nofun) (by decide) (Nat.le_of_ble_eq_true rfl) cI.len (fun _ => rfl) rfl (by simp only [maxLen, List.length_append, List.length_singleton]; omega) (by simp only [maxLen, List.length_append, List.length_singleton]; omega) fun X12 => ?_
     refine RW.assignMove rfl rfl rfl (by decide) (Nat.le_of_ble_eq_true rfl) (Nat.le_of_ble_eq_true rfl) ?_
     refine RW.nil ?_
     refine CW.keep 108 [0,2,4,5,6,53,54,55] rfl ?_;(conv=>whnf);refine ⟨?_⟩
     refine CW.region ?_
     refine RW.v rfl (V.inc rfl rfl rfl hik hl0) ?_
     refine RW.k XK 108 1 rfl ?_
     (conv=>whnf);refine ⟨rfl,?_⟩
     refine RW.nil ?_
     exact ⟨(k + 1, _), by simp only []; omega, (by omega), rfl, Le.c rfl <| Le.c rfl <| Le.c rfl <| Le.c rfl <| Le.c (Dw_congr (by first | exact votes_yes hek hmt | exact votes_no hek hmt)) <| Le.c rfl <| Le.c rfl <| Le.c rfl <| Le.e⟩
    ·skip
     have hmt : decide (ek.match_ ≥ idx) = false := h10
     refine CW.skip ?_
     refine CW.keep 108 [0,2,4,5,6,53,54,55] rfl ?_;(conv=>whnf);refine ⟨?_⟩
     refine CW.region ?_
     refine RW.v rfl (V.inc rfl rfl rfl hik hl0) ?_
     refine RW.k XK 108 1 rfl ?_
     (conv=>whnf);refine ⟨rfl,?_⟩
     refine RW.nil ?_
     exact ⟨(k + 1, _), by simp only []; omega, (by omega), rfl, Le.c rfl <| Le.c rfl <| Le.c rfl <| Le.c rfl <| Le.c (Dw_congr (by first | exact votes_yes hek hmt | exact votes_no hek hmt)) <| Le.c rfl <| Le.c rfl <| Le.c rfl <| Le.e⟩
   ·skip
    have hik : n.peers.length ≤ k := by have := h8; simp at this; first | exact this | omega | (simp; done) | (simp; omega)
    have hdk : n.peers.drop k = [] := List.drop_eq_nil_of_le hik
    refine CW.exit ?_
    refine CW.keep 108 [0,2,4,5,6] rfl ?_;(conv=>whnf);refine ⟨?_⟩
    refine CW.seq ?_
    refine CW.region ?_
    refine RW.k XK 108 2 rfl ?_
    (conv=>whnf);refine ⟨rfl,?_⟩
    refine RW.callOwn rfl (impl_Most_fn ((lastC n (logLast n.log).1).2) ([n.id] ++ ((n.peers.take k).filter (fun p => decide (p.match_ ≥ idx))).map (·.id))) rfl (.cons (.one (.r (.al (k := none) (i := 4) (sz := 1) (V := (g2 0 0)) rfl rfl nofun))) (.cons (.one (.r (.al (k := none) (i := 6) (sz := 1) (V := X) rfl rfl nofun))) (.nil))) rfl fun g13 => ?_
    refine RW.nil ?_
    refine CW.keep 108 [0,2,4,5,71] rfl ?_;(conv=>whnf);refine ⟨?_⟩
    refine CW.cond rfl (fun h14 => ?_) (fun h14 => ?_)
    ·skip
     have hmy : most (confN n) (votesAt n idx) = true := by have h9 := h14; rw [List.take_of_length_le hik] at h9; exact h9
     refine CW.region ?_
     refine RW.k XK 108 5 rfl ?_
     (conv=>whnf);refine ⟨rfl,?_⟩
     refine RW.nil ?_
     refine CW.keep 108 [0,2,4,5] rfl ?_;(conv=>whnf);refine ⟨?_⟩
     refine CW.region ?_
     refine RW.k XK 108 3 rfl ?_
     (conv=>whnf);refine ⟨rfl,?_⟩
     refine RW.nil ?_
     exact ⟨(f - 1, _, _), by have := (hP.low hl ht hg).2.1; simp only []; omega, (by first | exact hP.yes hl ht hg hmy | exact hP.no hl ht hg hmn), rfl, Le.c rfl <| Le.c rfl <| Le.c rfl <| Le.c rfl <| Le.e⟩
    ·skip
     have hmn : most (confN n) (votesAt n idx) = false := by have h9 := h14; rw [List.take_of_length_le hik] at h9; exact h9
     refine CW.skip ?_
     refine CW.keep 108 [0,2,4,5] rfl ?_;(conv=>whnf);refine ⟨?_⟩
     refine CW.region ?_
     refine RW.k XK 108 3 rfl ?_
     (conv=>whnf);refine ⟨rfl,?_⟩
     refine RW.nil ?_
     exact ⟨(f - 1, _, _), by have := (hP.low hl ht hg).2.1; simp only []; omega, (by first | exact hP.yes hl ht hg hmy | exact hP.no hl ht hg hmn), rfl, Le.c rfl <| Le.c rfl <| Le.c rfl <| Le.c rfl <| Le.e⟩
  ·skip
   have hfin := hP.fin (hv5.symm.trans h6)
   refine CW.exit ?_
   refine CW.keep 108 [0,2,4] rfl ?_;(conv=>whnf);refine ⟨?_⟩
   refine CW.seq ?_
   refine CW.region ?_
   refine RW.k XK 108 4 rfl ?_
   (conv=>whnf);refine ⟨rfl,?_⟩
   refine RW.callOwn rfl (impl_lastConf_fn (⟨n.id, n.term_, n.vote, n.role, n.lead, n.conf, n.log, c, n.clock, n.limit, n.votes, n.peers⟩ : Node) ((logLast n.log).1) hok) rfl (.cons (.agg (.cons (.r .r) (.cons (.r .r) (.cons (.r .r) (.cons (.r .r) (.cons (.r .r) (.cons (.r (.alo (k := none) (i := 0) (j := 5) (sz := 1) (V := (g 0 5)) rfl rfl rfl nofun)) (.cons (.r .r) (.cons (.r .r) (.cons (.r (.alo (k := none) (i := 0) (j := 8) (sz := 3) (V := (g 0 8)) rfl rfl rfl nofun)) (.cons (.r .r) (.cons (.r .r) (.cons (.r .r) (.cons (.r (.alo (k := none) (i := 0) (j := 12) (sz := 1) (V := (g 0 12)) rfl rfl rfl nofun)) (.cons (.r (.alo (k := none) (i := 0) (j := 13) (sz := 4) (V := (g 0 13)) rfl rfl rfl nofun)) (.nil)))))))))))))))) (.cons (.one (.r .r)) (.nil))) rfl fun g15 => ?_
   refine RW.k XK 108 4 rfl ?_
   (conv=>whnf);refine ⟨rfl,?_⟩
   refine RW.assignMove rfl rfl rfl (by decide) (Nat.le_of_ble_eq_true rfl) (Nat.le_of_ble_eq_true rfl) ?_
   refine RW.nil ?_
   refine CW.keep 108 [0,4,9] rfl ?_;(conv=>whnf);refine ⟨?_⟩
   refine CW.seqJ 108 (fun (v16 : Bool) => [(0, .obj (bo 0) [I n.id, I n.term_, I n.vote, I n.role, I n.lead, .w (sl 1 cI n.conf) (g 0 5), I n.log.start, I n.log.startTerm, .w (sl 3 Entry.c n.log.entries) (g 0 8), I c, I n.clock, I n.limit, .w (sl 1 cI n.votes) (g 0 12), .w (sl 4 Peer.c n.peers) (g 0 13)]), (105, Bo v16)]) (fun v16 => v16 = (((n.role == 2) && (!(hasI ((lastC n (logLast n.log).1).2) n.id))) && decide (((lastC (⟨n.id, n.term_, n.vote, n.role, n.lead, n.conf, n.log, c, n.clock, n.limit, n.votes, n.peers⟩ : Node) ((logLast n.log).1)).1) ≤ c))) ?_ ?_
   ·refine CW.region ?_
    refine RW.k XK 108 6 rfl ?_
    (conv=>whnf);refine ⟨rfl,?_⟩
    refine RW.gv rfl rfl rfl rfl (fun h17 => V.mv (d := .al 4 none 1 (((lastC n (logLast n.log).1).2).length) (g2 0 0) 0) rfl rfl) (fun h17 => ?_) (fun h17 => ?_)
    ·skip
     refine RW.k XK 108 4 rfl ?_
     (conv=>whnf);refine ⟨rfl,?_⟩
     refine RW.gcallOwn rfl rfl rfl rfl (slices_Contains___int_int__fn ((lastC n (logLast n.log).1).2) n.id) rfl (.cons (.one (.r (.al (k := none) (i := 4) (sz := 1) (V := (g2 0 0)) rfl rfl nofun))) (.cons (.one (.r .r)) (.nil))) rfl fun g18 => ?_
     refine RW.k XK 108 3 rfl ?_
     (conv=>whnf);refine ⟨rfl,?_⟩
     refine RW.gv rfl rfl rfl rfl (fun h19 => V.mv (d := I ((lastC (⟨n.id, n.term_, n.vote, n.role, n.lead, n.conf, n.log, c, n.clock, n.limit, n.votes, n.peers⟩ : Node) ((logLast n.log).1)).1)) rfl rfl) (fun h19 => ?_) (fun h19 => ?_)
     ·skip
      refine RW.k XK 108 6 rfl ?_
      (conv=>whnf);refine ⟨rfl,?_⟩
      refine RW.nil ?_
      exact ⟨_, by first | rfl | (simp_all; done) | (simp_all; omega) | grind, rfl, Le.of rfl⟩
     ·skip
      refine RW.k XK 108 6 rfl ?_
      (conv=>whnf);refine ⟨rfl,?_⟩
      refine RW.nil ?_
      exact ⟨_, by first | rfl | (simp_all; done) | (simp_all; omega) | grind, rfl, Le.of rfl⟩
    ·skip
     refine RW.k XK 108 15 rfl ?_
     (conv=>whnf);refine ⟨rfl,?_⟩
     refine RW.nil ?_
     exact ⟨_, by first | rfl | (simp_all; done) | (simp_all; omega) | grind, rfl, Le.of rfl⟩
   ·intro v16 hv20
    refine CW.cond rfl (fun h21 => ?_) (fun h21 => ?_)
    ·skip
     refine CW.region ?_
     refine RW.k XK 108 1 rfl ?_
     (conv=>whnf);refine ⟨rfl,?_⟩
     refine RW.callW (k := 0) (__impl_Node__follow_fn (⟨n.id, n.term_, n.vote, n.role, n.lead, n.conf, n.log, c, n.clock, n.limit, n.votes, n.peers⟩ : Node) 0) rfl rfl (Nat.le_of_ble_eq_true rfl) (by decide) (.here (AsW.ob (DT.v (DT.v (DT.v (DT.v (DT.v (DT.w (DT.v (DT.v (DT.w (DT.v (DT.v (DT.v (DT.w (DT.w DT.e)))))))))))))) rfl) (.cons (.one (.r .r)) (.nil))) rfl fun g22 q23 => ?_
     refine RW.nil ?_
     exact Post.tup (by decide) RVs.e (AOs.obE (f := fun e => (Node.c e).map .w) (e' := (followN (⟨n.id, n.term_, n.vote, n.role, n.lead, n.conf, n.log, c, n.clock, n.limit, n.votes, n.peers⟩ : Node) 0)) rfl (DT.v (DT.v (DT.v (DT.v (DT.v (DT.w (DT.v (DT.v (DT.w (DT.v (DT.v (DT.v (DT.w (DT.w DT.e)))))))))))))) (by unfold commitN confN; rw [show cGo n (lastC n (logLast n.log).1).2 70 (logLast n.log).1 n.commit = c from hfin]; simp only []; first | (rw [if_pos (hv20.symm.trans h21)]; done) | (rw [if_neg (by rw [← hv20, h21]; simp)]; done)) AOs.e)
    ·skip
     refine CW.skip ?_
     exact Post.tup (by decide) RVs.e (AOs.obE (f := fun e => (Node.c e).map .w) (e' := (⟨n.id, n.term_, n.vote, n.role, n.lead, n.conf, n.log, c, n.clock, n.limit, n.votes, n.peers⟩ : Node)) rfl (DT.v (DT.v (DT.v (DT.v (DT.v (DT.w (DT.v (DT.v (DT.w (DT.v (DT.v (DT.v (DT.w (DT.w DT.e)))))))))))))) (by unfold commitN confN; rw [show cGo n (lastC n (logLast n.log).1).2 70 (logLast n.log).1 n.commit = c from hfin]; simp only []; first | (rw [if_pos (hv20.symm.trans h21)]; done) | (rw [if_neg (by rw [← hv20, h21]; simp)]; done)) AOs.e)
set_option maxHeartbeats 4000000 in
theorem impl_nextConf_fn (a : List Int) (b : List Int) : Eng.Fn E.P 128 [.one (.r (sl 1 cI a)), .one (.r (sl 1 cI b))] (.one (.one (.w (.v (.bool (nextConf a b)))))) [.one (.r (sl 1 cI a)), .one (.r (sl 1 cI b))] := by
 refine Eng.Fn.intro (E := E) (rvs := [.tmp 4]) Try.func128 rfl rfl rfl (by simp [outSlots, moved, rvSlot, sl]) ?_
 intro B g bo
 refine CW.bound (x := .tmp 0) (n := a.length) (AsT.r) (fun hl0 => ?_)
 refine CW.bound (x := .tmp 1) (n := b.length) (AsT.r) (fun hl1 => ?_)
 refine CW.keep 41 [0,1] rfl ?_;(conv=>whnf);refine ⟨?_⟩
 refine CW.k XK 41 2 [0,1,5,6] rfl ?_
 (conv=>whnf);refine ⟨rfl,?_⟩
 refine CW.seq ?_
 refine CW.k XK 41 1 [0,1,5,6,11,12,13] rfl ?_
 (conv=>whnf);refine ⟨rfl,?_⟩
 refine CW.block ?_
 refine CW.loopI 41 (fun (zz : Nat × Int) => match zz with | (i, c) => [(0, .r (sl 1 cI a)), (1, .r (sl 1 cI b)), (5, I c), (6, I 0), (11, .r (sl 1 cI b)), (12, I (b.length : Int)), (13, I (i : Int))]) (fun (zz : Nat × Int) => match zz with | (i, c) => i ≤ b.length ∧ c = (b.take i).foldl (dst a) 0) (fun (zz : Nat × Int) => match zz with | (i, c) => b.length - i) (0, _) rfl (Le.c rfl <| Le.c rfl <| Le.c rfl <| Le.c rfl <| Le.c rfl <| Le.c rfl <| Le.c rfl <| Le.e) ⟨by omega, rfl⟩ ?_
 rintro ⟨i, c⟩ ⟨hb, hc⟩
 refine CW.k XK 41 1 [0,1,5,6,11,12,13,14] rfl ?_
 (conv=>whnf);refine ⟨rfl,?_⟩
 refine CW.seq ?_
 refine CW.cond rfl (fun h1 => ?_) (fun h1 => ?_)
 ·skip
  have hii : i < b.length := by have := h1; simp at this; first | exact this | omega | (simp; done) | (simp; omega)
  obtain ⟨ei, hei⟩ : ∃ e, b[i]? = some e := ⟨_, List.getElem?_eq_getElem hii⟩
  have hdi := drop_get hei
  refine CW.skip ?_
  refine CW.keep 41 [0,1,5,6,11,12,13] rfl ?_;(conv=>whnf);refine ⟨?_⟩
  refine CW.seq ?_
  refine CW.block ?_
  refine CW.seq ?_
  refine CW.region ?_
  refine RW.v rfl (V.indexS rfl rfl rfl rfl rfl rfl cI.len hei) ?_
  refine RW.k XK 41 2 rfl ?_
  (conv=>whnf);refine ⟨rfl,?_⟩
  refine RW.nil ?_
  refine CW.keep 41 [0,1,5,6,8,11,12,13] rfl ?_;(conv=>whnf);refine ⟨?_⟩
  refine CW.seq ?_
  refine CW.region ?_
  refine RW.k XK 41 2 rfl ?_
  (conv=>whnf);refine ⟨rfl,?_⟩
  refine RW.call rfl (slices_Contains___int_int__fn a ei) rfl (.cons (.one (.r .r)) (.cons (.one (.r .r)) (.nil))) fun g2 => ?_
  refine RW.k XK 41 1 rfl ?_
  (conv=>whnf);refine ⟨rfl,?_⟩
  refine RW.nil ?_
  refine CW.keep 41 [0,1,5,6,11,12,13,20] rfl ?_;(conv=>whnf);refine ⟨?_⟩
  refine CW.cond rfl (fun h3 => ?_) (fun h3 => ?_)
  ·skip
   refine CW.region ?_
   refine RW.k XK 41 3 rfl ?_
   (conv=>whnf);refine ⟨rfl,?_⟩
   refine RW.nil ?_
   refine CW.keep 41 [0,1,5,6,11,12,13] rfl ?_;(conv=>whnf);refine ⟨?_⟩
   refine CW.region ?_
   refine RW.v rfl (V.inc rfl rfl rfl hii hl1) ?_
   refine RW.k XK 41 1 rfl ?_
   (conv=>whnf);refine ⟨rfl,?_⟩
   refine RW.nil ?_
   exact ⟨(i + 1, (IntKind.i64.wrap (c + 1))), by simp only []; omega, ⟨by omega, by rw [take_snoc hei, List.foldl_append, ← hc]; simp_all [dst]⟩, rfl, Le.c rfl <| Le.c rfl <| Le.c rfl <| Le.c rfl <| Le.c rfl <| Le.c rfl <| Le.c rfl <| Le.e⟩
  ·skip
   refine CW.skip ?_
   refine CW.keep 41 [0,1,5,6,11,12,13] rfl ?_;(conv=>whnf);refine ⟨?_⟩
   refine CW.region ?_
   refine RW.v rfl (V.inc rfl rfl rfl hii hl1) ?_
   refine RW.k XK 41 1 rfl ?_
   (conv=>whnf);refine ⟨rfl,?_⟩
   refine RW.nil ?_
   exact ⟨(i + 1, c), by simp only []; omega, ⟨by omega, by rw [take_snoc hei, List.foldl_append, ← hc]; simp_all [dst]⟩, rfl, Le.c rfl <| Le.c rfl <| Le.c rfl <| Le.c rfl <| Le.c rfl <| Le.c rfl <| Le.c rfl <| Le.e⟩
 ·skip
  have hii : b.length ≤ i := by have := h1; simp at this; first | exact this | omega | (simp; done) | (simp; omega)
  have hdi : b.drop i = [] := List.drop_eq_nil_of_le hii
  refine CW.exit ?_
  refine CW.keep 41 [0,1,5,6] rfl ?_;(conv=>whnf);refine ⟨?_⟩
  refine CW.seq ?_
  refine CW.k XK 41 1 [1,5,6,24,25,26] rfl ?_
  (conv=>whnf);refine ⟨rfl,?_⟩
  refine CW.block ?_
  refine CW.loopI 41 (fun (zz : Nat × Int) => match zz with | (j, d) => [(1, .r (sl 1 cI b)), (5, I c), (6, I d), (24, .r (sl 1 cI a)), (25, I (a.length : Int)), (26, I (j : Int))]) (fun (zz : Nat × Int) => match zz with | (j, d) => j ≤ a.length ∧ d = (a.take j).foldl (dst b) 0) (fun (zz : Nat × Int) => match zz with | (j, d) => a.length - j) (0, _) rfl (Le.c rfl <| Le.c rfl <| Le.c rfl <| Le.c rfl <| Le.c rfl <| Le.c rfl <| Le.e) ⟨by omega, rfl⟩ ?_
  rintro ⟨j, d⟩ ⟨hbj, hd⟩
  refine CW.k XK 41 1 [1,5,6,24,25,26,27] rfl ?_
  (conv=>whnf);refine ⟨rfl,?_⟩
  refine CW.seq ?_
  refine CW.cond rfl (fun h4 => ?_) (fun h4 => ?_)
  ·skip
   have hij : j < a.length := by have := h4; simp at this; first | exact this | omega | (simp; done) | (simp; omega)
   obtain ⟨ej, hej⟩ : ∃ e, a[j]? = some e := ⟨_, List.getElem?_eq_getElem hij⟩
   have hdj := drop_get hej
   refine CW.skip ?_
   refine CW.keep 41 [1,5,6,24,25,26] rfl ?_;(conv=>whnf);refine ⟨?_⟩
   refine CW.seq ?_
   refine CW.block ?_
   refine CW.seq ?_
   refine CW.region ?_
   refine RW.v rfl (V.indexS rfl rfl rfl rfl rfl rfl cI.len hej) ?_
   refine RW.k XK 41 2 rfl ?_
   (conv=>whnf);refine ⟨rfl,?_⟩
   refine RW.nil ?_
   refine CW.keep 41 [1,5,6,10,24,25,26] rfl ?_;(conv=>whnf);refine ⟨?_⟩
   refine CW.seq ?_
   refine CW.region ?_
   refine RW.k XK 41 2 rfl ?_
   (conv=>whnf);refine ⟨rfl,?_⟩
   refine RW.call rfl (slices_Contains___int_int__fn b ej) rfl (.cons (.one (.r .r)) (.cons (.one (.r .r)) (.nil))) fun g5 => ?_
   refine RW.k XK 41 1 rfl ?_
   (conv=>whnf);refine ⟨rfl,?_⟩
   refine RW.nil ?_
   refine CW.keep 41 [1,5,6,24,25,26,33] rfl ?_;(conv=>whnf);refine ⟨?_⟩
   refine CW.cond rfl (fun h6 => ?_) (fun h6 => ?_)
   ·skip
    refine CW.region ?_
    refine RW.k XK 41 3 rfl ?_
    (conv=>whnf);refine ⟨rfl,?_⟩
    refine RW.nil ?_
    refine CW.keep 41 [1,5,6,24,25,26] rfl ?_;(conv=>whnf);refine ⟨?_⟩
    refine CW.region ?_
    refine RW.v rfl (V.inc rfl rfl rfl hij hl0) ?_
    refine RW.k XK 41 1 rfl ?_
    (conv=>whnf);refine ⟨rfl,?_⟩
    refine RW.nil ?_
    exact ⟨(j + 1, (IntKind.i64.wrap (d + 1))), by simp only []; omega, ⟨by omega, by rw [take_snoc hej, List.foldl_append, ← hd]; simp_all [dst]⟩, rfl, Le.c rfl <| Le.c rfl <| Le.c rfl <| Le.c rfl <| Le.c rfl <| Le.c rfl <| Le.e⟩
   ·skip
    refine CW.skip ?_
    refine CW.keep 41 [1,5,6,24,25,26] rfl ?_;(conv=>whnf);refine ⟨?_⟩
    refine CW.region ?_
    refine RW.v rfl (V.inc rfl rfl rfl hij hl0) ?_
    refine RW.k XK 41 1 rfl ?_
    (conv=>whnf);refine ⟨rfl,?_⟩
    refine RW.nil ?_
    exact ⟨(j + 1, d), by simp only []; omega, ⟨by omega, by rw [take_snoc hej, List.foldl_append, ← hd]; simp_all [dst]⟩, rfl, Le.c rfl <| Le.c rfl <| Le.c rfl <| Le.c rfl <| Le.c rfl <| Le.c rfl <| Le.e⟩
  ·skip
   have hij : a.length ≤ j := by have := h4; simp at this; first | exact this | omega | (simp; done) | (simp; omega)
   have hdj : a.drop j = [] := List.drop_eq_nil_of_le hij
   refine CW.exit ?_
   refine CW.keep 41 [5,6] rfl ?_;(conv=>whnf);refine ⟨?_⟩
   refine CW.k XK 41 1 [4] rfl ?_
   (conv=>whnf);refine ⟨rfl,?_⟩
   refine CW.ret ?_
   exact Post.one (RV.b rfl (by rw [List.take_of_length_le hii] at hc; rw [List.take_of_length_le hij] at hd; rw [nextConf, diffs, diffs, ← hc, ← hd])) (AOs.r (AOs.r AOs.e))
set_option maxHeartbeats 4000000 in
theorem impl_mayTurn_fn (n : Node) (data : ByteArray) (hok : okToNode n) (hl : logB n.log) (hc : n.commit ≤ 9223372036854775807) (hm : data.size ≤ 1048576) : Eng.Fn E.P 97 [.agg ((Node.c n).map .r), .one (.r (.v (.string data)))] (.one (.one (.w (.v (.bool (mayTurn n data)))))) [.agg ((Node.c n).map .r), .one (.r (.v (.string data)))] := by
 refine Eng.Fn.intro (E := E) (rvs := [.tmp 4]) Try.func97 rfl rfl rfl (by simp [outSlots, moved, rvSlot, sl]) ?_
 intro B g bo
 refine CW.keep 50 [0,1] rfl ?_;(conv=>whnf);refine ⟨?_⟩
 refine CW.seq ?_
 refine CW.region ?_
 refine RW.k XK 50 1 rfl ?_
 (conv=>whnf);intro b1;(conv=>whnf);refine ⟨rfl,?_⟩
 refine RW.freezeB (ts := (Node.c n)) 2 rfl (DRd.r (DRd.r (DRd.r (DRd.r (DRd.r (DRd.r (DRd.r (DRd.r (DRd.r (DRd.r (DRd.r (DRd.r (DRd.r (DRd.r DRd.e)))))))))))))) ?_
 refine RW.k XK 50 1 rfl ?_
 (conv=>whnf);refine ⟨rfl,?_⟩
 refine RW.nil ?_
 refine CW.keep 50 [1,2] rfl ?_;(conv=>whnf);refine ⟨?_⟩
 refine CW.seq ?_
 refine CW.region ?_
 refine RW.k XK 50 2 rfl ?_
 (conv=>whnf);refine ⟨rfl,?_⟩
 refine RW.call rfl (impl_LogLast_fn n.log (hok.2.1)) rfl (.cons (.agg (.cons (.r .r) (.cons (.r .r) (.cons (.r .r) (.nil))))) (.nil)) fun g2 => ?_
 refine RW.k XK 50 5 rfl ?_
 (conv=>whnf);refine ⟨rfl,?_⟩
 refine RW.nil ?_
 refine CW.keep 50 [1,2,5] rfl ?_;(conv=>whnf);refine ⟨?_⟩
 refine CW.seq ?_
 refine CW.region ?_
 refine RW.k XK 50 2 rfl ?_
 (conv=>whnf);refine ⟨rfl,?_⟩
 refine RW.call rfl (impl_lastConf_fn n ((logLast n.log).1) hok) rfl (.cons (.agg (.cons (.r .r) (.cons (.r .r) (.cons (.r .r) (.cons (.r .r) (.cons (.r .r) (.cons (.r .r) (.cons (.r .r) (.cons (.r .r) (.cons (.r .r) (.cons (.r .r) (.cons (.r .r) (.cons (.r .r) (.cons (.r .r) (.cons (.r .r) (.nil)))))))))))))))) (.cons (.one (.r .r)) (.nil))) fun g3 => ?_
 refine RW.k XK 50 4 rfl ?_
 (conv=>whnf);refine ⟨rfl,?_⟩
 refine RW.assignMove rfl rfl rfl (by decide) (Nat.le_of_ble_eq_true rfl) (Nat.le_of_ble_eq_true rfl) ?_
 refine RW.nil ?_
 refine CW.keep 50 [1,2,7,8] rfl ?_;(conv=>whnf);refine ⟨?_⟩
 refine CW.seq ?_
 refine CW.region ?_
 refine RW.k XK 50 1 rfl ?_
 (conv=>whnf);refine ⟨rfl,?_⟩
 refine RW.call rfl (impl_ReadConf_fn data hm) rfl (.cons (.one (.r .r)) (.nil)) fun g4 => ?_
 refine RW.k XK 50 3 rfl ?_
 (conv=>whnf);refine ⟨rfl,?_⟩
 refine RW.assignMove rfl rfl rfl (by decide) (Nat.le_of_ble_eq_true rfl) (Nat.le_of_ble_eq_true rfl) ?_
 refine RW.k XK 50 1 rfl ?_
 (conv=>whnf);refine ⟨rfl,?_⟩
 refine RW.nil ?_
 refine CW.keep 50 [2,7,8,9,10] rfl ?_;(conv=>whnf);refine ⟨?_⟩
 refine CW.seqJ 50 (fun (v5 : Bool) => [(4, Bo v5)]) (fun v5 => v5 = (((((readConf data).2) && ((logTerm n.log n.commit) == n.term_)) && decide (((lastC n ((logLast n.log).1)).1) ≤ n.commit)) && (nextConf ((lastC n ((logLast n.log).1)).2) ((readConf data).1)))) ?_ ?_
 ·refine CW.drawn (by kernel_rfl) ?_
  refine RQ.k XK 50 2 rfl ?_
  (conv=>whnf);refine ⟨rfl,?_⟩
  refine RQ.gv rfl rfl rfl rfl (fun h6 => V.fieldR rfl rfl rfl rfl (by decide) rfl (Nat.le_of_ble_eq_true rfl)) (fun h6 => ?_) (fun h6 => ?_)
  ·skip
   refine RQ.k XK 50 3 rfl ?_
   (conv=>whnf);refine ⟨rfl,?_⟩
   refine RQ.guardT rfl rfl rfl rfl (QOK.call (impl_LogTerm_fn n.log n.commit hl hc) rfl (.cons (.agg (.cons (.r .r) (.cons (.r .r) (.cons (.r .r) (.nil))))) (.cons (.one (.r .r)) (.nil))) ?_)
   refine RQ.k XK 50 5 rfl ?_
   (conv=>whnf);refine ⟨rfl,?_⟩
   refine RQ.gv rfl rfl rfl rfl (fun h7 => V.mv (d := I ((lastC n ((logLast n.log).1)).1)) rfl rfl) (fun h7 => ?_) (fun h7 => ?_)
   ·skip
    refine RQ.k XK 50 5 rfl ?_
    (conv=>whnf);refine ⟨rfl,?_⟩
    refine RQ.gv rfl rfl rfl rfl (fun h8 => V.mv (d := .al 8 none 1 (((lastC n ((logLast n.log).1)).2).length) (g3 1 0) 0) rfl rfl) (fun h8 => ?_) (fun h8 => ?_)
    ·skip
     refine RQ.k XK 50 1 rfl ?_
     (conv=>whnf);refine ⟨rfl,?_⟩
     refine RQ.guardT rfl rfl rfl rfl (QOK.call (impl_nextConf_fn ((lastC n ((logLast n.log).1)).2) ((readConf data).1)) rfl (.cons (.one (.r (.al (k := none) (i := 8) (sz := 1) (V := (g3 1 0)) rfl rfl nofun))) (.cons (.one (.r (.al (k := none) (i := 9) (sz := 1) (V := (g4 0 0)) rfl rfl nofun))) (.nil))) ?_)
     refine RQ.k XK 50 2 rfl ?_
     (conv=>whnf);refine ⟨rfl,?_⟩
     refine RQ.nil ?_
     exact ⟨_, by first | rfl | (simp_all; done) | (simp_all; omega) | grind, rfl, Le.of rfl⟩
    ·skip
     refine RQ.k XK 50 4 rfl ?_
     (conv=>whnf);refine ⟨rfl,?_⟩
     refine RQ.nil ?_
     exact ⟨_, by first | rfl | (simp_all; done) | (simp_all; omega) | grind, rfl, Le.of rfl⟩
   ·skip
    refine RQ.k XK 50 10 rfl ?_
    (conv=>whnf);refine ⟨rfl,?_⟩
    refine RQ.nil ?_
    exact ⟨_, by first | rfl | (simp_all; done) | (simp_all; omega) | grind, rfl, Le.of rfl⟩
  ·skip
   refine RQ.k XK 50 20 rfl ?_
   (conv=>whnf);refine ⟨rfl,?_⟩
   refine RQ.nil ?_
   exact ⟨_, by first | rfl | (simp_all; done) | (simp_all; omega) | grind, rfl, Le.of rfl⟩
 ·intro v5 hv9
  refine CW.ret ?_
  exact Post.one (RV.b rfl (by unfold mayTurn confN; first | (simp_all; done) | grind)) (AOs.a rfl (AOs.r AOs.e))
set_option maxHeartbeats 4000000 in
theorem impl_Peer__fn (a : List Peer) (f_id : Nat) (f_ts : List T) (f_p : Peer → Bool) (f_h : ∀ x, Eng.Fn E.P f_id [.agg ((Peer.c x).map .r), .one (.r (.f none f_ts))] (wB (f_p x)) [.agg ((Peer.c x).map .r), .one (.r (.f none f_ts))]) : Eng.Fn E.P 99 [.one (.r (sl 4 Peer.c a)), .one (.r (.f (some f_id) f_ts))] (.one (.one (.w (.v (.int .i64 (idxF f_p a)))))) [.one (.r (sl 4 Peer.c a)), .one (.r (.f (some f_id) f_ts))] := by
 refine Eng.Fn.intro (E := E) (rvs := [.tmp 4]) Try.func99 rfl rfl rfl (by simp [outSlots, moved, rvSlot, sl]) ?_
 intro B g bo
 refine CW.bound (x := .tmp 0) (n := a.length) (AsT.r) (fun hl0 => ?_)
 refine CW.keep 19 [0,1] rfl ?_;(conv=>whnf);refine ⟨?_⟩
 refine CW.k XK 19 1 [0,1] rfl ?_
 (conv=>whnf);refine ⟨rfl,?_⟩
 refine CW.seq ?_
 refine CW.k XK 19 1 [0,1,7,8] rfl ?_
 (conv=>whnf);refine ⟨rfl,?_⟩
 refine CW.block ?_
 refine CW.loopI 19 (fun (i : Nat) => [(0, .r (sl 4 Peer.c a)), (1, .r (.f (some f_id) f_ts)), (7, I (a.length : Int)), (8, I (i : Int))]) (fun (i : Nat) => i ≤ a.length ∧ (a.take i).any f_p = false) (fun (i : Nat) => a.length - i) 0 rfl (Le.c rfl <| Le.c rfl <| Le.c rfl <| Le.c rfl <| Le.e) ⟨by omega, by simp⟩ ?_
 rintro i ⟨hb, hr⟩
 refine CW.k XK 19 1 [0,1,7,8,9] rfl ?_
 (conv=>whnf);refine ⟨rfl,?_⟩
 refine CW.seq ?_
 refine CW.cond rfl (fun h1 => ?_) (fun h1 => ?_)
 ·skip
  have hii : i < a.length := by have := h1; simp at this; first | exact this | omega | (simp; done) | (simp; omega)
  obtain ⟨ei, hei⟩ : ∃ e, a[i]? = some e := ⟨_, List.getElem?_eq_getElem hii⟩
  have hdi := drop_get hei
  refine CW.skip ?_
  refine CW.keep 19 [0,1,7,8] rfl ?_;(conv=>whnf);refine ⟨?_⟩
  refine CW.seq ?_
  refine CW.block ?_
  refine CW.k XK 19 1 [0,1,5,7,8] rfl ?_
  (conv=>whnf);refine ⟨rfl,?_⟩
  refine CW.seq ?_
  refine CW.region ?_
  refine RW.k XK 19 3 rfl ?_
  (conv=>whnf);refine ⟨rfl,?_⟩
  refine RW.v rfl (V.indexS rfl rfl rfl rfl rfl rfl Peer.len hei) ?_
  refine RW.k XK 19 1 rfl ?_
  (conv=>whnf);refine ⟨rfl,?_⟩
  refine RW.callF (ars := [.agg ((Peer.c ei).map .r)]) rfl (f_h ei) rfl rfl (.cons (.agg (.cons (.r .r) (.cons (.r .r) (.cons (.r .r) (.cons (.r .r) (.nil)))))) .nil) ?_
  refine RW.nil ?_
  refine CW.keep 19 [0,1,5,7,8,16] rfl ?_;(conv=>whnf);refine ⟨?_⟩
  refine CW.cond rfl (fun h2 => ?_) (fun h2 => ?_)
  ·skip
   refine CW.k XK 19 1 [4] rfl ?_
   (conv=>whnf);refine ⟨rfl,?_⟩
   refine CW.ret ?_
   exact Post.one (RV.i rfl (by exact idxF_at hr hei h2)) (AOs.r (AOs.r AOs.e))
  ·skip
   refine CW.skip ?_
   refine CW.keep 19 [0,1,7,8] rfl ?_;(conv=>whnf);refine ⟨?_⟩
   refine CW.region ?_
   refine RW.v rfl (V.inc rfl rfl rfl hii hl0) ?_
   refine RW.k XK 19 1 rfl ?_
   (conv=>whnf);refine ⟨rfl,?_⟩
   refine RW.nil ?_
   exact ⟨i + 1, by omega, ⟨by omega, any_snoc hr hei h2⟩, rfl, Le.c rfl <| Le.c rfl <| Le.c rfl <| Le.c rfl <| Le.e⟩
 ·skip
  have hii : a.length ≤ i := by have := h1; simp at this; first | exact this | omega | (simp; done) | (simp; omega)
  have hdi : a.drop i = [] := List.drop_eq_nil_of_le hii
  refine CW.exit ?_
  refine CW.keep 19 [] rfl ?_;(conv=>whnf);refine ⟨?_⟩
  refine CW.k XK 19 1 [4] rfl ?_
  (conv=>whnf);refine ⟨rfl,?_⟩
  refine CW.ret ?_
  exact Post.one (RV.i rfl (by exact idxF_no hr hii)) (AOs.r (AOs.r AOs.e))
set_option maxHeartbeats 4000000 in
theorem impl_Propose_1_fn (p : Peer) (c : Int) : Eng.Fn E.P 100 [.agg ((Peer.c p).map .r), .one (.r (.f none [.v (.int .i64 c)]))] (.one (.one (.w (.v (.bool (p.id == c)))))) [.agg ((Peer.c p).map .r), .one (.r (.f none [.v (.int .i64 c)]))] := by
 refine Eng.Fn.intro (E := E) (rvs := [.tmp 3]) Try.func100 rfl rfl rfl (by simp [outSlots, moved, rvSlot, sl]) ?_
 intro B g bo
 refine CW.asRp 1 rfl ?_
 refine CW.keep 8 [0,1] rfl ?_;(conv=>whnf);refine ⟨?_⟩
 refine CW.seq ?_
 refine CW.region ?_
 refine RW.k XK 8 1 rfl ?_
 (conv=>whnf);intro b1;(conv=>whnf);refine ⟨rfl,?_⟩
 refine RW.freezeB (ts := (Peer.c p)) 2 rfl (DRd.r (DRd.r (DRd.r (DRd.r DRd.e)))) ?_
 refine RW.k XK 8 1 rfl ?_
 (conv=>whnf);refine ⟨rfl,?_⟩
 refine RW.nil ?_
 refine CW.keep 8 [1,2] rfl ?_;(conv=>whnf);refine ⟨?_⟩
 refine CW.k XK 8 1 [3] rfl ?_
 (conv=>whnf);refine ⟨rfl,?_⟩
 refine CW.ret ?_
 exact Post.one (RV.b rfl (by rfl)) (AOs.a rfl (AOs.r AOs.e))
end Go.Proofs.Ytbiocicogminlaa.Y
