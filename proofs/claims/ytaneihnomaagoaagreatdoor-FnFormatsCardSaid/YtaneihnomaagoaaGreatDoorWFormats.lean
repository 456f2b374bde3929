import Derived.Test.YtaneihnomaagoaaGreatDoorWFormatsD
namespace Go.Proofs.YtaneihnomaagoaaGreatDoor.Y
open Go Go.RowKit Go.Eng Go.Proofs
set_option maxRecDepth 10000
set_option maxHeartbeats 4000000 in
theorem impl_Item__fn (a : List Item) (b : List Item) : Eng.Fn E.P 118 [.one (.r (sl 3 Item.c a)), .one (.r (sl 3 Item.c b))] (.one (.one (.w (.v (.bool (eqS eqItem a b)))))) [.one (.r (sl 3 Item.c a)), .one (.r (sl 3 Item.c b))] := by
 refine Eng.Fn.intro (E := E) (rvs := [.tmp 4]) Tryz.func118 rfl rfl rfl (by simp [outSlots, moved, rvSlot, sl]) ?_
 intro B g bo
 refine CW.bound (x := .tmp 0) (n := a.length) (AsT.r) (fun hl0 => ?_)
 refine CW.bound (x := .tmp 1) (n := b.length) (AsT.r) (fun hl1 => ?_)
 refine CW.g XK 26 [.e [0,1],.n 1,.e [0,1],.n 1,.e [0,1,10]] rfl rfl rfl ?_
 refine CW.cond rfl (fun h1 => ?_) (fun h1 => ?_)
 refine CW.g XK 26 [.n 1,.e [4]] rfl rfl rfl ?_
 refine CW.ret ?_
 exact Post.one (RV.b rfl q8) (AOs.r (AOs.r AOs.e))
 refine CW.g XK 26 [.p,.e [0,1],.n 1,.e [0,1,12,13],.p] rfl rfl rfl ?_
 refine CW.loopI 26 (fun (i : Nat) => [(0, .r (sl 3 Item.c a)), (1, .r (sl 3 Item.c b)), (12, I (a.length : Int)), (13, I (i : Int))]) (fun (i : Nat) => i ≤ a.length ∧ eqS eqItem (a.drop i) (b.drop i) = eqS eqItem a b) (fun (i : Nat) => a.length - i) 0 rfl (Le.c rfl <| Le.c rfl <| Le.c rfl <| Le.c rfl <| Le.e) ⟨by omega, by simp⟩ ?_
 rintro i ⟨hb, hr⟩
 have hlen : a.length = b.length := by simp at h1; omega
 refine CW.g XK 26 [.n 1,.e [0,1,12,13,14],.p] rfl rfl rfl ?_
 refine CW.cond rfl (fun h2 => ?_) (fun h2 => ?_)
 have hii : i < a.length := by have := h2; simp at this; first | exact this | omega | (simp; done) | (simp; omega)
 obtain ⟨ei, hei⟩ : ∃ e, a[i]? = some e := ⟨_, List.getElem?_eq_getElem hii⟩
 have hdi := drop_get hei
 have hib : i < b.length := by omega
 obtain ⟨eb, heb⟩ : ∃ e, b[i]? = some e := ⟨_, List.getElem?_eq_getElem hib⟩
 refine CW.g XK 26 [.p,.e [0,1,12,13],.n 1,.e [0,1,5,12,13],.p] rfl rfl rfl ?_
 refine CW.drawn (by kernel_rfl) ?_
 refine RQ.k XK 26 2 rfl ?_
 (conv=>whnf);refine ⟨rfl,?_⟩
 refine RQ.v rfl (V.indexS rfl rfl rfl rfl rfl rfl Item.len hei) ?_
 refine RQ.k XK 26 3 rfl ?_
 (conv=>whnf);refine ⟨rfl,?_⟩
 refine RQ.v rfl (V.indexS rfl rfl rfl rfl rfl rfl Item.len heb) ?_
 refine RQ.k XK 26 1 rfl ?_
 (conv=>whnf);refine ⟨rfl,?_⟩
 refine RQ.v rfl (V.eqAgg (xs := Item.vs ei) (ys := Item.vs eb) rfl rfl rfl (by kernel_rfl) (eq139 ei eb) (.inr ⟨rfl, rfl⟩)) ?_
 refine RQ.nil ?_
 refine CW.g XK 26 [.e [0,1,12,13,24]] rfl rfl rfl ?_
 refine CW.cond rfl (fun h3 => ?_) (fun h3 => ?_)
 have he9 := h3
 refine CW.g XK 26 [.n 1,.e [4]] rfl rfl rfl ?_
 refine CW.ret ?_
 exact Post.one (RV.b rfl q10) (AOs.r (AOs.r AOs.e))
 have he9 := h3
 refine CW.g XK 26 [.p,.e [0,1,12,13],.p] rfl rfl rfl ?_
 refine RW.v rfl (V.inc rfl rfl rfl hii hl0) ?_
 refine RW.g XK 26 [.o 1,.p] rfl rfl rfl ?_
 exact ⟨i + 1, by omega, ⟨by omega, by rw [← hr, eqS_step hei heb, if_pos (by simpa using he9)]⟩, rfl, Le.c rfl <| Le.c rfl <| Le.c rfl <| Le.c rfl <| Le.e⟩
 have hii : a.length ≤ i := by have := h2; simp at this; first | exact this | omega | (simp; done) | (simp; omega)
 have hdi : a.drop i = [] := List.drop_eq_nil_of_le hii
 refine CW.exit ?_
 refine CW.g XK 26 [.e [],.n 1,.e [4]] rfl rfl rfl ?_
 refine CW.ret ?_
 exact Post.one (RV.b rfl (by rw [← hr]; exact (eqS_end hii hlen).symm)) (AOs.r (AOs.r AOs.e))
set_option maxHeartbeats 4000000 in
theorem impl_SameKeep_fn (a : Keep) (b : Keep) : Eng.Fn E.P 48 [.agg ((Keep.c a).map .r), .agg ((Keep.c b).map .r)] (.one (.one (.w (.v (.bool (eqKeep a b)))))) [.agg ((Keep.c a).map .r), .agg ((Keep.c b).map .r)] := by
 refine Eng.Fn.intro (E := E) (rvs := [.tmp 4]) Tryz.func48 rfl rfl rfl (by simp [outSlots, moved, rvSlot, sl]) ?_
 intro B g bo
 refine CW.h XK 17 [.e [0,1],.o 1] rfl ?_;(conv=>whnf);intro b1;(conv=>whnf);refine ⟨rfl,?_⟩
 refine RW.freezeB (ts := (Keep.c a)) 2 rfl (DRd.r (DRd.r DRd.e)) ?_
 refine RW.h XK 17 [.o 1] rfl ?_;(conv=>whnf);intro b2;(conv=>whnf);refine ⟨rfl,?_⟩
 refine RW.freezeB (ts := (Keep.c b)) 3 rfl (DRd.r (DRd.r DRd.e)) ?_
 refine RW.g XK 17 [.o 1,.p,.e [2,3]] rfl rfl rfl ?_
 refine CW.seqJ 17 (fun (v3 : Bool) => [(4, Bo v3)]) (fun v3 => v3 = ((eqS eqSession a.sessions b.sessions) && (eqS eqItem a.items b.items))) ?_ ?_
 refine CW.g XK 17 [.o 4] rfl rfl rfl ?_
 refine RW.call rfl (impl_Session__fn a.sessions b.sessions) rfl (.cons (.one (.r .r)) (.cons (.one (.r .r)) (.nil))) fun g4 => ?_
 refine RW.g XK 17 [.o 1] rfl rfl rfl ?_
 refine RW.gv rfl rfl rfl rfl (fun h5 => V.fieldR rfl rfl rfl rfl (by decide) rfl (Nat.le_of_ble_eq_true rfl)) (fun h5 => ?_) (fun h5 => ?_)
 refine RW.g XK 17 [.o 3] rfl rfl rfl ?_
 refine RW.gcall rfl rfl rfl rfl (impl_Item__fn a.items b.items) rfl (.cons (.one (.r .r)) (.cons (.one (.r .r)) (.nil))) fun g6 => ?_
 refine RW.g XK 17 [.o 2,.p] rfl rfl rfl ?_
 exact ⟨_, by first | rfl | (simp_all; done) | (simp_all; omega) | grind, rfl, Le.of rfl⟩
 refine RW.g XK 17 [.o 6,.p] rfl rfl rfl ?_
 exact ⟨_, by first | rfl | (simp_all; done) | (simp_all; omega) | grind, rfl, Le.of rfl⟩
 intro v3 hv7
 refine CW.ret ?_
 exact Post.one (RV.b rfl (by first | rfl | simp_all [eqKeep])) (AOs.a rfl (AOs.a rfl AOs.e))
set_option maxHeartbeats 4000000 in
theorem impl_ServerOk_fn (s : Server) (hs : SrP s) : Eng.Fn E.P 12 [.agg ((Server.c s).map .r)] (.one (.one (.w (.v (.bool true))))) [.agg ((Server.c s).map .r)] := by
 refine Eng.Fn.intro (E := E) (rvs := [.tmp 2]) Tryz.func12 rfl rfl rfl (by simp [outSlots, moved, rvSlot, sl]) ?_
 intro B g bo
 refine CW.h XK 124 [.e [0],.o 1] rfl ?_;(conv=>whnf);intro b1;(conv=>whnf);refine ⟨rfl,?_⟩
 refine RW.freezeB (ts := (Server.c s)) 1 rfl (DRd.r (DRd.r (DRd.r (DRd.r (DRd.r (DRd.r (DRd.r (DRd.r (DRd.r (DRd.r (DRd.r (DRd.r (DRd.r (DRd.r (DRd.r (DRd.r (DRd.r (DRd.r (DRd.r (DRd.r (DRd.r (DRd.r (DRd.r (DRd.r (DRd.r (DRd.r (DRd.r DRd.e))))))))))))))))))))))))))) ?_
 refine RW.g XK 124 [.o 1,.p,.e [1],.o 5] rfl rfl rfl ?_
 refine RW.call rfl (impl_Boot_fn s.node.id s.disk 20 hs.fd hs.id (by decide)) rfl (.cons (.one (.r .r)) (.cons (.agg (.cons (.r .r) (.nil))) (.cons (.one (.r .r)) (.nil)))) fun g2 => ?_
 refine RW.h XK 124 [.o 6] rfl ?_;(conv=>whnf);intro b3;(conv=>whnf);refine ⟨rfl,?_⟩
 refine RW.freezeB (ts := [.v (.int .i64 (((srv0 s.node.id s.disk 20).node).id)), .v (.int .i64 (((srv0 s.node.id s.disk 20).node).term_)), .v (.int .i64 (((srv0 s.node.id s.disk 20).node).vote)), .v (.int .i64 (((srv0 s.node.id s.disk 20).node).role)), .v (.int .i64 (((srv0 s.node.id s.disk 20).node).lead)), sl 1 cI (((srv0 s.node.id s.disk 20).node).conf), .v (.int .i64 ((((srv0 s.node.id s.disk 20).node).log).start)), .v (.int .i64 ((((srv0 s.node.id s.disk 20).node).log).startTerm)), sl 3 Entry.c ((((srv0 s.node.id s.disk 20).node).log).entries), .v (.int .i64 (((srv0 s.node.id s.disk 20).node).commit)), .v (.int .i64 (((srv0 s.node.id s.disk 20).node).clock)), .v (.int .i64 (((srv0 s.node.id s.disk 20).node).limit)), sl 1 cI (((srv0 s.node.id s.disk 20).node).votes), sl 4 Peer.c (((srv0 s.node.id s.disk 20).node).peers), sl 3 File.c (((srv0 s.node.id s.disk 20).disk).files), .v (.int .i64 (((srv0 s.node.id s.disk 20).journal).number)), .v (.int .i64 (((srv0 s.node.id s.disk 20).journal).term_)), .v (.int .i64 (((srv0 s.node.id s.disk 20).journal).vote)), .v (.int .i64 ((((srv0 s.node.id s.disk 20).journal).log).start)), .v (.int .i64 ((((srv0 s.node.id s.disk 20).journal).log).startTerm)), sl 3 Entry.c ((((srv0 s.node.id s.disk 20).journal).log).entries), sl 3 Session.c (((srv0 s.node.id s.disk 20).keep).sessions), sl 3 Item.c (((srv0 s.node.id s.disk 20).keep).items), .v (.int .i64 ((srv0 s.node.id s.disk 20).applied)), .v (.string ((srv0 s.node.id s.disk 20).stage)), .v (.int .i64 ((srv0 s.node.id s.disk 20).stageAt)), .v (.int .i64 ((srv0 s.node.id s.disk 20).stageTerm))]) 3 rfl (DRd.r (DRd.r (DRd.r (DRd.r (DRd.r (DRd.r (DRd.r (DRd.r (DRd.r (DRd.r (DRd.r (DRd.r (DRd.r (DRd.r (DRd.r (DRd.r (DRd.r (DRd.r (DRd.r (DRd.r (DRd.r (DRd.r (DRd.r (DRd.r (DRd.r (DRd.r (DRd.r DRd.e))))))))))))))))))))))))))) ?_
 refine RW.assignMove rfl rfl rfl (by decide) (Nat.le_of_ble_eq_true rfl) (Nat.le_of_ble_eq_true rfl) ?_
 refine RW.g XK 124 [.o 1,.p,.e [1,3,4,5],.p] rfl rfl rfl ?_
 refine CW.seqJ 124 (fun (v4 : Bool) => [(1, .rp (Server.c s)), (3, .rp [.v (.int .i64 (((srv0 s.node.id s.disk 20).node).id)), .v (.int .i64 (((srv0 s.node.id s.disk 20).node).term_)), .v (.int .i64 (((srv0 s.node.id s.disk 20).node).vote)), .v (.int .i64 (((srv0 s.node.id s.disk 20).node).role)), .v (.int .i64 (((srv0 s.node.id s.disk 20).node).lead)), sl 1 cI (((srv0 s.node.id s.disk 20).node).conf), .v (.int .i64 ((((srv0 s.node.id s.disk 20).node).log).start)), .v (.int .i64 ((((srv0 s.node.id s.disk 20).node).log).startTerm)), sl 3 Entry.c ((((srv0 s.node.id s.disk 20).node).log).entries), .v (.int .i64 (((srv0 s.node.id s.disk 20).node).commit)), .v (.int .i64 (((srv0 s.node.id s.disk 20).node).clock)), .v (.int .i64 (((srv0 s.node.id s.disk 20).node).limit)), sl 1 cI (((srv0 s.node.id s.disk 20).node).votes), sl 4 Peer.c (((srv0 s.node.id s.disk 20).node).peers), sl 3 File.c (((srv0 s.node.id s.disk 20).disk).files), .v (.int .i64 (((srv0 s.node.id s.disk 20).journal).number)), .v (.int .i64 (((srv0 s.node.id s.disk 20).journal).term_)), .v (.int .i64 (((srv0 s.node.id s.disk 20).journal).vote)), .v (.int .i64 ((((srv0 s.node.id s.disk 20).journal).log).start)), .v (.int .i64 ((((srv0 s.node.id s.disk 20).journal).log).startTerm)), sl 3 Entry.c ((((srv0 s.node.id s.disk 20).journal).log).entries), sl 3 Session.c (((srv0 s.node.id s.disk 20).keep).sessions), sl 3 Item.c (((srv0 s.node.id s.disk 20).keep).items), .v (.int .i64 ((srv0 s.node.id s.disk 20).applied)), .v (.string ((srv0 s.node.id s.disk 20).stage)), .v (.int .i64 ((srv0 s.node.id s.disk 20).stageAt)), .v (.int .i64 ((srv0 s.node.id s.disk 20).stageTerm))]), (40, Bo v4)]) (fun v4 => v4 = ((((0 != 0) || decide ((([] : List Act).length : Int) > 0)) || (!(eqJournal ((srv0 s.node.id s.disk 20).journal) s.journal))) || (!true))) ?_ ?_
 refine CW.g XK 124 [.o 3] rfl rfl rfl ?_
 refine RW.gv rfl rfl rfl rfl (fun h5 => V.mv (d := .al 4 none 4 (([] : List Act).length) (g2 1 0) 0) rfl rfl) (fun h5 => ?_) (fun h5 => ?_)
 refine RW.g XK 124 [.o 4] rfl rfl rfl ?_
 refine RW.gv rfl rfl rfl rfl (fun h6 => V.fieldR rfl rfl rfl rfl (by decide) rfl (Nat.le_of_ble_eq_true rfl)) (fun h6 => ?_) (fun h6 => ?_)
 refine RW.g XK 124 [.o 3] rfl rfl rfl ?_
 refine RW.gcall rfl rfl rfl rfl (impl_sameJournal_fn ((srv0 s.node.id s.disk 20).journal) s.journal) rfl (.cons (.agg (.cons (.r .r) (.cons (.r .r) (.cons (.r .r) (.cons (.r .r) (.cons (.r .r) (.cons (.r .r) (.nil)))))))) (.cons (.agg (.cons (.r .r) (.cons (.r .r) (.cons (.r .r) (.cons (.r .r) (.cons (.r .r) (.cons (.r .r) (.nil)))))))) (.nil))) fun g7 => ?_
 refine RW.g XK 124 [.o 3] rfl rfl rfl ?_
 refine RW.gv rfl rfl rfl rfl (fun h8 => V.fieldR rfl rfl rfl rfl (by decide) rfl (Nat.le_of_ble_eq_true rfl)) (fun h8 => ?_) (fun h8 => ?_)
 refine RW.g XK 124 [.o 1] rfl rfl rfl ?_
 refine RW.gcall rfl rfl rfl rfl (impl_NodeOk_fn s.node hs.ndP) rfl (.cons (.agg (.cons (.r .r) (.cons (.r .r) (.cons (.r .r) (.cons (.r .r) (.cons (.r .r) (.cons (.r .r) (.cons (.r .r) (.cons (.r .r) (.cons (.r .r) (.cons (.r .r) (.cons (.r .r) (.cons (.r .r) (.cons (.r .r) (.cons (.r .r) (.nil)))))))))))))))) (.nil)) fun g9 => ?_
 refine RW.g XK 124 [.o 2,.p] rfl rfl rfl ?_
 exact ⟨_, by first | rfl | (simp_all; done) | (simp_all; omega) | grind, rfl, Le.of rfl⟩
 refine RW.g XK 124 [.o 4,.p] rfl rfl rfl ?_
 exact ⟨_, by first | rfl | (simp_all; done) | (simp_all; omega) | grind, rfl, Le.of rfl⟩
 refine RW.g XK 124 [.o 12,.p] rfl rfl rfl ?_
 exact ⟨_, by first | rfl | (simp_all; done) | (simp_all; omega) | grind, rfl, Le.of rfl⟩
 refine RW.g XK 124 [.o 17,.p] rfl rfl rfl ?_
 exact ⟨_, by first | rfl | (simp_all; done) | (simp_all; omega) | grind, rfl, Le.of rfl⟩
 intro v4 hv10
 refine CW.cond rfl (fun h11 => ?_) (fun h11 => ?_)
 have hvv := hv10.symm.trans h11
 first | exact absurd hvv hs.v1 | exact absurd hvv hs.v2
 have hvv := hv10.symm.trans h11
 refine CW.h XK 124 [.p,.e [1,3],.o 4] rfl ?_;(conv=>whnf);intro b12;(conv=>whnf);refine ⟨rfl,?_⟩
 refine RW.freezeB (ts := (Node.c s.node)) 6 rfl (DRd.r (DRd.r (DRd.r (DRd.r (DRd.r (DRd.r (DRd.r (DRd.r (DRd.r (DRd.r (DRd.r (DRd.r (DRd.r (DRd.r DRd.e)))))))))))))) ?_
 refine RW.g XK 124 [.p,.e [1,3,6]] rfl rfl rfl ?_
 refine CW.anyJ2 (fc := []) (L0 := [(1, .rp (Server.c s)), (3, .rp [.v (.int .i64 (((srv0 s.node.id s.disk 20).node).id)), .v (.int .i64 (((srv0 s.node.id s.disk 20).node).term_)), .v (.int .i64 (((srv0 s.node.id s.disk 20).node).vote)), .v (.int .i64 (((srv0 s.node.id s.disk 20).node).role)), .v (.int .i64 (((srv0 s.node.id s.disk 20).node).lead)), sl 1 cI (((srv0 s.node.id s.disk 20).node).conf), .v (.int .i64 ((((srv0 s.node.id s.disk 20).node).log).start)), .v (.int .i64 ((((srv0 s.node.id s.disk 20).node).log).startTerm)), sl 3 Entry.c ((((srv0 s.node.id s.disk 20).node).log).entries), .v (.int .i64 (((srv0 s.node.id s.disk 20).node).commit)), .v (.int .i64 (((srv0 s.node.id s.disk 20).node).clock)), .v (.int .i64 (((srv0 s.node.id s.disk 20).node).limit)), sl 1 cI (((srv0 s.node.id s.disk 20).node).votes), sl 4 Peer.c (((srv0 s.node.id s.disk 20).node).peers), sl 3 File.c (((srv0 s.node.id s.disk 20).disk).files), .v (.int .i64 (((srv0 s.node.id s.disk 20).journal).number)), .v (.int .i64 (((srv0 s.node.id s.disk 20).journal).term_)), .v (.int .i64 (((srv0 s.node.id s.disk 20).journal).vote)), .v (.int .i64 ((((srv0 s.node.id s.disk 20).journal).log).start)), .v (.int .i64 ((((srv0 s.node.id s.disk 20).journal).log).startTerm)), sl 3 Entry.c ((((srv0 s.node.id s.disk 20).journal).log).entries), sl 3 Session.c (((srv0 s.node.id s.disk 20).keep).sessions), sl 3 Item.c (((srv0 s.node.id s.disk 20).keep).items), .v (.int .i64 ((srv0 s.node.id s.disk 20).applied)), .v (.string ((srv0 s.node.id s.disk 20).stage)), .v (.int .i64 ((srv0 s.node.id s.disk 20).stageAt)), .v (.int .i64 ((srv0 s.node.id s.disk 20).stageTerm))]), (6, .rp (Node.c s.node))]) 124 (fun (zz : (Nat → Nat → Value) × (Nat → Nat → Value)) => match zz with | (go13_3_1, go13_6_1) => [(7, Bo ((byT (((srv0 s.node.id s.disk 20).node).conf)).toList == (byT s.node.conf).toList))]) (fun all hall f hf b0 hb K hK => ?_) ?_
 have ro13_2 : ∀ B, ∀ (go13_3_1 : Nat → Nat → Value), ∀ (go13_6_1 : Nat → Nat → Value), RA f E B all 0 (bt 9 511) ⟨124, [(7, Bo ((byT (((srv0 s.node.id s.disk 20).node).conf)).toList == (byT s.node.conf).toList))] ++ b0⟩ K := by
  intro B go13_3_1 go13_6_1
  exact RA.of2 hall hf hb (RA.finH (Tell.of rfl) (by kernel_rfl) (hK (go13_3_1, go13_6_1) _ rfl (Le.of rfl)))
 have ro13_1 : ∀ B, ∀ (go13_3_1 : Nat → Nat → Value), RA f E B all 3 (bt 9 63) ⟨124, [(46, S (byT (((srv0 s.node.id s.disk 20).node).conf))), (48, .r (sl 1 cI s.node.conf))] ++ b0⟩ K := by
  intro B go13_3_1
  refine RA.of2 hall hf hb (RA.stepH (L := [6]) (Tell.of rfl) (by kernel_rfl) (by simp) (RA.each ?_ (RA.each0)))
  refine RO.call rfl rfl (impl_byteTexts_fn s.node.conf (by first | exact hs.cl | exact hs.cl2)) rfl (.cons (.one (.r .r)) (.nil)) rfl fun go13_6_1 => ?_
  refine RA.fr XK 124 0 [7,8] (bt 9 511) rfl rfl (by kernel_rfl) (Tell.of rfl) ?_
  (conv=>whnf);refine ⟨rfl,fun B=>?_⟩
  exact RA.to2 hall hf hb (ro13_2 B go13_3_1 go13_6_1) rfl rfl (by kernel_rfl)
 have ro13_0 : ∀ B, RA f E B all 4 (bt 9 55) ⟨124, [(45, .r (sl 1 cI (((srv0 s.node.id s.disk 20).node).conf))), (48, .r (sl 1 cI s.node.conf))] ++ b0⟩ K := by
  intro B
  refine RA.of2 hall hf hb (RA.stepH (L := [3]) (Tell.of rfl) (by kernel_rfl) (by simp) (RA.each ?_ (RA.each0)))
  refine RO.call rfl rfl (impl_byteTexts_fn (((srv0 s.node.id s.disk 20).node).conf) (by first | exact hs.cl | exact hs.cl2)) rfl (.cons (.one (.r .r)) (.nil)) rfl fun go13_3_1 => ?_
  exact RA.to2 hall hf hb (ro13_1 B go13_3_1) rfl rfl (by kernel_rfl)
 refine RA.start (by kernel_rfl) (by kernel_rfl) (m := 9) (ls' := (bt 9 0)) ?_
 refine RA.fr XK 124 4 [0,1,2,4,5] (bt 9 55) rfl rfl (by kernel_rfl) (Tell.of rfl) ?_
 (conv=>whnf);refine ⟨rfl,fun B=>?_⟩
 exact RA.to2 hall hf hb (ro13_0 B) rfl rfl (by kernel_rfl)
 rintro ⟨go13_3_1, go13_6_1⟩
 refine CW.g XK 124 [.p] rfl rfl rfl ?_
 refine CW.seqJ 124 (fun (v14 : Bool) => [(1, .rp (Server.c s)), (3, .rp [.v (.int .i64 (((srv0 s.node.id s.disk 20).node).id)), .v (.int .i64 (((srv0 s.node.id s.disk 20).node).term_)), .v (.int .i64 (((srv0 s.node.id s.disk 20).node).vote)), .v (.int .i64 (((srv0 s.node.id s.disk 20).node).role)), .v (.int .i64 (((srv0 s.node.id s.disk 20).node).lead)), sl 1 cI (((srv0 s.node.id s.disk 20).node).conf), .v (.int .i64 ((((srv0 s.node.id s.disk 20).node).log).start)), .v (.int .i64 ((((srv0 s.node.id s.disk 20).node).log).startTerm)), sl 3 Entry.c ((((srv0 s.node.id s.disk 20).node).log).entries), .v (.int .i64 (((srv0 s.node.id s.disk 20).node).commit)), .v (.int .i64 (((srv0 s.node.id s.disk 20).node).clock)), .v (.int .i64 (((srv0 s.node.id s.disk 20).node).limit)), sl 1 cI (((srv0 s.node.id s.disk 20).node).votes), sl 4 Peer.c (((srv0 s.node.id s.disk 20).node).peers), sl 3 File.c (((srv0 s.node.id s.disk 20).disk).files), .v (.int .i64 (((srv0 s.node.id s.disk 20).journal).number)), .v (.int .i64 (((srv0 s.node.id s.disk 20).journal).term_)), .v (.int .i64 (((srv0 s.node.id s.disk 20).journal).vote)), .v (.int .i64 ((((srv0 s.node.id s.disk 20).journal).log).start)), .v (.int .i64 ((((srv0 s.node.id s.disk 20).journal).log).startTerm)), sl 3 Entry.c ((((srv0 s.node.id s.disk 20).journal).log).entries), sl 3 Session.c (((srv0 s.node.id s.disk 20).keep).sessions), sl 3 Item.c (((srv0 s.node.id s.disk 20).keep).items), .v (.int .i64 ((srv0 s.node.id s.disk 20).applied)), .v (.string ((srv0 s.node.id s.disk 20).stage)), .v (.int .i64 ((srv0 s.node.id s.disk 20).stageAt)), .v (.int .i64 ((srv0 s.node.id s.disk 20).stageTerm))]), (6, .rp (Node.c s.node)), (87, Bo v14)]) (fun v14 => v14 = (((((!((byT (((srv0 s.node.id s.disk 20).node).conf)).toList == (byT s.node.conf).toList)) || (!(eqLog (((srv0 s.node.id s.disk 20).node).log) s.node.log))) || (((srv0 s.node.id s.disk 20).node).term_ != s.node.term_)) || (((srv0 s.node.id s.disk 20).node).vote != s.node.vote)) || (!(inR s.applied ((srv0 s.node.id s.disk 20).applied) s.node.commit)))) ?_ ?_
 refine CW.g XK 124 [.o 3] rfl rfl rfl ?_
 refine RW.gv rfl rfl rfl rfl (fun h15 => V.fieldR rfl rfl rfl rfl (by decide) rfl (Nat.le_of_ble_eq_true rfl)) (fun h15 => ?_) (fun h15 => ?_)
 refine RW.g XK 124 [.o 4] rfl rfl rfl ?_
 refine RW.gcall rfl rfl rfl rfl (impl_sameLog_fn (((srv0 s.node.id s.disk 20).node).log) s.node.log) rfl (.cons (.agg (.cons (.r .r) (.cons (.r .r) (.cons (.r .r) (.nil))))) (.cons (.agg (.cons (.r .r) (.cons (.r .r) (.cons (.r .r) (.nil))))) (.nil))) fun g16 => ?_
 refine RW.g XK 124 [.o 3] rfl rfl rfl ?_
 refine RW.gv rfl rfl rfl rfl (fun h17 => V.fieldR rfl rfl rfl rfl (by decide) rfl (Nat.le_of_ble_eq_true rfl)) (fun h17 => ?_) (fun h17 => ?_)
 refine RW.g XK 124 [.o 7] rfl rfl rfl ?_
 refine RW.gv rfl rfl rfl rfl (fun h18 => V.fieldR rfl rfl rfl rfl (by decide) rfl (Nat.le_of_ble_eq_true rfl)) (fun h18 => ?_) (fun h18 => ?_)
 refine RW.g XK 124 [.o 7] rfl rfl rfl ?_
 refine RW.gv rfl rfl rfl rfl (fun h19 => V.fieldR rfl rfl rfl rfl (by decide) rfl (Nat.le_of_ble_eq_true rfl)) (fun h19 => ?_) (fun h19 => ?_)
 refine RW.g XK 124 [.o 5] rfl rfl rfl ?_
 refine RW.gcall rfl rfl rfl rfl (impl_within_fn s.applied ((srv0 s.node.id s.disk 20).applied) s.node.commit) rfl (.cons (.one (.r .r)) (.cons (.one (.r .r)) (.cons (.one (.r .r)) (.nil)))) fun g20 => ?_
 refine RW.g XK 124 [.o 2,.p] rfl rfl rfl ?_
 exact ⟨_, by first | rfl | (simp_all; done) | (simp_all; omega) | grind, rfl, Le.of rfl⟩
 refine RW.g XK 124 [.o 8,.p] rfl rfl rfl ?_
 exact ⟨_, by first | rfl | (simp_all; done) | (simp_all; omega) | grind, rfl, Le.of rfl⟩
 refine RW.g XK 124 [.o 16,.p] rfl rfl rfl ?_
 exact ⟨_, by first | rfl | (simp_all; done) | (simp_all; omega) | grind, rfl, Le.of rfl⟩
 refine RW.g XK 124 [.o 24,.p] rfl rfl rfl ?_
 exact ⟨_, by first | rfl | (simp_all; done) | (simp_all; omega) | grind, rfl, Le.of rfl⟩
 refine RW.g XK 124 [.o 33,.p] rfl rfl rfl ?_
 exact ⟨_, by first | rfl | (simp_all; done) | (simp_all; omega) | grind, rfl, Le.of rfl⟩
 intro v14 hv21
 refine CW.cond rfl (fun h22 => ?_) (fun h22 => ?_)
 have hvv := hv21.symm.trans h22
 first | exact absurd hvv hs.v1 | exact absurd hvv hs.v2
 have hvv := hv21.symm.trans h22
 refine CW.g XK 124 [.p,.e [1,3,6]] rfl rfl rfl ?_
 refine CW.anyJ2 (fc := []) (L0 := [(1, .rp (Server.c s))]) 124 (fun (zz : Nat × (Nat → Nat → Value) × (Nat → Nat → Value)) => match zz with | (bo23_16_1, go23_12_1, go23_8_1) => [(8, .obj bo23_16_1 ((Keep.c ((srv0 s.node.id s.disk 20).keep)).map .r))]) (fun all hall f hf b0 hb K hK => ?_) ?_
 have ro23_16 : ∀ B, ∀ (bo23_16_1 : Nat), ∀ (go23_12_1 : Nat → Nat → Value), ∀ (go23_8_1 : Nat → Nat → Value), RA f E B all 0 (bt 19 524287) ⟨124, [(8, .obj bo23_16_1 ((Keep.c ((srv0 s.node.id s.disk 20).keep)).map .r))] ++ b0⟩ K := by
  intro B bo23_16_1 go23_12_1 go23_8_1
  exact RA.of2 hall hf hb (RA.finH (Tell.of rfl) (by kernel_rfl) (hK (bo23_16_1, go23_12_1, go23_8_1) _ rfl (Le.of rfl)))
 have ro23_15 : ∀ B, ∀ (bo23_16_1 : Nat), ∀ (go23_12_1 : Nat → Nat → Value), ∀ (go23_8_1 : Nat → Nat → Value), RA f E B all 1 (bt 19 262143) ⟨124, [(8, .obj bo23_16_1 ((Keep.c ((srv0 s.node.id s.disk 20).keep)).map .r)), (103, .w (sl 1 cS ([] : List ByteArray)) (go23_12_1 1 0))] ++ b0⟩ K := by
  intro B bo23_16_1 go23_12_1 go23_8_1
  refine RA.of2 hall hf hb (RA.stepH (L := [18]) (Tell.of rfl) (by kernel_rfl) (by simp) (RA.each ?_ (RA.each0)))
  refine RO.assignMove rfl rfl rfl rfl rfl (by decide) (Nat.le_of_ble_eq_true rfl) (Nat.le_of_ble_eq_true rfl) ?_
  exact RA.to2 hall hf hb (ro23_16 B bo23_16_1 go23_12_1 go23_8_1) rfl rfl (by kernel_rfl)
 have ro23_14 : ∀ B, ∀ (bo23_16_1 : Nat), ∀ (go23_12_1 : Nat → Nat → Value), ∀ (go23_8_1 : Nat → Nat → Value), RA f E B all 2 (bt 19 229375) ⟨124, [(8, .obj bo23_16_1 ((Keep.c ((srv0 s.node.id s.disk 20).keep)).map .r)), (88, .tup [.u, .w (sl 1 cS ([] : List ByteArray)) (go23_12_1 1 0)])] ++ b0⟩ K := by
  intro B bo23_16_1 go23_12_1 go23_8_1
  refine RA.of2 hall hf hb (RA.stepH (L := [15]) (Tell.of rfl) (by kernel_rfl) (by simp) (RA.each ?_ (RA.each0)))
  refine RO.extract (d := .w (sl 1 cS ([] : List ByteArray)) (go23_12_1 1 0)) rfl rfl rfl rfl rfl (by decide) (Nat.le_of_ble_eq_true rfl) rfl rfl ?_
  exact RA.to2 hall hf hb (ro23_15 B bo23_16_1 go23_12_1 go23_8_1) rfl rfl (by kernel_rfl)
 have ro23_13 : ∀ B, ∀ (bo23_16_1 : Nat), ∀ (go23_12_1 : Nat → Nat → Value), ∀ (go23_8_1 : Nat → Nat → Value), RA f E B all 2 (bt 19 131071) ⟨124, [(8, .obj bo23_16_1 [.r (.v (.slice none 0 0)), .r (.v (.slice none 0 0))]), (102, .agg ((Keep.c ((srv0 s.node.id s.disk 20).keep)).map .r)), (103, .w (sl 1 cS ([] : List ByteArray)) (go23_12_1 1 0))] ++ b0⟩ K := by
  intro B bo23_16_1 go23_12_1 go23_8_1
  refine RA.of2 hall hf hb (RA.stepH (L := [17]) (Tell.of rfl) (by kernel_rfl) (by simp) (RA.each ?_ (RA.each0)))
  refine RO.storeAgg (es := ((Keep.c ((srv0 s.node.id s.disk 20).keep)).map .r)) rfl rfl rfl rfl rfl rfl rfl rfl rfl rfl (Nat.le_of_ble_eq_true rfl) rfl ?_
  exact RA.to2 hall hf hb (ro23_15 B bo23_16_1 go23_12_1 go23_8_1) rfl rfl (by kernel_rfl)
 have ro23_12 : ∀ B, ∀ (bo23_16_1 : Nat), ∀ (go23_12_1 : Nat → Nat → Value), ∀ (go23_8_1 : Nat → Nat → Value), RA f E B all 3 (bt 19 114687) ⟨124, [(8, .obj bo23_16_1 [.r (.v (.slice none 0 0)), .r (.v (.slice none 0 0))]), (88, .tup [.agg ((Keep.c ((srv0 s.node.id s.disk 20).keep)).map .r), .u]), (103, .w (sl 1 cS ([] : List ByteArray)) (go23_12_1 1 0))] ++ b0⟩ K := by
  intro B bo23_16_1 go23_12_1 go23_8_1
  refine RA.of2 hall hf hb (RA.stepH (L := [14]) (Tell.of rfl) (by kernel_rfl) (by simp) (RA.each ?_ (RA.each0)))
  refine RO.extract (d := .agg ((Keep.c ((srv0 s.node.id s.disk 20).keep)).map .r)) rfl rfl rfl rfl rfl (by decide) (Nat.le_of_ble_eq_true rfl) rfl rfl ?_
  exact RA.to2 hall hf hb (ro23_13 B bo23_16_1 go23_12_1 go23_8_1) rfl rfl (by kernel_rfl)
 have ro23_11 : ∀ B, ∀ (bo23_16_1 : Nat), ∀ (go23_12_1 : Nat → Nat → Value), ∀ (go23_8_1 : Nat → Nat → Value), RA f E B all 3 (bt 19 98303) ⟨124, [(8, .obj bo23_16_1 [.r (.v (.slice none 0 0)), .r (.v (.slice none 0 0))]), (88, .tup [.u, .w (sl 1 cS ([] : List ByteArray)) (go23_12_1 1 0)]), (102, .agg ((Keep.c ((srv0 s.node.id s.disk 20).keep)).map .r))] ++ b0⟩ K := by
  intro B bo23_16_1 go23_12_1 go23_8_1
  refine RA.of2 hall hf hb (RA.stepH (L := [15, 17]) (Tell.of rfl) (by kernel_rfl) (by simp) (RA.each ?_ (RA.each ?_ (RA.each0))))
  refine RO.extract (d := .w (sl 1 cS ([] : List ByteArray)) (go23_12_1 1 0)) rfl rfl rfl rfl rfl (by decide) (Nat.le_of_ble_eq_true rfl) rfl rfl ?_
  exact RA.to2 hall hf hb (ro23_13 B bo23_16_1 go23_12_1 go23_8_1) rfl rfl (by kernel_rfl)
  refine RO.storeAgg (es := ((Keep.c ((srv0 s.node.id s.disk 20).keep)).map .r)) rfl rfl rfl rfl rfl rfl rfl rfl rfl rfl (Nat.le_of_ble_eq_true rfl) rfl ?_
  exact RA.to2 hall hf hb (ro23_14 B bo23_16_1 go23_12_1 go23_8_1) rfl rfl (by kernel_rfl)
 have ro23_10 : ∀ B, ∀ (go23_12_1 : Nat → Nat → Value), ∀ (go23_8_1 : Nat → Nat → Value), RA f E B all 3 (bt 19 65535) ⟨124, [(102, .agg ((Keep.c ((srv0 s.node.id s.disk 20).keep)).map .r)), (103, .w (sl 1 cS ([] : List ByteArray)) (go23_12_1 1 0))] ++ b0⟩ K := by
  intro B go23_12_1 go23_8_1
  refine RA.of2 hall hf hb (RA.stepH (L := [16]) (Tell.of rfl) (by kernel_rfl) (by simp) (RA.each ?_ (RA.each0)))
  refine RO.alloc (ds := [.r (.v (.slice none 0 0)), .r (.v (.slice none 0 0))]) rfl rfl rfl rfl rfl rfl fun bo23_16_1 => ?_
  exact RA.to2 hall hf hb (ro23_13 B bo23_16_1 go23_12_1 go23_8_1) rfl rfl (by kernel_rfl)
 have ro23_9 : ∀ B, ∀ (bo23_16_1 : Nat), ∀ (go23_12_1 : Nat → Nat → Value), ∀ (go23_8_1 : Nat → Nat → Value), RA f E B all 4 (bt 19 81919) ⟨124, [(8, .obj bo23_16_1 [.r (.v (.slice none 0 0)), .r (.v (.slice none 0 0))]), (88, .tup [.agg ((Keep.c ((srv0 s.node.id s.disk 20).keep)).map .r), .w (sl 1 cS ([] : List ByteArray)) (go23_12_1 1 0)])] ++ b0⟩ K := by
  intro B bo23_16_1 go23_12_1 go23_8_1
  refine RA.of2 hall hf hb (RA.stepH (L := [14, 15]) (Tell.of rfl) (by kernel_rfl) (by simp) (RA.each ?_ (RA.each ?_ (RA.each0))))
  refine RO.extract (d := .agg ((Keep.c ((srv0 s.node.id s.disk 20).keep)).map .r)) rfl rfl rfl rfl rfl (by decide) (Nat.le_of_ble_eq_true rfl) rfl rfl ?_
  exact RA.to2 hall hf hb (ro23_11 B bo23_16_1 go23_12_1 go23_8_1) rfl rfl (by kernel_rfl)
  refine RO.extract (d := .w (sl 1 cS ([] : List ByteArray)) (go23_12_1 1 0)) rfl rfl rfl rfl rfl (by decide) (Nat.le_of_ble_eq_true rfl) rfl rfl ?_
  exact RA.to2 hall hf hb (ro23_12 B bo23_16_1 go23_12_1 go23_8_1) rfl rfl (by kernel_rfl)
 have ro23_8 : ∀ B, ∀ (go23_12_1 : Nat → Nat → Value), ∀ (go23_8_1 : Nat → Nat → Value), RA f E B all 4 (bt 19 49151) ⟨124, [(88, .tup [.agg ((Keep.c ((srv0 s.node.id s.disk 20).keep)).map .r), .u]), (103, .w (sl 1 cS ([] : List ByteArray)) (go23_12_1 1 0))] ++ b0⟩ K := by
  intro B go23_12_1 go23_8_1
  refine RA.of2 hall hf hb (RA.stepH (L := [14, 16]) (Tell.of rfl) (by kernel_rfl) (by simp) (RA.each ?_ (RA.each ?_ (RA.each0))))
  refine RO.extract (d := .agg ((Keep.c ((srv0 s.node.id s.disk 20).keep)).map .r)) rfl rfl rfl rfl rfl (by decide) (Nat.le_of_ble_eq_true rfl) rfl rfl ?_
  exact RA.to2 hall hf hb (ro23_10 B go23_12_1 go23_8_1) rfl rfl (by kernel_rfl)
  refine RO.alloc (ds := [.r (.v (.slice none 0 0)), .r (.v (.slice none 0 0))]) rfl rfl rfl rfl rfl rfl fun bo23_16_1 => ?_
  exact RA.to2 hall hf hb (ro23_12 B bo23_16_1 go23_12_1 go23_8_1) rfl rfl (by kernel_rfl)
 have ro23_7 : ∀ B, ∀ (go23_12_1 : Nat → Nat → Value), ∀ (go23_8_1 : Nat → Nat → Value), RA f E B all 4 (bt 19 32767) ⟨124, [(88, .tup [.u, .w (sl 1 cS ([] : List ByteArray)) (go23_12_1 1 0)]), (102, .agg ((Keep.c ((srv0 s.node.id s.disk 20).keep)).map .r))] ++ b0⟩ K := by
  intro B go23_12_1 go23_8_1
  refine RA.of2 hall hf hb (RA.stepH (L := [15, 16]) (Tell.of rfl) (by kernel_rfl) (by simp) (RA.each ?_ (RA.each ?_ (RA.each0))))
  refine RO.extract (d := .w (sl 1 cS ([] : List ByteArray)) (go23_12_1 1 0)) rfl rfl rfl rfl rfl (by decide) (Nat.le_of_ble_eq_true rfl) rfl rfl ?_
  exact RA.to2 hall hf hb (ro23_10 B go23_12_1 go23_8_1) rfl rfl (by kernel_rfl)
  refine RO.alloc (ds := [.r (.v (.slice none 0 0)), .r (.v (.slice none 0 0))]) rfl rfl rfl rfl rfl rfl fun bo23_16_1 => ?_
  exact RA.to2 hall hf hb (ro23_11 B bo23_16_1 go23_12_1 go23_8_1) rfl rfl (by kernel_rfl)
 have ro23_6 : ∀ B, ∀ (bo23_16_1 : Nat), ∀ (go23_12_1 : Nat → Nat → Value), ∀ (go23_8_1 : Nat → Nat → Value), RA f E B all 5 (bt 19 73727) ⟨124, [(8, .obj bo23_16_1 [.r (.v (.slice none 0 0)), .r (.v (.slice none 0 0))]), (101, .tup [.agg ((Keep.c ((srv0 s.node.id s.disk 20).keep)).map .r), .w (sl 1 cS ([] : List ByteArray)) (go23_12_1 1 0)])] ++ b0⟩ K := by
  intro B bo23_16_1 go23_12_1 go23_8_1
  refine RA.of2 hall hf hb (RA.stepH (L := [13]) (Tell.of rfl) (by kernel_rfl) (by simp) (RA.each ?_ (RA.each0)))
  refine RO.moveMove rfl rfl rfl rfl rfl (by decide) (Nat.le_of_ble_eq_true rfl) (Nat.le_of_ble_eq_true rfl) ?_
  exact RA.to2 hall hf hb (ro23_9 B bo23_16_1 go23_12_1 go23_8_1) rfl rfl (by kernel_rfl)
 have ro23_5 : ∀ B, ∀ (go23_12_1 : Nat → Nat → Value), ∀ (go23_8_1 : Nat → Nat → Value), RA f E B all 5 (bt 19 16383) ⟨124, [(88, .tup [.agg ((Keep.c ((srv0 s.node.id s.disk 20).keep)).map .r), .w (sl 1 cS ([] : List ByteArray)) (go23_12_1 1 0)])] ++ b0⟩ K := by
  intro B go23_12_1 go23_8_1
  refine RA.of2 hall hf hb (RA.stepH (L := [14, 15, 16]) (Tell.of rfl) (by kernel_rfl) (by simp) (RA.each ?_ (RA.each ?_ (RA.each ?_ (RA.each0)))))
  refine RO.extract (d := .agg ((Keep.c ((srv0 s.node.id s.disk 20).keep)).map .r)) rfl rfl rfl rfl rfl (by decide) (Nat.le_of_ble_eq_true rfl) rfl rfl ?_
  exact RA.to2 hall hf hb (ro23_7 B go23_12_1 go23_8_1) rfl rfl (by kernel_rfl)
  refine RO.extract (d := .w (sl 1 cS ([] : List ByteArray)) (go23_12_1 1 0)) rfl rfl rfl rfl rfl (by decide) (Nat.le_of_ble_eq_true rfl) rfl rfl ?_
  exact RA.to2 hall hf hb (ro23_8 B go23_12_1 go23_8_1) rfl rfl (by kernel_rfl)
  refine RO.alloc (ds := [.r (.v (.slice none 0 0)), .r (.v (.slice none 0 0))]) rfl rfl rfl rfl rfl rfl fun bo23_16_1 => ?_
  exact RA.to2 hall hf hb (ro23_9 B bo23_16_1 go23_12_1 go23_8_1) rfl rfl (by kernel_rfl)
 have ro23_4 : ∀ B, ∀ (bo23_16_1 : Nat), ∀ (go23_8_1 : Nat → Nat → Value), RA f E B all 6 (bt 19 69631) ⟨124, [(8, .obj bo23_16_1 [.r (.v (.slice none 0 0)), .r (.v (.slice none 0 0))]), (90, .agg ((Keep.c ((srv0 s.node.id s.disk 20).keep)).map .r)), (97, .w (sl 3 Entry.c ([] : List Entry)) (go23_8_1 0 0)), (100, I (IntKind.i64.wrap ((srv0 s.node.id s.disk 20).applied + 1)))] ++ b0⟩ K := by
  intro B bo23_16_1 go23_8_1
  refine RA.of2 hall hf hb (RA.stepH (L := [12]) (Tell.of rfl) (by kernel_rfl) (by simp) (RA.each ?_ (RA.each0)))
  refine RO.freeze 97 (d' := .r (sl 3 Entry.c ([] : List Entry))) rfl rfl ?_
  refine RO.call rfl rfl (impl_Fold_fn ((srv0 s.node.id s.disk 20).keep) ([] : List Entry) (IntKind.i64.wrap ((srv0 s.node.id s.disk 20).applied + 1)) rfl keepNew_to) rfl (.cons (.agg (.cons (.r .r) (.cons (.r .r) (.nil)))) (.cons (.one (.r .r)) (.cons (.one (.r .r)) (.nil)))) rfl fun go23_12_1 => ?_
  exact RA.to2 hall hf hb (ro23_6 B bo23_16_1 go23_12_1 go23_8_1) rfl rfl (by kernel_rfl)
 have ro23_3 : ∀ B, ∀ (go23_12_1 : Nat → Nat → Value), ∀ (go23_8_1 : Nat → Nat → Value), RA f E B all 6 (bt 19 8191) ⟨124, [(101, .tup [.agg ((Keep.c ((srv0 s.node.id s.disk 20).keep)).map .r), .w (sl 1 cS ([] : List ByteArray)) (go23_12_1 1 0)])] ++ b0⟩ K := by
  intro B go23_12_1 go23_8_1
  refine RA.of2 hall hf hb (RA.stepH (L := [13, 16]) (Tell.of rfl) (by kernel_rfl) (by simp) (RA.each ?_ (RA.each ?_ (RA.each0))))
  refine RO.moveMove rfl rfl rfl rfl rfl (by decide) (Nat.le_of_ble_eq_true rfl) (Nat.le_of_ble_eq_true rfl) ?_
  exact RA.to2 hall hf hb (ro23_5 B go23_12_1 go23_8_1) rfl rfl (by kernel_rfl)
  refine RO.alloc (ds := [.r (.v (.slice none 0 0)), .r (.v (.slice none 0 0))]) rfl rfl rfl rfl rfl rfl fun bo23_16_1 => ?_
  exact RA.to2 hall hf hb (ro23_6 B bo23_16_1 go23_12_1 go23_8_1) rfl rfl (by kernel_rfl)
 have ro23_2 : ∀ B, ∀ (bo23_16_1 : Nat), RA f E B all 7 (bt 19 69375) ⟨124, [(8, .obj bo23_16_1 [.r (.v (.slice none 0 0)), .r (.v (.slice none 0 0))]), (90, .agg ((Keep.c ((srv0 s.node.id s.disk 20).keep)).map .r)), (92, .agg ((Log.c s.node.log).map .r)), (94, I ((srv0 s.node.id s.disk 20).applied)), (96, I s.applied), (100, I (IntKind.i64.wrap ((srv0 s.node.id s.disk 20).applied + 1)))] ++ b0⟩ K := by
  intro B bo23_16_1
  refine RA.of2 hall hf hb (RA.stepH (L := [8]) (Tell.of rfl) (by kernel_rfl) (by simp) (RA.each ?_ (RA.each0)))
  refine RO.call rfl rfl (impl_entriesFrom_fn s.node.log ((srv0 s.node.id s.disk 20).applied) s.applied hs.lg rfl hs.a0) rfl (.cons (.agg (.cons (.r .r) (.cons (.r .r) (.cons (.r .r) (.nil))))) (.cons (.one (.r .r)) (.cons (.one (.r .r)) (.nil)))) rfl fun go23_8_1 => ?_
  exact RA.to2 hall hf hb (ro23_4 B bo23_16_1 go23_8_1) rfl rfl (by kernel_rfl)
 have ro23_1 : ∀ B, ∀ (go23_8_1 : Nat → Nat → Value), RA f E B all 7 (bt 19 4095) ⟨124, [(90, .agg ((Keep.c ((srv0 s.node.id s.disk 20).keep)).map .r)), (97, .w (sl 3 Entry.c ([] : List Entry)) (go23_8_1 0 0)), (100, I (IntKind.i64.wrap ((srv0 s.node.id s.disk 20).applied + 1)))] ++ b0⟩ K := by
  intro B go23_8_1
  refine RA.of2 hall hf hb (RA.stepH (L := [12, 16]) (Tell.of rfl) (by kernel_rfl) (by simp) (RA.each ?_ (RA.each ?_ (RA.each0))))
  refine RO.freeze 97 (d' := .r (sl 3 Entry.c ([] : List Entry))) rfl rfl ?_
  refine RO.call rfl rfl (impl_Fold_fn ((srv0 s.node.id s.disk 20).keep) ([] : List Entry) (IntKind.i64.wrap ((srv0 s.node.id s.disk 20).applied + 1)) rfl keepNew_to) rfl (.cons (.agg (.cons (.r .r) (.cons (.r .r) (.nil)))) (.cons (.one (.r .r)) (.cons (.one (.r .r)) (.nil)))) rfl fun go23_12_1 => ?_
  exact RA.to2 hall hf hb (ro23_3 B go23_12_1 go23_8_1) rfl rfl (by kernel_rfl)
  refine RO.alloc (ds := [.r (.v (.slice none 0 0)), .r (.v (.slice none 0 0))]) rfl rfl rfl rfl rfl rfl fun bo23_16_1 => ?_
  exact RA.to2 hall hf hb (ro23_4 B bo23_16_1 go23_8_1) rfl rfl (by kernel_rfl)
 have ro23_0 : ∀ B, RA f E B all 8 (bt 19 3839) ⟨124, [(90, .agg ((Keep.c ((srv0 s.node.id s.disk 20).keep)).map .r)), (92, .agg ((Log.c s.node.log).map .r)), (94, I ((srv0 s.node.id s.disk 20).applied)), (96, I s.applied), (100, I (IntKind.i64.wrap ((srv0 s.node.id s.disk 20).applied + 1)))] ++ b0⟩ K := by
  intro B
  refine RA.of2 hall hf hb (RA.stepH (L := [8, 16]) (Tell.of rfl) (by kernel_rfl) (by simp) (RA.each ?_ (RA.each ?_ (RA.each0))))
  refine RO.call rfl rfl (impl_entriesFrom_fn s.node.log ((srv0 s.node.id s.disk 20).applied) s.applied hs.lg rfl hs.a0) rfl (.cons (.agg (.cons (.r .r) (.cons (.r .r) (.cons (.r .r) (.nil))))) (.cons (.one (.r .r)) (.cons (.one (.r .r)) (.nil)))) rfl fun go23_8_1 => ?_
  exact RA.to2 hall hf hb (ro23_1 B go23_8_1) rfl rfl (by kernel_rfl)
  refine RO.alloc (ds := [.r (.v (.slice none 0 0)), .r (.v (.slice none 0 0))]) rfl rfl rfl rfl rfl rfl fun bo23_16_1 => ?_
  exact RA.to2 hall hf hb (ro23_2 B bo23_16_1) rfl rfl (by kernel_rfl)
 refine RA.start (by kernel_rfl) (by kernel_rfl) (m := 19) (ls' := (bt 19 0)) ?_
 refine RA.fr XK 124 8 [0,1,2,3,4,5,6,7,9,10,11] (bt 19 3839) rfl rfl (by kernel_rfl) (Tell.of rfl) ?_
 (conv=>whnf);refine ⟨rfl,fun B=>?_⟩
 exact RA.to2 hall hf hb (ro23_0 B) rfl rfl (by kernel_rfl)
 rintro ⟨bo23_16_1, go23_12_1, go23_8_1⟩
 refine CW.seqJ 124 (fun (v24 : Bool) => [(2, Bo v24)]) (fun v24 => v24 = ((((eqKeep ((srv0 s.node.id s.disk 20).keep) s.keep) && decide ((s.stage.size : Int) ≤ 20000)) && (inR s.stageAt 0 1000000)) && (inR s.stageTerm 0 100000))) ?_ ?_
 refine CW.g XK 124 [.o 3] rfl rfl rfl ?_
 refine RW.call rfl (impl_SameKeep_fn ((srv0 s.node.id s.disk 20).keep) s.keep) rfl (.cons (.agg (.cons (.r .r) (.cons (.r .r) (.nil)))) (.cons (.agg (.cons (.r .r) (.cons (.r .r) (.nil)))) (.nil))) fun g25 => ?_
 refine RW.g XK 124 [.o 1] rfl rfl rfl ?_
 refine RW.gv rfl rfl rfl rfl (fun h26 => V.fieldR rfl rfl rfl rfl (by decide) rfl (Nat.le_of_ble_eq_true rfl)) (fun h26 => ?_) (fun h26 => ?_)
 refine RW.g XK 124 [.o 5] rfl rfl rfl ?_
 refine RW.gv rfl rfl rfl rfl (fun h27 => V.fieldR rfl rfl rfl rfl (by decide) rfl (Nat.le_of_ble_eq_true rfl)) (fun h27 => ?_) (fun h27 => ?_)
 refine RW.g XK 124 [.o 1] rfl rfl rfl ?_
 refine RW.gcall rfl rfl rfl rfl (impl_isIndex_fn s.stageAt) rfl (.cons (.one (.r .r)) (.nil)) fun g28 => ?_
 refine RW.g XK 124 [.o 2] rfl rfl rfl ?_
 refine RW.gv rfl rfl rfl rfl (fun h29 => V.fieldR rfl rfl rfl rfl (by decide) rfl (Nat.le_of_ble_eq_true rfl)) (fun h29 => ?_) (fun h29 => ?_)
 refine RW.g XK 124 [.o 1] rfl rfl rfl ?_
 refine RW.gcall rfl rfl rfl rfl (impl_isTerm_fn s.stageTerm) rfl (.cons (.one (.r .r)) (.nil)) fun g30 => ?_
 refine RW.g XK 124 [.o 2,.p] rfl rfl rfl ?_
 exact ⟨_, by first | rfl | (simp_all; done) | (simp_all; omega) | grind, rfl, Le.of rfl⟩
 refine RW.g XK 124 [.o 4,.p] rfl rfl rfl ?_
 exact ⟨_, by first | rfl | (simp_all; done) | (simp_all; omega) | grind, rfl, Le.of rfl⟩
 refine RW.g XK 124 [.o 9,.p] rfl rfl rfl ?_
 exact ⟨_, by first | rfl | (simp_all; done) | (simp_all; omega) | grind, rfl, Le.of rfl⟩
 refine RW.g XK 124 [.o 15,.p] rfl rfl rfl ?_
 exact ⟨_, by first | rfl | (simp_all; done) | (simp_all; omega) | grind, rfl, Le.of rfl⟩
 intro v24 hv31
 refine CW.ret ?_
 exact Post.one (RV.b rfl (by rw [hv31]; exact hs.v3)) (AOs.a rfl AOs.e)
set_option maxHeartbeats 4000000 in
theorem laws_FnFormats_fn (code : List Int) : Eng.Fn E.P 3 [.one (.r (sl 1 cU code))] (.one (.one (.w (.v (.bool true))))) [.one (.r (sl 1 cU code))] := by
 refine Eng.Fn.intro (E := E) (rvs := [.tmp 2]) Tryz.func3 rfl rfl rfl (by simp [outSlots, moved, rvSlot, sl]) ?_
 intro B g bo
 refine CW.bound (x := .tmp 0) (n := code.length) (AsT.r) (fun hl0 => ?_)
 refine CW.g XK 64 [.e [0],.n 1,.e [0],.o 1] rfl rfl rfl ?_
 refine RW.call rfl (laws_big_fn code) rfl (.cons (.one (.r .r)) (.nil)) fun g1 => ?_
 refine RW.g XK 64 [.p,.e [0,10]] rfl rfl rfl ?_
 refine CW.cond rfl (fun h2 => ?_) (fun h2 => ?_)
 refine CW.g XK 64 [.n 1,.e [2]] rfl rfl rfl ?_
 refine CW.ret ?_
 exact Post.one (RV.b rfl (by rfl)) (AOs.r AOs.e)
 refine CW.g XK 64 [.p,.e [0],.o 1] rfl rfl rfl ?_
 refine RW.callX rfl (spec_DrawFormatDisk_fn code) rfl (.cons (.one (.r .r)) (.nil)) fun y3 g4 => ?_
 refine RW.assignMove rfl rfl rfl (by decide) (Nat.le_of_ble_eq_true rfl) (Nat.le_of_ble_eq_true rfl) ?_
 refine RW.g XK 64 [.p,.e [3],.o 1] rfl rfl rfl ?_
 refine RW.callOwn rfl (impl_FormatDisk_fn y3.1 (Nat.le_trans y3.2 (by decide))) rfl (.cons (.one (.r (.al (k := none) (i := 3) (sz := 1) (V := (g4 0 0)) rfl rfl nofun))) (.nil)) rfl fun g5 => ?_
 refine RW.h XK 64 [.o 5,.e [3,4,16,17]] rfl ?_;(conv=>whnf);intro b6;(conv=>whnf);refine ⟨rfl,?_⟩
 refine RW.pullA (k := 4) (l := 16) (j := 0) 4 16 0 rfl rfl rfl (by decide) rfl rfl rfl rfl ?_
 refine RW.g XK 64 [.e [3,4,17],.o 1,.p,.e [3,4,5],.o 2] rfl rfl rfl ?_
 refine RW.callOwn rfl (spec_ConfOk_fn y3.1) rfl (.cons (.one (.r (.al (k := none) (i := 3) (sz := 1) (V := (g4 0 0)) rfl rfl nofun))) (.nil)) rfl fun g7 => ?_
 refine RW.v rfl (V.eqBool rfl rfl rfl (by kernel_rfl) (.inr ⟨rfl, rfl⟩)) ?_
 refine RW.g XK 64 [.p,.e [3,4,5,21]] rfl rfl rfl ?_
 refine CW.cond rfl (fun h8 => ?_) (fun h8 => ?_)
 exact absurd h8 (by simp)
 refine CW.g XK 64 [.p,.e [3,4,5],.n 1,.e [3,4,23]] rfl rfl rfl ?_
 refine CW.cond rfl (fun h9 => ?_) (fun h9 => ?_)
 have hno := nT h9
 refine CW.g XK 64 [.n 1,.e [2]] rfl rfl rfl ?_
 refine CW.ret ?_
 exact Post.one (RV.b rfl (by rw [fd_no hno]; rfl)) (AOs.r AOs.e)
 have hc := nF h9
 refine CW.g XK 64 [.p,.e [3,4],.p,.p] rfl rfl rfl ?_
 refine RW.freeze 4 (d' := .obj b6 ((Disk.c (fdD y3.1)).map .r)) rfl rfl ?_
 refine RW.g XK 64 [.o 1] rfl rfl rfl ?_
 refine RW.call rfl (impl_Boot_fn 1 (fdD y3.1) 4 ⟨_, hc, rfl⟩ (by decide) (by decide)) rfl (.cons (.one (.r .r)) (.cons (.agg (.cons (.r .r) (.nil))) (.cons (.one (.r .r)) (.nil)))) fun g10 => ?_
 refine RW.h XK 64 [.o 6] rfl ?_;(conv=>whnf);intro b11;(conv=>whnf);refine ⟨rfl,?_⟩
 refine RW.freezeB (ts := [.v (.int .i64 (((srv0 1 (fdD y3.1) 4).node).id)), .v (.int .i64 (((srv0 1 (fdD y3.1) 4).node).term_)), .v (.int .i64 (((srv0 1 (fdD y3.1) 4).node).vote)), .v (.int .i64 (((srv0 1 (fdD y3.1) 4).node).role)), .v (.int .i64 (((srv0 1 (fdD y3.1) 4).node).lead)), sl 1 cI (((srv0 1 (fdD y3.1) 4).node).conf), .v (.int .i64 ((((srv0 1 (fdD y3.1) 4).node).log).start)), .v (.int .i64 ((((srv0 1 (fdD y3.1) 4).node).log).startTerm)), sl 3 Entry.c ((((srv0 1 (fdD y3.1) 4).node).log).entries), .v (.int .i64 (((srv0 1 (fdD y3.1) 4).node).commit)), .v (.int .i64 (((srv0 1 (fdD y3.1) 4).node).clock)), .v (.int .i64 (((srv0 1 (fdD y3.1) 4).node).limit)), sl 1 cI (((srv0 1 (fdD y3.1) 4).node).votes), sl 4 Peer.c (((srv0 1 (fdD y3.1) 4).node).peers), sl 3 File.c (((srv0 1 (fdD y3.1) 4).disk).files), .v (.int .i64 (((srv0 1 (fdD y3.1) 4).journal).number)), .v (.int .i64 (((srv0 1 (fdD y3.1) 4).journal).term_)), .v (.int .i64 (((srv0 1 (fdD y3.1) 4).journal).vote)), .v (.int .i64 ((((srv0 1 (fdD y3.1) 4).journal).log).start)), .v (.int .i64 ((((srv0 1 (fdD y3.1) 4).journal).log).startTerm)), sl 3 Entry.c ((((srv0 1 (fdD y3.1) 4).journal).log).entries), sl 3 Session.c (((srv0 1 (fdD y3.1) 4).keep).sessions), sl 3 Item.c (((srv0 1 (fdD y3.1) 4).keep).items), .v (.int .i64 ((srv0 1 (fdD y3.1) 4).applied)), .v (.string ((srv0 1 (fdD y3.1) 4).stage)), .v (.int .i64 ((srv0 1 (fdD y3.1) 4).stageAt)), .v (.int .i64 ((srv0 1 (fdD y3.1) 4).stageTerm))]) 6 rfl (DRd.r (DRd.r (DRd.r (DRd.r (DRd.r (DRd.r (DRd.r (DRd.r (DRd.r (DRd.r (DRd.r (DRd.r (DRd.r (DRd.r (DRd.r (DRd.r (DRd.r (DRd.r (DRd.r (DRd.r (DRd.r (DRd.r (DRd.r (DRd.r (DRd.r (DRd.r (DRd.r DRd.e))))))))))))))))))))))))))) ?_
 refine RW.assignMove rfl rfl rfl (by decide) (Nat.le_of_ble_eq_true rfl) (Nat.le_of_ble_eq_true rfl) ?_
 refine RW.g XK 64 [.o 1,.p,.e [3,6,7,8]] rfl rfl rfl ?_
 refine CW.seqJ 64 (fun (v12 : Bool) => [(2, Bo v12)]) (fun v12 => v12 = ((((((0 == 0) && ((([] : List Act).length : Int) == 0)) && (eqS eqI (((srv0 1 (fdD y3.1) 4).node).conf) y3.1)) && ((srv0 1 (fdD y3.1) 4).applied == 0)) && ((IntKind.i64.wrap ((((srv0 1 (fdD y3.1) 4).node).log).start + ((((srv0 1 (fdD y3.1) 4).node).log).entries.length : Int))) == 0)) && true)) ?_ ?_
 refine CW.g XK 64 [.o 3] rfl rfl rfl ?_
 refine RW.gv rfl rfl rfl rfl (fun h13 => V.mv (d := .al 7 none 4 (([] : List Act).length) (g10 1 0) 0) rfl rfl) (fun h13 => ?_) (fun h13 => ?_)
 refine RW.g XK 64 [.o 4] rfl rfl rfl ?_
 refine RW.gv rfl rfl rfl rfl (fun h14 => V.fieldR rfl rfl rfl rfl (by decide) rfl (Nat.le_of_ble_eq_true rfl)) (fun h14 => ?_) (fun h14 => ?_)
 refine RW.g XK 64 [.o 3] rfl rfl rfl ?_
 refine RW.gcallOwn rfl rfl rfl rfl (laws_sameInts_fn (((srv0 1 (fdD y3.1) 4).node).conf) y3.1) rfl (.cons (.one (.r .r)) (.cons (.one (.r (.al (k := none) (i := 3) (sz := 1) (V := (g4 0 0)) rfl rfl nofun))) (.nil))) rfl fun g15 => ?_
 refine RW.g XK 64 [.o 2] rfl rfl rfl ?_
 refine RW.gv rfl rfl rfl rfl (fun h16 => V.fieldR rfl rfl rfl rfl (by decide) rfl (Nat.le_of_ble_eq_true rfl)) (fun h16 => ?_) (fun h16 => ?_)
 refine RW.g XK 64 [.o 4] rfl rfl rfl ?_
 refine RW.gv rfl rfl rfl rfl (fun h17 => V.fieldR rfl rfl rfl rfl (by decide) rfl (Nat.le_of_ble_eq_true rfl)) (fun h17 => ?_) (fun h17 => ?_)
 refine RW.g XK 64 [.o 2] rfl rfl rfl ?_
 refine RW.gcall rfl rfl rfl rfl (laws_last_fn (((srv0 1 (fdD y3.1) 4).node).log)) rfl (.cons (.agg (.cons (.r .r) (.cons (.r .r) (.cons (.r .r) (.nil))))) (.nil)) fun g18 => ?_
 refine RW.g XK 64 [.o 3] rfl rfl rfl ?_
 refine RW.gv rfl rfl rfl rfl (fun h19 => V.loadAggR rfl rfl rfl rfl (Nat.le_of_ble_eq_true rfl)) (fun h19 => ?_) (fun h19 => ?_)
 refine RW.gcall rfl rfl rfl rfl (impl_ServerOk_fn (⟨((srv0 1 (fdD y3.1) 4).node), ((srv0 1 (fdD y3.1) 4).disk), ((srv0 1 (fdD y3.1) 4).journal), ((srv0 1 (fdD y3.1) 4).keep), (srv0 1 (fdD y3.1) 4).applied, (srv0 1 (fdD y3.1) 4).stage, (srv0 1 (fdD y3.1) 4).stageAt, (srv0 1 (fdD y3.1) 4).stageTerm⟩ : Server) ⟨_, _, _, rfl, ⟨_, hc, rfl⟩, by decide, by decide⟩) rfl (.cons (.agg (.cons (.r .r) (.cons (.r .r) (.cons (.r .r) (.cons (.r .r) (.cons (.r .r) (.cons (.r .r) (.cons (.r .r) (.cons (.r .r) (.cons (.r .r) (.cons (.r .r) (.cons (.r .r) (.cons (.r .r) (.cons (.r .r) (.cons (.r .r) (.cons (.r .r) (.cons (.r .r) (.cons (.r .r) (.cons (.r .r) (.cons (.r .r) (.cons (.r .r) (.cons (.r .r) (.cons (.r .r) (.cons (.r .r) (.cons (.r .r) (.cons (.r .r) (.cons (.r .r) (.cons (.r .r) (.nil))))))))))))))))))))))))))))) (.nil)) fun g20 => ?_
 refine RW.g XK 64 [.o 2,.p] rfl rfl rfl ?_
 exact ⟨_, by first | rfl | (simp_all; done) | (simp_all; omega) | grind, rfl, Le.of rfl⟩
 refine RW.g XK 64 [.o 3,.p] rfl rfl rfl ?_
 exact ⟨_, by first | rfl | (simp_all; done) | (simp_all; omega) | grind, rfl, Le.of rfl⟩
 refine RW.g XK 64 [.o 10,.p] rfl rfl rfl ?_
 exact ⟨_, by first | rfl | (simp_all; done) | (simp_all; omega) | grind, rfl, Le.of rfl⟩
 refine RW.g XK 64 [.o 15,.p] rfl rfl rfl ?_
 exact ⟨_, by first | rfl | (simp_all; done) | (simp_all; omega) | grind, rfl, Le.of rfl⟩
 refine RW.g XK 64 [.o 22,.p] rfl rfl rfl ?_
 exact ⟨_, by first | rfl | (simp_all; done) | (simp_all; omega) | grind, rfl, Le.of rfl⟩
 refine RW.g XK 64 [.o 27,.p] rfl rfl rfl ?_
 exact ⟨_, by first | rfl | (simp_all; done) | (simp_all; omega) | grind, rfl, Le.of rfl⟩
 intro v12 hv21
 refine CW.ret ?_
 exact Post.one (RV.b rfl (by rw [hv21]; exact ff_law hc)) (AOs.r AOs.e)
end Go.Proofs.YtaneihnomaagoaaGreatDoor.Y
