import Derived.Test.YtdipdkfbaehglaaGreatDoorWSoundS
namespace Go.Proofs.YtdipdkfbaehglaaGreatDoor.Y
open Go Go.RowKit Go.Eng Go.Proofs
set_option maxRecDepth 10000
set_option maxHeartbeats 4000000 in
theorem laws_FnExactSound_fn (a : World) (hok : okWorld a) : Eng.Fn E.P 5 [.agg ((World.c a).map .r)] (.one (.one (.w (.v (.bool true))))) [.agg ((World.c a).map .r)] := by
 refine Eng.Fn.intro (E := E) (rvs := [.tmp 2]) Tryz.func5 rfl rfl rfl (by simp [outSlots, moved, rvSlot, sl]) ?_
 intro B g bo
 refine CW.h XK 27 [.e [0],.o 1] rfl ?_;(conv=>whnf);intro b1;(conv=>whnf);refine ⟨rfl,?_⟩
 refine RW.freezeB (ts := (World.c a)) 1 rfl (DRd.r (DRd.r (DRd.r (DRd.r (DRd.r (DRd.r (DRd.r DRd.e))))))) ?_
 refine RW.g XK 27 [.o 1,.p,.e [1],.n 1,.e [1,3],.o 2] rfl rfl rfl ?_
 refine RW.call rfl (laws_szWorld_fn a 1048576) rfl (.cons (.agg (.cons (.r .r) (.cons (.r .r) (.cons (.r .r) (.cons (.r .r) (.cons (.r .r) (.cons (.r .r) (.cons (.r .r) (.nil))))))))) (.cons (.one (.r .r)) (.nil))) fun g2 => ?_
 refine RW.g XK 27 [.o 1,.p,.e [1,3],.n 1,.e [1,11]] rfl rfl rfl ?_
 refine CW.cond rfl (fun h3 => ?_) (fun h3 => ?_)
 refine CW.g XK 27 [.n 1,.e [2]] rfl rfl rfl ?_
 refine CW.ret ?_
 exact Post.one (RV.b rfl (by first | rfl | simp_all [eqWorld_refl])) (AOs.a rfl AOs.e)
 have hP : okToWorld a := (szWorld_ok a 1048576 hok (by omega) (by omega) (by simpa using h3)).1
 refine CW.g XK 27 [.p,.e [1],.o 1] rfl rfl rfl ?_
 refine RW.call rfl (laws_toWorld_fn a hP) rfl (.cons (.agg (.cons (.r .r) (.cons (.r .r) (.cons (.r .r) (.cons (.r .r) (.cons (.r .r) (.cons (.r .r) (.cons (.r .r) (.nil))))))))) (.nil)) fun g4 => ?_
 refine RW.callOwn rfl (spec_Sound_fn a hP) rfl (.cons (.agg (.cons (.r (.ala (k := none) (i := 13) (j := 0) (sz := 1) (V := (g4 0 0)) rfl rfl rfl nofun)) (.cons (.r (.ala (k := none) (i := 13) (j := 1) (sz := 27) (V := (g4 0 1)) rfl rfl rfl nofun)) (.cons (.r (.ala (k := none) (i := 13) (j := 2) (sz := 12) (V := (g4 0 2)) rfl rfl rfl nofun)) (.cons (.r (.ala (k := none) (i := 13) (j := 3) (sz := 4) (V := (g4 0 3)) rfl rfl rfl nofun)) (.cons (.r (.ala (k := none) (i := 13) (j := 4) (sz := 5) (V := (g4 0 4)) rfl rfl rfl nofun)) (.cons (.r (.ala (k := none) (i := 13) (j := 5) (sz := 6) (V := (g4 0 5)) rfl rfl rfl nofun)) (.cons (.r (.ala (k := none) (i := 13) (j := 6) (sz := 10) (V := (g4 0 6)) rfl rfl rfl nofun)) (.nil))))))))) (.nil)) rfl fun g5 => ?_
 refine RW.g XK 27 [.o 1,.p,.e [1,4],.o 1] rfl rfl rfl ?_
 refine RW.call rfl (laws_toWorld_fn a hP) rfl (.cons (.agg (.cons (.r .r) (.cons (.r .r) (.cons (.r .r) (.cons (.r .r) (.cons (.r .r) (.cons (.r .r) (.cons (.r .r) (.nil))))))))) (.nil)) fun g6 => ?_
 refine RW.h XK 27 [.o 2,.e [1,4,5,16]] rfl ?_;(conv=>whnf);intro b7;(conv=>whnf);refine ⟨rfl,?_⟩
 refine RW.pullA (k := 5) (l := 16) (j := 0) 5 16 0 rfl rfl rfl (by decide) rfl rfl rfl rfl ?_
 refine RW.g XK 27 [.e [1,4,5,16]] rfl rfl rfl ?_
 refine RW.pullA (k := 5) (l := 16) (j := 1) 5 16 1 rfl rfl rfl (by decide) rfl rfl rfl rfl ?_
 refine RW.g XK 27 [.e [1,4,5,16]] rfl rfl rfl ?_
 refine RW.pullA (k := 5) (l := 16) (j := 2) 5 16 2 rfl rfl rfl (by decide) rfl rfl rfl rfl ?_
 refine RW.g XK 27 [.e [1,4,5,16]] rfl rfl rfl ?_
 refine RW.pullA (k := 5) (l := 16) (j := 3) 5 16 3 rfl rfl rfl (by decide) rfl rfl rfl rfl ?_
 refine RW.g XK 27 [.e [1,4,5,16]] rfl rfl rfl ?_
 refine RW.pullA (k := 5) (l := 16) (j := 4) 5 16 4 rfl rfl rfl (by decide) rfl rfl rfl rfl ?_
 refine RW.g XK 27 [.e [1,4,5,16]] rfl rfl rfl ?_
 refine RW.pullA (k := 5) (l := 16) (j := 5) 5 16 5 rfl rfl rfl (by decide) rfl rfl rfl rfl ?_
 refine RW.g XK 27 [.e [1,4,5,16]] rfl rfl rfl ?_
 refine RW.pullA (k := 5) (l := 16) (j := 6) 5 16 6 rfl rfl rfl (by decide) rfl rfl rfl rfl ?_
 refine RW.g XK 27 [.e [1,4,5],.p,.e [1,4,5],.o 1] rfl rfl rfl ?_
 refine RW.callOwn rfl (impl_Sound_fn a hP) rfl (.cons (.agg (.cons (.r (.alo (k := none) (i := 5) (j := 0) (sz := 1) (V := (g6 0 0)) rfl rfl rfl nofun)) (.cons (.r (.alo (k := none) (i := 5) (j := 1) (sz := 27) (V := (g6 0 1)) rfl rfl rfl nofun)) (.cons (.r (.alo (k := none) (i := 5) (j := 2) (sz := 12) (V := (g6 0 2)) rfl rfl rfl nofun)) (.cons (.r (.alo (k := none) (i := 5) (j := 3) (sz := 4) (V := (g6 0 3)) rfl rfl rfl nofun)) (.cons (.r (.alo (k := none) (i := 5) (j := 4) (sz := 5) (V := (g6 0 4)) rfl rfl rfl nofun)) (.cons (.r (.alo (k := none) (i := 5) (j := 5) (sz := 6) (V := (g6 0 5)) rfl rfl rfl nofun)) (.cons (.r (.alo (k := none) (i := 5) (j := 6) (sz := 10) (V := (g6 0 6)) rfl rfl rfl nofun)) (.nil))))))))) (.nil)) rfl fun g8 => ?_
 refine RW.g XK 27 [.o 1,.p,.e [1,4,5,6],.o 2] rfl rfl rfl ?_
 refine RW.v rfl (V.eqBool rfl rfl rfl (by kernel_rfl) (.inr ⟨rfl, rfl⟩)) ?_
 refine RW.g XK 27 [.p,.e [1,5,21]] rfl rfl rfl ?_
 refine CW.cond rfl (fun h9 => ?_) (fun h9 => ?_)
 refine CW.g XK 27 [.n 1,.e [2]] rfl rfl rfl ?_
 refine CW.ret ?_
 exact Post.one (RV.b rfl (by first | rfl | simp_all [eqWorld_refl])) (AOs.a rfl AOs.e)
 refine CW.g XK 27 [.p,.e [1,5],.p] rfl rfl rfl ?_
 refine CW.anyJ2 (fc := [(5, b7, [(g6 0 0), (g6 0 1), (g6 0 2), (g6 0 3), (g6 0 4), (g6 0 5), (g6 0 6)])]) (L0 := [(5, .obj b7 [.w (sl 1 cB a.up) (g6 0 0), .w (sl 27 Server.c a.servers) (g6 0 1), .w (sl 12 Message.c a.net) (g6 0 2), .w (sl 4 Wait.c a.waits) (g6 0 3), .w (sl 5 Leader.c a.leaders) (g6 0 4), .w (sl 6 Applied.c a.applied) (g6 0 5), .w (sl 10 Reply.c a.replies) (g6 0 6)])]) 27 (fun (zz : (Nat → Nat → Value) × (Nat → Nat → Value)) => match zz with | (go10_2_1, go10_3_1) => [(26, Bo (!(eqWorld a a)))]) (fun all hall f hf b0 hb K hK => ?_) ?_
 have ro10_2 : ∀ B, ∀ (go10_2_1 : Nat → Nat → Value), ∀ (go10_3_1 : Nat → Nat → Value), RA f E B all 0 (bt 5 31) ⟨27, [(26, Bo (!(eqWorld a a)))] ++ b0⟩ K := by
  intro B go10_2_1 go10_3_1
  exact RA.of2 hall hf hb (RA.finH (Tell.of rfl) (by kernel_rfl) (hK (go10_2_1, go10_3_1) _ rfl (Le.of rfl)))
 have ro10_1 : ∀ B, ∀ (go10_2_1 : Nat → Nat → Value), RA f E B all 2 (bt 5 7) ⟨27, [(22, .agg [.al 5 (some 0) 1 a.up.length (g6 0 0) 0, .al 5 (some 1) 27 a.servers.length (g6 0 1) 0, .al 5 (some 2) 12 a.net.length (g6 0 2) 0, .al 5 (some 3) 4 a.waits.length (g6 0 3) 0, .al 5 (some 4) 5 a.leaders.length (g6 0 4) 0, .al 5 (some 5) 6 a.applied.length (g6 0 5) 0, .al 5 (some 6) 10 a.replies.length (g6 0 6) 0]), (24, .agg [.w (sl 1 cB a.up) (go10_2_1 0 0), .w (sl 27 Server.c a.servers) (go10_2_1 0 1), .w (sl 12 Message.c a.net) (go10_2_1 0 2), .w (sl 4 Wait.c a.waits) (go10_2_1 0 3), .w (sl 5 Leader.c a.leaders) (go10_2_1 0 4), .w (sl 6 Applied.c a.applied) (go10_2_1 0 5), .w (sl 10 Reply.c a.replies) (go10_2_1 0 6)])] ++ b0⟩ K := by
  intro B go10_2_1
  refine RA.of2 hall hf hb (RA.stepH (L := [3]) (Tell.of rfl) (by kernel_rfl) (by simp) (RA.each ?_ (RA.each0)))
  refine RO.callOwn rfl rfl (laws_eqWorld_fn a a) rfl (.cons (.agg (.cons (.r (.alo (k := none) (i := 5) (j := 0) (sz := 1) (V := (g6 0 0)) rfl rfl rfl nofun)) (.cons (.r (.alo (k := none) (i := 5) (j := 1) (sz := 27) (V := (g6 0 1)) rfl rfl rfl nofun)) (.cons (.r (.alo (k := none) (i := 5) (j := 2) (sz := 12) (V := (g6 0 2)) rfl rfl rfl nofun)) (.cons (.r (.alo (k := none) (i := 5) (j := 3) (sz := 4) (V := (g6 0 3)) rfl rfl rfl nofun)) (.cons (.r (.alo (k := none) (i := 5) (j := 4) (sz := 5) (V := (g6 0 4)) rfl rfl rfl nofun)) (.cons (.r (.alo (k := none) (i := 5) (j := 5) (sz := 6) (V := (g6 0 5)) rfl rfl rfl nofun)) (.cons (.r (.alo (k := none) (i := 5) (j := 6) (sz := 10) (V := (g6 0 6)) rfl rfl rfl nofun)) (.nil))))))))) (.cons (.agg (.cons (.r (.ala (k := none) (i := 24) (j := 0) (sz := 1) (V := (go10_2_1 0 0)) rfl rfl rfl nofun)) (.cons (.r (.ala (k := none) (i := 24) (j := 1) (sz := 27) (V := (go10_2_1 0 1)) rfl rfl rfl nofun)) (.cons (.r (.ala (k := none) (i := 24) (j := 2) (sz := 12) (V := (go10_2_1 0 2)) rfl rfl rfl nofun)) (.cons (.r (.ala (k := none) (i := 24) (j := 3) (sz := 4) (V := (go10_2_1 0 3)) rfl rfl rfl nofun)) (.cons (.r (.ala (k := none) (i := 24) (j := 4) (sz := 5) (V := (go10_2_1 0 4)) rfl rfl rfl nofun)) (.cons (.r (.ala (k := none) (i := 24) (j := 5) (sz := 6) (V := (go10_2_1 0 5)) rfl rfl rfl nofun)) (.cons (.r (.ala (k := none) (i := 24) (j := 6) (sz := 10) (V := (go10_2_1 0 6)) rfl rfl rfl nofun)) (.nil))))))))) (.nil))) rfl rfl fun go10_3_1 => ?_
  refine RA.fr XK 27 0 [4] (bt 5 31) rfl rfl (by kernel_rfl) (Tell.of rfl) ?_
  (conv=>whnf);refine ⟨rfl,fun B=>?_⟩
  exact RA.to2 hall hf hb (ro10_2 B go10_2_1 go10_3_1) rfl rfl (by kernel_rfl)
 have ro10_0 : ∀ B, RA f E B all 3 (bt 5 3) ⟨27, [(22, .agg [.al 5 (some 0) 1 a.up.length (g6 0 0) 0, .al 5 (some 1) 27 a.servers.length (g6 0 1) 0, .al 5 (some 2) 12 a.net.length (g6 0 2) 0, .al 5 (some 3) 4 a.waits.length (g6 0 3) 0, .al 5 (some 4) 5 a.leaders.length (g6 0 4) 0, .al 5 (some 5) 6 a.applied.length (g6 0 5) 0, .al 5 (some 6) 10 a.replies.length (g6 0 6) 0]), (23, .agg ((World.c a).map .r))] ++ b0⟩ K := by
  intro B
  refine RA.of2 hall hf hb (RA.stepH (L := [2]) (Tell.of rfl) (by kernel_rfl) (by simp) (RA.each ?_ (RA.each0)))
  refine RO.call rfl rfl (laws_toWorld_fn a hP) rfl (.cons (.agg (.cons (.r .r) (.cons (.r .r) (.cons (.r .r) (.cons (.r .r) (.cons (.r .r) (.cons (.r .r) (.cons (.r .r) (.nil))))))))) (.nil)) rfl fun go10_2_1 => ?_
  exact RA.to2 hall hf hb (ro10_1 B go10_2_1) rfl rfl (by kernel_rfl)
 refine RA.start (by kernel_rfl) (by kernel_rfl) (m := 5) (ls' := (bt 5 0)) ?_
 refine RA.fr XK 27 3 [0,1] (bt 5 3) rfl rfl (by kernel_rfl) (Tell.of rfl) ?_
 (conv=>whnf);refine ⟨rfl,fun B=>?_⟩
 exact RA.to2 hall hf hb (ro10_0 B) rfl rfl (by kernel_rfl)
 rintro ⟨go10_2_1, go10_3_1⟩
 refine CW.cond rfl (fun h11 => ?_) (fun h11 => ?_)
 refine CW.g XK 27 [.n 1,.e [2]] rfl rfl rfl ?_
 refine CW.ret ?_
 exact Post.one (RV.b rfl (by first | rfl | simp_all [eqWorld_refl])) (AOs.a rfl AOs.e)
 refine CW.g XK 27 [.p,.e [],.n 1,.e [2]] rfl rfl rfl ?_
 refine CW.ret ?_
 exact Post.one (RV.b rfl (by first | rfl | simp_all [eqWorld_refl])) (AOs.a rfl AOs.e)
end Go.Proofs.YtdipdkfbaehglaaGreatDoor.Y
