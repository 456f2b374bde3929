import Derived.Test.YtaeagpakloggfaaDoorWShowKeepA
namespace Go.Proofs.YtaeagpakloggfaaDoor.Y
open Go Go.RowKit Go.Eng Go.Proofs
set_option maxRecDepth 10000
set_option maxHeartbeats 4000000 in
theorem laws_FnExactShowKeep_fn (a : Keep) (hok : okKeep a) : Eng.Fn E.P 3 [.agg ((Keep.c a).map .r)] (.one (.one (.w (.v (.bool true))))) [.agg ((Keep.c a).map .r)] := by
 refine Eng.Fn.intro (E := E) (rvs := [.tmp 2]) Tryd.func3 rfl rfl rfl (by simp [outSlots, moved, rvSlot, sl]) ?_
 intro B g bo
 refine CW.keep 27 [0] rfl ?_;(conv=>whnf);refine ⟨?_⟩
 refine CW.seq ?_
 refine CW.region ?_
 refine RW.k XK 27 1 rfl ?_
 (conv=>whnf);intro b1;(conv=>whnf);refine ⟨rfl,?_⟩
 refine RW.freezeB (ts := (Keep.c a)) 1 rfl (DRd.r (DRd.r DRd.e)) ?_
 refine RW.k XK 27 1 rfl ?_
 (conv=>whnf);refine ⟨rfl,?_⟩
 refine RW.nil ?_
 refine CW.keep 27 [1] rfl ?_;(conv=>whnf);refine ⟨?_⟩
 refine CW.k XK 27 1 [1,3] rfl ?_
 (conv=>whnf);refine ⟨rfl,?_⟩
 refine CW.seq ?_
 refine CW.region ?_
 refine RW.k XK 27 2 rfl ?_
 (conv=>whnf);refine ⟨rfl,?_⟩
 refine RW.call rfl (laws_szKeep_fn a 1048576) rfl (.cons (.agg (.cons (.r .r) (.cons (.r .r) (.nil)))) (.cons (.one (.r .r)) (.nil))) fun g2 => ?_
 refine RW.k XK 27 1 rfl ?_
 (conv=>whnf);refine ⟨rfl,?_⟩
 refine RW.nil ?_
 refine CW.keep 27 [1,3] rfl ?_;(conv=>whnf);refine ⟨?_⟩
 refine CW.seq ?_
 refine CW.k XK 27 1 [1,11] rfl ?_
 (conv=>whnf);refine ⟨rfl,?_⟩
 refine CW.cond rfl (fun h3 => ?_) (fun h3 => ?_)
 ·skip
  refine CW.k XK 27 1 [2] rfl ?_
  (conv=>whnf);refine ⟨rfl,?_⟩
  refine CW.ret ?_
  exact Post.one (RV.b rfl (by first | rfl | simp_all [eqKeep_refl])) (AOs.a rfl AOs.e)
 ·skip
  refine CW.skip ?_
  refine CW.keep 27 [1] rfl ?_;(conv=>whnf);refine ⟨?_⟩
  refine CW.seq ?_
  refine CW.region ?_
  refine RW.k XK 27 1 rfl ?_
  (conv=>whnf);refine ⟨rfl,?_⟩
  refine RW.call rfl (laws_toKeep_fn a (szKeep_ok a 1048576 hok (by omega) (by omega) (by simpa using h3)).1) rfl (.cons (.agg (.cons (.r .r) (.cons (.r .r) (.nil)))) (.nil)) fun g4 => ?_
  refine RW.callOwn rfl (spec_ShowKeep_fn a (szKeep_ok a 1048576 hok (by omega) (by omega) (by simpa using h3)).1) rfl (.cons (.agg (.cons (.r (.ala (k := none) (i := 13) (j := 0) (sz := 3) (V := (g4 0 0)) rfl rfl rfl nofun)) (.cons (.r (.ala (k := none) (i := 13) (j := 1) (sz := 3) (V := (g4 0 1)) rfl rfl rfl nofun)) (.nil)))) (.nil)) rfl fun g5 => ?_
  refine RW.k XK 27 1 rfl ?_
  (conv=>whnf);refine ⟨rfl,?_⟩
  refine RW.nil ?_
  refine CW.keep 27 [1,4] rfl ?_;(conv=>whnf);refine ⟨?_⟩
  refine CW.seq ?_
  refine CW.region ?_
  refine RW.k XK 27 1 rfl ?_
  (conv=>whnf);refine ⟨rfl,?_⟩
  refine RW.call rfl (laws_toKeep_fn a (szKeep_ok a 1048576 hok (by omega) (by omega) (by simpa using h3)).1) rfl (.cons (.agg (.cons (.r .r) (.cons (.r .r) (.nil)))) (.nil)) fun g6 => ?_
  refine RW.k XK 27 2 rfl ?_
  (conv=>whnf);intro b7;(conv=>whnf);refine ⟨rfl,?_⟩
  refine RW.keep 27 [1,4,5,16] rfl ?_;(conv=>whnf);refine ⟨?_⟩
  refine RW.pullA (k := 5) (l := 16) (j := 0) 5 16 0 rfl rfl rfl (by decide) rfl rfl rfl rfl ?_
  refine RW.keep 27 [1,4,5,16] rfl ?_;(conv=>whnf);refine ⟨?_⟩
  refine RW.pullA (k := 5) (l := 16) (j := 1) 5 16 1 rfl rfl rfl (by decide) rfl rfl rfl rfl ?_
  refine RW.keep 27 [1,4,5] rfl ?_;(conv=>whnf);refine ⟨?_⟩
  refine RW.nil ?_
  refine CW.keep 27 [1,4,5] rfl ?_;(conv=>whnf);refine ⟨?_⟩
  refine CW.seq ?_
  refine CW.region ?_
  refine RW.k XK 27 1 rfl ?_
  (conv=>whnf);refine ⟨rfl,?_⟩
  refine RW.callOwn rfl (impl_ShowKeep_fn a (szKeep_ok a 1048576 hok (by omega) (by omega) (by simpa using h3)).1) rfl (.cons (.agg (.cons (.r (.alo (k := none) (i := 5) (j := 0) (sz := 3) (V := (g6 0 0)) rfl rfl rfl nofun)) (.cons (.r (.alo (k := none) (i := 5) (j := 1) (sz := 3) (V := (g6 0 1)) rfl rfl rfl nofun)) (.nil)))) (.nil)) rfl fun g8 => ?_
  refine RW.k XK 27 1 rfl ?_
  (conv=>whnf);refine ⟨rfl,?_⟩
  refine RW.nil ?_
  refine CW.keep 27 [1,4,5,6] rfl ?_;(conv=>whnf);refine ⟨?_⟩
  refine CW.seq ?_
  refine CW.k XK 27 1 [1,5,21] rfl ?_
  (conv=>whnf);refine ⟨rfl,?_⟩
  refine CW.cond rfl (fun h9 => ?_) (fun h9 => ?_)
  ·skip
   refine CW.k XK 27 1 [2] rfl ?_
   (conv=>whnf);refine ⟨rfl,?_⟩
   refine CW.ret ?_
   exact Post.one (RV.b rfl (by first | rfl | simp_all [eqKeep_refl])) (AOs.a rfl AOs.e)
  ·skip
   refine CW.skip ?_
   refine CW.keep 27 [1,5] rfl ?_;(conv=>whnf);refine ⟨?_⟩
   refine CW.seq ?_
   refine CW.anyJ2 (fc := [(5, b7, [(g6 0 0), (g6 0 1)])]) (L0 := [(5, .obj b7 [.w (sl 3 Session.c a.sessions) (g6 0 0), .w (sl 3 Item.c a.items) (g6 0 1)])]) 27 (fun (zz : (Nat → Nat → Value) × (Nat → Nat → Value)) => match zz with | (go10_2_1, go10_3_1) => [(26, Bo (!(eqKeep a a)))]) (fun all hall f hf b0 hb K hK => ?_) ?_
   ·skip
    have ro10_2 : ∀ B, ∀ (go10_2_1 : Nat → Nat → Value), ∀ (go10_3_1 : Nat → Nat → Value), RA f E B all 0 (bt 5 31) ⟨27, [(26, Bo (!(eqKeep a a)))] ++ b0⟩ K := by
     intro B go10_2_1 go10_3_1
     exact RA.of2 hall hf hb (RA.finH (Tell.of rfl) (by kernel_rfl) (hK (go10_2_1, go10_3_1) _ rfl (Le.of rfl)))
    have ro10_1 : ∀ B, ∀ (go10_2_1 : Nat → Nat → Value), RA f E B all 2 (bt 5 7) ⟨27, [(22, .agg [.al 5 (some 0) 3 a.sessions.length (g6 0 0) 0, .al 5 (some 1) 3 a.items.length (g6 0 1) 0]), (24, .agg [.w (sl 3 Session.c a.sessions) (go10_2_1 0 0), .w (sl 3 Item.c a.items) (go10_2_1 0 1)])] ++ b0⟩ K := by
     intro B go10_2_1
     refine RA.of2 hall hf hb (RA.stepH (L := [3]) (Tell.of rfl) (by kernel_rfl) (by simp) (RA.each ?_ (RA.each0)))
     ·skip
      refine RO.callOwn rfl rfl (laws_eqKeep_fn a a) rfl (.cons (.agg (.cons (.r (.alo (k := none) (i := 5) (j := 0) (sz := 3) (V := (g6 0 0)) rfl rfl rfl nofun)) (.cons (.r (.alo (k := none) (i := 5) (j := 1) (sz := 3) (V := (g6 0 1)) rfl rfl rfl nofun)) (.nil)))) (.cons (.agg (.cons (.r (.ala (k := none) (i := 24) (j := 0) (sz := 3) (V := (go10_2_1 0 0)) rfl rfl rfl nofun)) (.cons (.r (.ala (k := none) (i := 24) (j := 1) (sz := 3) (V := (go10_2_1 0 1)) rfl rfl rfl nofun)) (.nil)))) (.nil))) rfl rfl fun go10_3_1 => ?_
      refine RA.fr XK 27 0 [4] (bt 5 31) rfl rfl (by kernel_rfl) (Tell.of rfl) ?_
      (conv=>whnf);refine ⟨rfl,fun B=>?_⟩
      exact RA.to2 hall hf hb (ro10_2 B go10_2_1 go10_3_1) rfl rfl (by kernel_rfl)
    have ro10_0 : ∀ B, RA f E B all 3 (bt 5 3) ⟨27, [(22, .agg [.al 5 (some 0) 3 a.sessions.length (g6 0 0) 0, .al 5 (some 1) 3 a.items.length (g6 0 1) 0]), (23, .agg ((Keep.c a).map .r))] ++ b0⟩ K := by
     intro B
     refine RA.of2 hall hf hb (RA.stepH (L := [2]) (Tell.of rfl) (by kernel_rfl) (by simp) (RA.each ?_ (RA.each0)))
     ·skip
      refine RO.call rfl rfl (laws_toKeep_fn a (szKeep_ok a 1048576 hok (by omega) (by omega) (by simpa using h3)).1) rfl (.cons (.agg (.cons (.r .r) (.cons (.r .r) (.nil)))) (.nil)) rfl fun go10_2_1 => ?_
      exact RA.to2 hall hf hb (ro10_1 B go10_2_1) rfl rfl (by kernel_rfl)
    refine RA.start (by kernel_rfl) (by kernel_rfl) (m := 5) (ls' := (bt 5 0)) ?_
    refine RA.fr XK 27 3 [0,1] (bt 5 3) rfl rfl (by kernel_rfl) (Tell.of rfl) ?_
    (conv=>whnf);refine ⟨rfl,fun B=>?_⟩
    exact RA.to2 hall hf hb (ro10_0 B) rfl rfl (by kernel_rfl)
   ·rintro ⟨go10_2_1, go10_3_1⟩
    refine CW.cond rfl (fun h11 => ?_) (fun h11 => ?_)
    ·skip
     refine CW.k XK 27 1 [2] rfl ?_
     (conv=>whnf);refine ⟨rfl,?_⟩
     refine CW.ret ?_
     exact Post.one (RV.b rfl (by first | rfl | simp_all [eqKeep_refl])) (AOs.a rfl AOs.e)
    ·skip
     refine CW.skip ?_
     refine CW.keep 27 [] rfl ?_;(conv=>whnf);refine ⟨?_⟩
     refine CW.k XK 27 1 [2] rfl ?_
     (conv=>whnf);refine ⟨rfl,?_⟩
     refine CW.ret ?_
     exact Post.one (RV.b rfl (by first | rfl | simp_all [eqKeep_refl])) (AOs.a rfl AOs.e)
end Go.Proofs.YtaeagpakloggfaaDoor.Y
