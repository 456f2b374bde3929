import Derived.Test.YtdipdkfbaehglaaGreatDoorWSoundC
namespace Go.Proofs.YtdipdkfbaehglaaGreatDoor.Y
open Go Go.RowKit Go.Eng Go.Proofs
set_option maxRecDepth 10000
set_option maxHeartbeats 4000000 in
theorem spec_l16Short_fn (s : ByteArray) (hs : s.size ≤ 1048576) : Eng.Fn E.P 104 [.one (.r (.v (.string s)))] (.one (.one (.w (.v (.string (shB s)))))) [.one (.r (.v (.string s)))] := by
 refine Eng.Fn.intro (E := E) (rvs := [.tmp 2]) Tryz.func104 rfl rfl rfl (by simp [outSlots, moved, rvSlot, sl]) ?_
 intro B g bo
 refine CW.g XK 8 [.e [0],.n 1,.e [0],.o 2] rfl rfl rfl ?_
 refine RW.call rfl (spec_l01Var_fn (s.size : Int) ⟨by omega, by omega⟩) rfl (.cons (.one (.r .r)) (.nil)) fun g1 => ?_
 refine RW.g XK 8 [.o 1] rfl rfl rfl ?_
 refine RW.v rfl (V.cat rfl rfl rfl (by have h9 := varB_len9 (n := s.size) (by omega); simp only [maxLen, Int.toNat_natCast]; omega)) ?_
 refine RW.g XK 8 [.o 1,.p,.e [2]] rfl rfl rfl ?_
 refine CW.ret ?_
 exact Post.one (RV.s rfl (by rfl)) (AOs.r AOs.e)
set_option maxHeartbeats 4000000 in
theorem spec_CommandText_fn (x : Command) : Eng.Fn E.P 66 [.agg ((Command.c x).map .r)] (.tup [.one (.w (.v (.string ((cmdT x).1)))), .one (.w (.v (.bool ((cmdT x).2))))]) [.agg ((Command.c x).map .r)] := by
 refine Eng.Fn.intro (E := E) (rvs := [.tmp 2, .tmp 3]) Tryz.func66 rfl rfl rfl (by simp [outSlots, moved, rvSlot, sl]) ?_
 intro B g bo
 refine CW.h XK 32 [.e [0],.o 1] rfl ?_;(conv=>whnf);intro b1;(conv=>whnf);refine ⟨rfl,?_⟩
 refine RW.freezeB (ts := (Command.c x)) 1 rfl (DRd.r (DRd.r (DRd.r (DRd.r (DRd.r (DRd.r DRd.e)))))) ?_
 refine RW.g XK 32 [.o 2,.p,.e [1],.o 1] rfl rfl rfl ?_
 refine RW.call rfl (spec_CommandOk_fn x) rfl (.cons (.agg (.cons (.r .r) (.cons (.r .r) (.cons (.r .r) (.cons (.r .r) (.cons (.r .r) (.cons (.r .r) (.nil)))))))) (.nil)) fun g2 => ?_
 refine RW.g XK 32 [.o 1,.p,.e [1,6]] rfl rfl rfl ?_
 refine CW.cond rfl (fun h3 => ?_) (fun h3 => ?_)
 refine CW.g XK 32 [.n 1,.e [2,3]] rfl rfl rfl ?_
 refine CW.ret ?_
 exact Post.tup (by decide) (RVs.c (RV.s rfl (by rw [cmdT, if_neg (by rw [nT h3]; simp)] <;> rfl)) (RVs.c (RV.b rfl (by rw [cmdT, if_neg (by rw [nT h3]; simp)] <;> rfl)) RVs.e)) (AOs.a rfl AOs.e)
 have cin := CSz.of (nF h3)
 refine CW.g XK 32 [.p,.e [1]] rfl rfl rfl ?_
 refine CW.anyJ2 (fc := []) (L0 := []) 32 (fun (zz : Value × (Nat → Nat → Value) × (Nat → Nat → Value) × (Nat → Nat → Value) × (Nat → Nat → Value) × (Nat → Nat → Value)) => match zz with | (Xo4_3_1, go4_11_1, go4_15_1, go4_19_1, go4_23_1, go4_7_1) => [(2, S ((((((bytesOf ([(IntKind.u8.wrap x.op)])) ++ (varB x.token.toNat)) ++ (varB x.seq.toNat)) ++ (shB x.key)) ++ (shB x.val)) ++ (varB x.ver.toNat))), (3, Bo true)]) (fun all hall f hf b0 hb K hK => ?_) ?_
 have ro4_17 : ∀ B, ∀ (Xo4_3_1 : Value), ∀ (go4_11_1 : Nat → Nat → Value), ∀ (go4_15_1 : Nat → Nat → Value), ∀ (go4_19_1 : Nat → Nat → Value), ∀ (go4_23_1 : Nat → Nat → Value), ∀ (go4_7_1 : Nat → Nat → Value), RA f E B all 0 (bt 27 134217727) ⟨32, [(2, S ((((((bytesOf ([(IntKind.u8.wrap x.op)])) ++ (varB x.token.toNat)) ++ (varB x.seq.toNat)) ++ (shB x.key)) ++ (shB x.val)) ++ (varB x.ver.toNat))), (3, Bo true)] ++ b0⟩ K := by
  intro B Xo4_3_1 go4_11_1 go4_15_1 go4_19_1 go4_23_1 go4_7_1
  exact RA.of2 hall hf hb (RA.finH (Tell.of rfl) (by kernel_rfl) (hK (Xo4_3_1, go4_11_1, go4_15_1, go4_19_1, go4_23_1, go4_7_1) _ rfl (Le.of rfl)))
 have ro4_16 : ∀ B, ∀ (Xo4_3_1 : Value), ∀ (go4_11_1 : Nat → Nat → Value), ∀ (go4_15_1 : Nat → Nat → Value), ∀ (go4_19_1 : Nat → Nat → Value), ∀ (go4_7_1 : Nat → Nat → Value), RA f E B all 4 (bt 27 8388607) ⟨32, [(27, S (((((bytesOf ([(IntKind.u8.wrap x.op)])) ++ (varB x.token.toNat)) ++ (varB x.seq.toNat)) ++ (shB x.key)) ++ (shB x.val))), (29, I x.ver)] ++ b0⟩ K := by
  intro B Xo4_3_1 go4_11_1 go4_15_1 go4_19_1 go4_7_1
  refine RA.of2 hall hf hb (RA.stepH (L := [23]) (Tell.of rfl) (by kernel_rfl) (by simp) (RA.each ?_ (RA.each0)))
  refine RO.call rfl rfl (spec_l01Var_fn x.ver q24) rfl (.cons (.one (.r .r)) (.nil)) rfl fun go4_23_1 => ?_
  refine RA.first (i := 24) (ls' := (bt 27 33554431)) (Tell.of rfl) (by kernel_rfl) rfl rfl rfl (VF.p (V.cat rfl rfl rfl q4)) ?_
  refine RA.fr XK 32 0 [25,26] (bt 27 134217727) rfl rfl (by kernel_rfl) (Tell.of rfl) ?_
  (conv=>whnf);refine ⟨rfl,fun B=>?_⟩
  exact RA.to2 hall hf hb (ro4_17 B Xo4_3_1 go4_11_1 go4_15_1 go4_19_1 go4_23_1 go4_7_1) rfl rfl (by kernel_rfl)
 have ro4_15 : ∀ B, ∀ (Xo4_3_1 : Value), ∀ (go4_11_1 : Nat → Nat → Value), ∀ (go4_15_1 : Nat → Nat → Value), ∀ (go4_7_1 : Nat → Nat → Value), RA f E B all 6 (bt 27 6815743) ⟨32, [(23, S ((((bytesOf ([(IntKind.u8.wrap x.op)])) ++ (varB x.token.toNat)) ++ (varB x.seq.toNat)) ++ (shB x.key))), (25, S x.val), (29, I x.ver)] ++ b0⟩ K := by
  intro B Xo4_3_1 go4_11_1 go4_15_1 go4_7_1
  refine RA.of2 hall hf hb (RA.stepH (L := [19]) (Tell.of rfl) (by kernel_rfl) (by simp) (RA.each ?_ (RA.each0)))
  refine RO.call rfl rfl (spec_l16Short_fn x.val (by first | exact cin.k | exact cin.l)) rfl (.cons (.one (.r .r)) (.nil)) rfl fun go4_19_1 => ?_
  refine RA.first (i := 20) (ls' := (bt 27 8388607)) (Tell.of rfl) (by kernel_rfl) rfl rfl rfl (VF.p (V.cat rfl rfl rfl q4)) ?_
  exact RA.to2 hall hf hb (ro4_16 B Xo4_3_1 go4_11_1 go4_15_1 go4_19_1 go4_7_1) rfl rfl (by kernel_rfl)
 have ro4_14 : ∀ B, ∀ (Xo4_3_1 : Value), ∀ (go4_11_1 : Nat → Nat → Value), ∀ (go4_15_1 : Nat → Nat → Value), ∀ (go4_19_1 : Nat → Nat → Value), ∀ (go4_23_1 : Nat → Nat → Value), ∀ (go4_7_1 : Nat → Nat → Value), RA f E B all 8 (bt 27 15658735) ⟨32, [(10, .w (sl 1 cU ([(IntKind.u8.wrap x.op)])) Xo4_3_1), (14, S (varB x.token.toNat)), (18, S (varB x.seq.toNat)), (22, S (shB x.key)), (26, S (shB x.val)), (30, S (varB x.ver.toNat))] ++ b0⟩ K := by
  intro B Xo4_3_1 go4_11_1 go4_15_1 go4_19_1 go4_23_1 go4_7_1
  refine RA.of2 hall hf hb (RA.stepH (L := [4]) (Tell.of rfl) (by kernel_rfl) (by simp) (RA.each ?_ (RA.each0)))
  refine RO.v rfl rfl (V.bytesStr (l := [(IntKind.u8.wrap x.op)]) rfl rfl rfl (by kernel_rfl) (by kernel_rfl) (.al (k := none) (i := 10) (sz := 1) (V := Xo4_3_1) rfl rfl nofun)) rfl ?_
  refine RA.first (i := 8) (ls' := (bt 27 15659007)) (Tell.of rfl) (by kernel_rfl) rfl rfl rfl (VF.p (V.cat rfl rfl rfl q4)) ?_
  refine RA.first (i := 12) (ls' := (bt 27 15663103)) (Tell.of rfl) (by kernel_rfl) rfl rfl rfl (VF.p (V.cat rfl rfl rfl q4)) ?_
  refine RA.first (i := 16) (ls' := (bt 27 15728639)) (Tell.of rfl) (by kernel_rfl) rfl rfl rfl (VF.p (V.cat rfl rfl rfl q4)) ?_
  refine RA.first (i := 20) (ls' := (bt 27 16777215)) (Tell.of rfl) (by kernel_rfl) rfl rfl rfl (VF.p (V.cat rfl rfl rfl q4)) ?_
  refine RA.first (i := 24) (ls' := (bt 27 33554431)) (Tell.of rfl) (by kernel_rfl) rfl rfl rfl (VF.p (V.cat rfl rfl rfl q4)) ?_
  refine RA.fr XK 32 0 [25,26] (bt 27 134217727) rfl rfl (by kernel_rfl) (Tell.of rfl) ?_
  (conv=>whnf);refine ⟨rfl,fun B=>?_⟩
  exact RA.to2 hall hf hb (ro4_17 B Xo4_3_1 go4_11_1 go4_15_1 go4_19_1 go4_23_1 go4_7_1) rfl rfl (by kernel_rfl)
 have ro4_13 : ∀ B, ∀ (Xo4_3_1 : Value), ∀ (go4_11_1 : Nat → Nat → Value), ∀ (go4_7_1 : Nat → Nat → Value), RA f E B all 8 (bt 27 6717439) ⟨32, [(19, S (((bytesOf ([(IntKind.u8.wrap x.op)])) ++ (varB x.token.toNat)) ++ (varB x.seq.toNat))), (21, S x.key), (25, S x.val), (29, I x.ver)] ++ b0⟩ K := by
  intro B Xo4_3_1 go4_11_1 go4_7_1
  refine RA.of2 hall hf hb (RA.stepH (L := [15]) (Tell.of rfl) (by kernel_rfl) (by simp) (RA.each ?_ (RA.each0)))
  refine RO.call rfl rfl (spec_l16Short_fn x.key (by first | exact cin.k | exact cin.l)) rfl (.cons (.one (.r .r)) (.nil)) rfl fun go4_15_1 => ?_
  refine RA.first (i := 16) (ls' := (bt 27 6815743)) (Tell.of rfl) (by kernel_rfl) rfl rfl rfl (VF.p (V.cat rfl rfl rfl q4)) ?_
  exact RA.to2 hall hf hb (ro4_15 B Xo4_3_1 go4_11_1 go4_15_1 go4_7_1) rfl rfl (by kernel_rfl)
 have ro4_12 : ∀ B, ∀ (go4_11_1 : Nat → Nat → Value), ∀ (go4_15_1 : Nat → Nat → Value), ∀ (go4_19_1 : Nat → Nat → Value), ∀ (go4_23_1 : Nat → Nat → Value), ∀ (go4_7_1 : Nat → Nat → Value), RA f E B all 9 (bt 27 15658727) ⟨32, [(9, .r (.v (.int .u8 (IntKind.u8.wrap x.op)))), (14, S (varB x.token.toNat)), (18, S (varB x.seq.toNat)), (22, S (shB x.key)), (26, S (shB x.val)), (30, S (varB x.ver.toNat))] ++ b0⟩ K := by
  intro B go4_11_1 go4_15_1 go4_19_1 go4_23_1 go4_7_1
  refine RA.of2 hall hf hb (RA.stepH (L := [3]) (Tell.of rfl) (by kernel_rfl) (by simp) (RA.each ?_ (RA.each0)))
  refine RO.build1c (c := cU) (v := (IntKind.u8.wrap x.op)) (u := .v (.int .u8 (IntKind.u8.wrap x.op))) rfl rfl rfl rfl rfl rfl rfl rfl (.inl rfl) rfl rfl fun Xo4_3_1 => ?_
  exact RA.to2 hall hf hb (ro4_14 B Xo4_3_1 go4_11_1 go4_15_1 go4_19_1 go4_23_1 go4_7_1) rfl rfl (by kernel_rfl)
 have ro4_11 : ∀ B, ∀ (Xo4_3_1 : Value), ∀ (go4_11_1 : Nat → Nat → Value), ∀ (go4_15_1 : Nat → Nat → Value), ∀ (go4_19_1 : Nat → Nat → Value), ∀ (go4_7_1 : Nat → Nat → Value), RA f E B all 9 (bt 27 7270127) ⟨32, [(10, .w (sl 1 cU ([(IntKind.u8.wrap x.op)])) Xo4_3_1), (14, S (varB x.token.toNat)), (18, S (varB x.seq.toNat)), (22, S (shB x.key)), (26, S (shB x.val)), (29, I x.ver)] ++ b0⟩ K := by
  intro B Xo4_3_1 go4_11_1 go4_15_1 go4_19_1 go4_7_1
  refine RA.of2 hall hf hb (RA.stepH (L := [4, 23]) (Tell.of rfl) (by kernel_rfl) (by simp) (RA.each ?_ (RA.each ?_ (RA.each0))))
  refine RO.v rfl rfl (V.bytesStr (l := [(IntKind.u8.wrap x.op)]) rfl rfl rfl (by kernel_rfl) (by kernel_rfl) (.al (k := none) (i := 10) (sz := 1) (V := Xo4_3_1) rfl rfl nofun)) rfl ?_
  refine RA.first (i := 8) (ls' := (bt 27 7270399)) (Tell.of rfl) (by kernel_rfl) rfl rfl rfl (VF.p (V.cat rfl rfl rfl q4)) ?_
  refine RA.first (i := 12) (ls' := (bt 27 7274495)) (Tell.of rfl) (by kernel_rfl) rfl rfl rfl (VF.p (V.cat rfl rfl rfl q4)) ?_
  refine RA.first (i := 16) (ls' := (bt 27 7340031)) (Tell.of rfl) (by kernel_rfl) rfl rfl rfl (VF.p (V.cat rfl rfl rfl q4)) ?_
  refine RA.first (i := 20) (ls' := (bt 27 8388607)) (Tell.of rfl) (by kernel_rfl) rfl rfl rfl (VF.p (V.cat rfl rfl rfl q4)) ?_
  exact RA.to2 hall hf hb (ro4_16 B Xo4_3_1 go4_11_1 go4_15_1 go4_19_1 go4_7_1) rfl rfl (by kernel_rfl)
  refine RO.call rfl rfl (spec_l01Var_fn x.ver q24) rfl (.cons (.one (.r .r)) (.nil)) rfl fun go4_23_1 => ?_
  exact RA.to2 hall hf hb (ro4_14 B Xo4_3_1 go4_11_1 go4_15_1 go4_19_1 go4_23_1 go4_7_1) rfl rfl (by kernel_rfl)
 have ro4_10 : ∀ B, ∀ (go4_11_1 : Nat → Nat → Value), ∀ (go4_15_1 : Nat → Nat → Value), ∀ (go4_19_1 : Nat → Nat → Value), ∀ (go4_7_1 : Nat → Nat → Value), RA f E B all 10 (bt 27 7270119) ⟨32, [(9, .r (.v (.int .u8 (IntKind.u8.wrap x.op)))), (14, S (varB x.token.toNat)), (18, S (varB x.seq.toNat)), (22, S (shB x.key)), (26, S (shB x.val)), (29, I x.ver)] ++ b0⟩ K := by
  intro B go4_11_1 go4_15_1 go4_19_1 go4_7_1
  refine RA.of2 hall hf hb (RA.stepH (L := [3, 23]) (Tell.of rfl) (by kernel_rfl) (by simp) (RA.each ?_ (RA.each ?_ (RA.each0))))
  refine RO.build1c (c := cU) (v := (IntKind.u8.wrap x.op)) (u := .v (.int .u8 (IntKind.u8.wrap x.op))) rfl rfl rfl rfl rfl rfl rfl rfl (.inl rfl) rfl rfl fun Xo4_3_1 => ?_
  exact RA.to2 hall hf hb (ro4_11 B Xo4_3_1 go4_11_1 go4_15_1 go4_19_1 go4_7_1) rfl rfl (by kernel_rfl)
  refine RO.call rfl rfl (spec_l01Var_fn x.ver q24) rfl (.cons (.one (.r .r)) (.nil)) rfl fun go4_23_1 => ?_
  exact RA.to2 hall hf hb (ro4_12 B go4_11_1 go4_15_1 go4_19_1 go4_23_1 go4_7_1) rfl rfl (by kernel_rfl)
 have ro4_9 : ∀ B, ∀ (Xo4_3_1 : Value), ∀ (go4_11_1 : Nat → Nat → Value), ∀ (go4_15_1 : Nat → Nat → Value), ∀ (go4_7_1 : Nat → Nat → Value), RA f E B all 10 (bt 27 6745839) ⟨32, [(10, .w (sl 1 cU ([(IntKind.u8.wrap x.op)])) Xo4_3_1), (14, S (varB x.token.toNat)), (18, S (varB x.seq.toNat)), (22, S (shB x.key)), (25, S x.val), (29, I x.ver)] ++ b0⟩ K := by
  intro B Xo4_3_1 go4_11_1 go4_15_1 go4_7_1
  refine RA.of2 hall hf hb (RA.stepH (L := [4, 19]) (Tell.of rfl) (by kernel_rfl) (by simp) (RA.each ?_ (RA.each ?_ (RA.each0))))
  refine RO.v rfl rfl (V.bytesStr (l := [(IntKind.u8.wrap x.op)]) rfl rfl rfl (by kernel_rfl) (by kernel_rfl) (.al (k := none) (i := 10) (sz := 1) (V := Xo4_3_1) rfl rfl nofun)) rfl ?_
  refine RA.first (i := 8) (ls' := (bt 27 6746111)) (Tell.of rfl) (by kernel_rfl) rfl rfl rfl (VF.p (V.cat rfl rfl rfl q4)) ?_
  refine RA.first (i := 12) (ls' := (bt 27 6750207)) (Tell.of rfl) (by kernel_rfl) rfl rfl rfl (VF.p (V.cat rfl rfl rfl q4)) ?_
  refine RA.first (i := 16) (ls' := (bt 27 6815743)) (Tell.of rfl) (by kernel_rfl) rfl rfl rfl (VF.p (V.cat rfl rfl rfl q4)) ?_
  exact RA.to2 hall hf hb (ro4_15 B Xo4_3_1 go4_11_1 go4_15_1 go4_7_1) rfl rfl (by kernel_rfl)
  refine RO.call rfl rfl (spec_l16Short_fn x.val (by first | exact cin.k | exact cin.l)) rfl (.cons (.one (.r .r)) (.nil)) rfl fun go4_19_1 => ?_
  exact RA.to2 hall hf hb (ro4_11 B Xo4_3_1 go4_11_1 go4_15_1 go4_19_1 go4_7_1) rfl rfl (by kernel_rfl)
 have ro4_8 : ∀ B, ∀ (Xo4_3_1 : Value), ∀ (go4_7_1 : Nat → Nat → Value), RA f E B all 10 (bt 27 6711295) ⟨32, [(15, S ((bytesOf ([(IntKind.u8.wrap x.op)])) ++ (varB x.token.toNat))), (17, I x.seq), (21, S x.key), (25, S x.val), (29, I x.ver)] ++ b0⟩ K := by
  intro B Xo4_3_1 go4_7_1
  refine RA.of2 hall hf hb (RA.stepH (L := [11]) (Tell.of rfl) (by kernel_rfl) (by simp) (RA.each ?_ (RA.each0)))
  refine RO.call rfl rfl (spec_l01Var_fn x.seq q24) rfl (.cons (.one (.r .r)) (.nil)) rfl fun go4_11_1 => ?_
  refine RA.first (i := 12) (ls' := (bt 27 6717439)) (Tell.of rfl) (by kernel_rfl) rfl rfl rfl (VF.p (V.cat rfl rfl rfl q4)) ?_
  exact RA.to2 hall hf hb (ro4_13 B Xo4_3_1 go4_11_1 go4_7_1) rfl rfl (by kernel_rfl)
 have ro4_7 : ∀ B, ∀ (go4_11_1 : Nat → Nat → Value), ∀ (go4_15_1 : Nat → Nat → Value), ∀ (go4_7_1 : Nat → Nat → Value), RA f E B all 11 (bt 27 6745831) ⟨32, [(9, .r (.v (.int .u8 (IntKind.u8.wrap x.op)))), (14, S (varB x.token.toNat)), (18, S (varB x.seq.toNat)), (22, S (shB x.key)), (25, S x.val), (29, I x.ver)] ++ b0⟩ K := by
  intro B go4_11_1 go4_15_1 go4_7_1
  refine RA.of2 hall hf hb (RA.stepH (L := [3, 19]) (Tell.of rfl) (by kernel_rfl) (by simp) (RA.each ?_ (RA.each ?_ (RA.each0))))
  refine RO.build1c (c := cU) (v := (IntKind.u8.wrap x.op)) (u := .v (.int .u8 (IntKind.u8.wrap x.op))) rfl rfl rfl rfl rfl rfl rfl rfl (.inl rfl) rfl rfl fun Xo4_3_1 => ?_
  exact RA.to2 hall hf hb (ro4_9 B Xo4_3_1 go4_11_1 go4_15_1 go4_7_1) rfl rfl (by kernel_rfl)
  refine RO.call rfl rfl (spec_l16Short_fn x.val (by first | exact cin.k | exact cin.l)) rfl (.cons (.one (.r .r)) (.nil)) rfl fun go4_19_1 => ?_
  exact RA.to2 hall hf hb (ro4_10 B go4_11_1 go4_15_1 go4_19_1 go4_7_1) rfl rfl (by kernel_rfl)
 have ro4_6 : ∀ B, ∀ (Xo4_3_1 : Value), ∀ (go4_11_1 : Nat → Nat → Value), ∀ (go4_7_1 : Nat → Nat → Value), RA f E B all 11 (bt 27 6713071) ⟨32, [(10, .w (sl 1 cU ([(IntKind.u8.wrap x.op)])) Xo4_3_1), (14, S (varB x.token.toNat)), (18, S (varB x.seq.toNat)), (21, S x.key), (25, S x.val), (29, I x.ver)] ++ b0⟩ K := by
  intro B Xo4_3_1 go4_11_1 go4_7_1
  refine RA.of2 hall hf hb (RA.stepH (L := [4, 15]) (Tell.of rfl) (by kernel_rfl) (by simp) (RA.each ?_ (RA.each ?_ (RA.each0))))
  refine RO.v rfl rfl (V.bytesStr (l := [(IntKind.u8.wrap x.op)]) rfl rfl rfl (by kernel_rfl) (by kernel_rfl) (.al (k := none) (i := 10) (sz := 1) (V := Xo4_3_1) rfl rfl nofun)) rfl ?_
  refine RA.first (i := 8) (ls' := (bt 27 6713343)) (Tell.of rfl) (by kernel_rfl) rfl rfl rfl (VF.p (V.cat rfl rfl rfl q4)) ?_
  refine RA.first (i := 12) (ls' := (bt 27 6717439)) (Tell.of rfl) (by kernel_rfl) rfl rfl rfl (VF.p (V.cat rfl rfl rfl q4)) ?_
  exact RA.to2 hall hf hb (ro4_13 B Xo4_3_1 go4_11_1 go4_7_1) rfl rfl (by kernel_rfl)
  refine RO.call rfl rfl (spec_l16Short_fn x.key (by first | exact cin.k | exact cin.l)) rfl (.cons (.one (.r .r)) (.nil)) rfl fun go4_15_1 => ?_
  exact RA.to2 hall hf hb (ro4_9 B Xo4_3_1 go4_11_1 go4_15_1 go4_7_1) rfl rfl (by kernel_rfl)
 have ro4_5 : ∀ B, ∀ (go4_11_1 : Nat → Nat → Value), ∀ (go4_7_1 : Nat → Nat → Value), RA f E B all 12 (bt 27 6713063) ⟨32, [(9, .r (.v (.int .u8 (IntKind.u8.wrap x.op)))), (14, S (varB x.token.toNat)), (18, S (varB x.seq.toNat)), (21, S x.key), (25, S x.val), (29, I x.ver)] ++ b0⟩ K := by
  intro B go4_11_1 go4_7_1
  refine RA.of2 hall hf hb (RA.stepH (L := [3, 15]) (Tell.of rfl) (by kernel_rfl) (by simp) (RA.each ?_ (RA.each ?_ (RA.each0))))
  refine RO.build1c (c := cU) (v := (IntKind.u8.wrap x.op)) (u := .v (.int .u8 (IntKind.u8.wrap x.op))) rfl rfl rfl rfl rfl rfl rfl rfl (.inl rfl) rfl rfl fun Xo4_3_1 => ?_
  exact RA.to2 hall hf hb (ro4_6 B Xo4_3_1 go4_11_1 go4_7_1) rfl rfl (by kernel_rfl)
  refine RO.call rfl rfl (spec_l16Short_fn x.key (by first | exact cin.k | exact cin.l)) rfl (.cons (.one (.r .r)) (.nil)) rfl fun go4_15_1 => ?_
  exact RA.to2 hall hf hb (ro4_7 B go4_11_1 go4_15_1 go4_7_1) rfl rfl (by kernel_rfl)
 have ro4_4 : ∀ B, ∀ (Xo4_3_1 : Value), ∀ (go4_7_1 : Nat → Nat → Value), RA f E B all 12 (bt 27 6711023) ⟨32, [(10, .w (sl 1 cU ([(IntKind.u8.wrap x.op)])) Xo4_3_1), (14, S (varB x.token.toNat)), (17, I x.seq), (21, S x.key), (25, S x.val), (29, I x.ver)] ++ b0⟩ K := by
  intro B Xo4_3_1 go4_7_1
  refine RA.of2 hall hf hb (RA.stepH (L := [4, 11]) (Tell.of rfl) (by kernel_rfl) (by simp) (RA.each ?_ (RA.each ?_ (RA.each0))))
  refine RO.v rfl rfl (V.bytesStr (l := [(IntKind.u8.wrap x.op)]) rfl rfl rfl (by kernel_rfl) (by kernel_rfl) (.al (k := none) (i := 10) (sz := 1) (V := Xo4_3_1) rfl rfl nofun)) rfl ?_
  refine RA.first (i := 8) (ls' := (bt 27 6711295)) (Tell.of rfl) (by kernel_rfl) rfl rfl rfl (VF.p (V.cat rfl rfl rfl q4)) ?_
  exact RA.to2 hall hf hb (ro4_8 B Xo4_3_1 go4_7_1) rfl rfl (by kernel_rfl)
  refine RO.call rfl rfl (spec_l01Var_fn x.seq q24) rfl (.cons (.one (.r .r)) (.nil)) rfl fun go4_11_1 => ?_
  exact RA.to2 hall hf hb (ro4_6 B Xo4_3_1 go4_11_1 go4_7_1) rfl rfl (by kernel_rfl)
 have ro4_3 : ∀ B, ∀ (Xo4_3_1 : Value), RA f E B all 12 (bt 27 6710911) ⟨32, [(11, S (bytesOf ([(IntKind.u8.wrap x.op)]))), (13, I x.token), (17, I x.seq), (21, S x.key), (25, S x.val), (29, I x.ver)] ++ b0⟩ K := by
  intro B Xo4_3_1
  refine RA.of2 hall hf hb (RA.stepH (L := [7]) (Tell.of rfl) (by kernel_rfl) (by simp) (RA.each ?_ (RA.each0)))
  refine RO.call rfl rfl (spec_l01Var_fn x.token q24) rfl (.cons (.one (.r .r)) (.nil)) rfl fun go4_7_1 => ?_
  refine RA.first (i := 8) (ls' := (bt 27 6711295)) (Tell.of rfl) (by kernel_rfl) rfl rfl rfl (VF.p (V.cat rfl rfl rfl q4)) ?_
  exact RA.to2 hall hf hb (ro4_8 B Xo4_3_1 go4_7_1) rfl rfl (by kernel_rfl)
 have ro4_2 : ∀ B, ∀ (go4_7_1 : Nat → Nat → Value), RA f E B all 13 (bt 27 6711015) ⟨32, [(9, .r (.v (.int .u8 (IntKind.u8.wrap x.op)))), (14, S (varB x.token.toNat)), (17, I x.seq), (21, S x.key), (25, S x.val), (29, I x.ver)] ++ b0⟩ K := by
  intro B go4_7_1
  refine RA.of2 hall hf hb (RA.stepH (L := [3, 11]) (Tell.of rfl) (by kernel_rfl) (by simp) (RA.each ?_ (RA.each ?_ (RA.each0))))
  refine RO.build1c (c := cU) (v := (IntKind.u8.wrap x.op)) (u := .v (.int .u8 (IntKind.u8.wrap x.op))) rfl rfl rfl rfl rfl rfl rfl rfl (.inl rfl) rfl rfl fun Xo4_3_1 => ?_
  exact RA.to2 hall hf hb (ro4_4 B Xo4_3_1 go4_7_1) rfl rfl (by kernel_rfl)
  refine RO.call rfl rfl (spec_l01Var_fn x.seq q24) rfl (.cons (.one (.r .r)) (.nil)) rfl fun go4_11_1 => ?_
  exact RA.to2 hall hf hb (ro4_5 B go4_11_1 go4_7_1) rfl rfl (by kernel_rfl)
 have ro4_1 : ∀ B, ∀ (Xo4_3_1 : Value), RA f E B all 13 (bt 27 6710895) ⟨32, [(10, .w (sl 1 cU ([(IntKind.u8.wrap x.op)])) Xo4_3_1), (13, I x.token), (17, I x.seq), (21, S x.key), (25, S x.val), (29, I x.ver)] ++ b0⟩ K := by
  intro B Xo4_3_1
  refine RA.of2 hall hf hb (RA.stepH (L := [4, 7]) (Tell.of rfl) (by kernel_rfl) (by simp) (RA.each ?_ (RA.each ?_ (RA.each0))))
  refine RO.v rfl rfl (V.bytesStr (l := [(IntKind.u8.wrap x.op)]) rfl rfl rfl (by kernel_rfl) (by kernel_rfl) (.al (k := none) (i := 10) (sz := 1) (V := Xo4_3_1) rfl rfl nofun)) rfl ?_
  exact RA.to2 hall hf hb (ro4_3 B Xo4_3_1) rfl rfl (by kernel_rfl)
  refine RO.call rfl rfl (spec_l01Var_fn x.token q24) rfl (.cons (.one (.r .r)) (.nil)) rfl fun go4_7_1 => ?_
  exact RA.to2 hall hf hb (ro4_4 B Xo4_3_1 go4_7_1) rfl rfl (by kernel_rfl)
 have ro4_0 : ∀ B, RA f E B all 14 (bt 27 6710887) ⟨32, [(9, .r (.v (.int .u8 (IntKind.u8.wrap x.op)))), (13, I x.token), (17, I x.seq), (21, S x.key), (25, S x.val), (29, I x.ver)] ++ b0⟩ K := by
  intro B
  refine RA.of2 hall hf hb (RA.stepH (L := [3, 7]) (Tell.of rfl) (by kernel_rfl) (by simp) (RA.each ?_ (RA.each ?_ (RA.each0))))
  refine RO.build1c (c := cU) (v := (IntKind.u8.wrap x.op)) (u := .v (.int .u8 (IntKind.u8.wrap x.op))) rfl rfl rfl rfl rfl rfl rfl rfl (.inl rfl) rfl rfl fun Xo4_3_1 => ?_
  exact RA.to2 hall hf hb (ro4_1 B Xo4_3_1) rfl rfl (by kernel_rfl)
  refine RO.call rfl rfl (spec_l01Var_fn x.token q24) rfl (.cons (.one (.r .r)) (.nil)) rfl fun go4_7_1 => ?_
  exact RA.to2 hall hf hb (ro4_2 B go4_7_1) rfl rfl (by kernel_rfl)
 refine RA.start (by kernel_rfl) (by kernel_rfl) (m := 27) (ls' := (bt 27 0)) ?_
 refine RA.fr XK 32 14 [0,1,2,5,6,9,10,13,14,17,18,21,22] (bt 27 6710887) rfl rfl (by kernel_rfl) (Tell.of rfl) ?_
 (conv=>whnf);refine ⟨rfl,fun B=>?_⟩
 exact RA.to2 hall hf hb (ro4_0 B) rfl rfl (by kernel_rfl)
 rintro ⟨Xo4_3_1, go4_11_1, go4_15_1, go4_19_1, go4_23_1, go4_7_1⟩
 refine CW.ret ?_
 exact Post.tup (by decide) (RVs.c (RV.s rfl (by rw [cmdT, if_pos (nF h3)] <;> rfl)) (RVs.c (RV.b rfl (by rw [cmdT, if_pos (nF h3)] <;> rfl)) RVs.e)) (AOs.a rfl AOs.e)
set_option maxHeartbeats 4000000 in
theorem spec_ReadCommand_fn (t : ByteArray) (ht : t.size ≤ 1048576) : Eng.Fn E.P 24 [.one (.r (.v (.string t)))] (.tup [.agg ((Command.c ((rdCmd t).1)).map .w), .one (.w (.v (.bool ((rdCmd t).2))))]) [.one (.r (.v (.string t)))] := by
 refine Eng.Fn.intro (E := E) (rvs := [.cell 2 63, .tmp 3]) Tryz.func24 rfl rfl rfl (by simp [outSlots, moved, rvSlot, sl]) ?_
 intro B g bo
 refine CW.g XK 52 [.e [0]] rfl rfl rfl ?_
 have hrd := rd_eq ht
 refine CW.h XK 52 [.n 1,.e [0,2],.n 1,.e [0,2,9]] rfl ?_;(conv=>whnf);intro b1;(conv=>whnf);refine ⟨rfl,?_⟩
 refine CW.cond rfl (fun h2 => ?_) (fun h2 => ?_)
 refine CW.g XK 52 [.n 1,.e [2,3]] rfl rfl rfl ?_
 refine CW.ret ?_
 exact Post.tup (by decide) (RVs.c (RV.c (f := fun e => (Command.c e).map .w) (e' := (⟨0, 0, 0, ⟨#[]⟩, ⟨#[]⟩, 0⟩ : Command)) rfl rfl rfl rfl (DT.v (DT.v (DT.v (DT.v (DT.v (DT.v DT.e)))))) (by rw [← hrd, rdCmdS, if_pos (by assumption)] <;> rfl)) (RVs.c (RV.b rfl (by rw [← hrd, rdCmdS, if_pos (by assumption)] <;> rfl)) RVs.e)) (AOs.r AOs.e)
 have h0 : 0 < t.size := size_pos h2
 have hne : ¬ (t.toList == (⟨#[]⟩ : ByteArray).toList) = true := by rw [h2]; simp
 refine CW.h XK 52 [.p,.e [0,2],.n 1,.e [0,2,4,13]] rfl ?_;(conv=>whnf);intro b3;(conv=>whnf);refine ⟨rfl,?_⟩
 refine CW.anyJ2 (fc := [(2, b1, [.int .i64 0, .int .i64 0, .int .i64 0, .string (⟨#[]⟩), .string (⟨#[]⟩), .int .i64 0])]) (L0 := [(0, S t), (2, .obj b1 [I 0, I 0, I 0, S (⟨#[]⟩), S (⟨#[]⟩), I 0]), (4, .pt 13 b3 0)]) 52 (fun (zz : Nat × (Nat → Nat → Value) × (Nat → Value)) => match zz with | (bo4_6_1, go4_4_1, qo4_4_2) => [(5, .obj bo4_6_1 [I (IntKind.i64.wrap (bat t 0)), I (numW (⟨t, 1, false⟩ : l16Cur)), I 0, S (⟨#[]⟩), S (⟨#[]⟩), I 0]), (13, .obj b3 ((l16Cur.c (numC (⟨t, 1, false⟩ : l16Cur))).map .r))]) (fun all hall f hf b0 hb K hK => ?_) ?_
 have ro4_4 : ∀ B, ∀ (bo4_6_1 : Nat), ∀ (go4_4_1 : Nat → Nat → Value), ∀ (qo4_4_2 : Nat → Value), RA f E B all 0 (bt 8 255) ⟨52, [(5, .obj bo4_6_1 [I (IntKind.i64.wrap (bat t 0)), I (numW (⟨t, 1, false⟩ : l16Cur)), I 0, S (⟨#[]⟩), S (⟨#[]⟩), I 0]), (13, .obj b3 ((l16Cur.c (numC (⟨t, 1, false⟩ : l16Cur))).map .r))] ++ b0⟩ K := by
  intro B bo4_6_1 go4_4_1 qo4_4_2
  exact RA.of2 hall hf hb (RA.finH (Tell.of rfl) (by kernel_rfl) (hK (bo4_6_1, go4_4_1, qo4_4_2) _ rfl (Le.of rfl)))
 have ro4_3 : ∀ B, ∀ (bo4_6_1 : Nat), ∀ (go4_4_1 : Nat → Nat → Value), ∀ (qo4_4_2 : Nat → Value), RA f E B all 1 (bt 8 127) ⟨52, [(5, .obj bo4_6_1 [I 0, I 0, I 0, S (⟨#[]⟩), S (⟨#[]⟩), I 0]), (13, .obj b3 ((l16Cur.c (numC (⟨t, 1, false⟩ : l16Cur))).map .r)), (19, .agg [I (IntKind.i64.wrap (bat t 0)), I (numW (⟨t, 1, false⟩ : l16Cur)), I 0, S (⟨#[]⟩), S (⟨#[]⟩), I 0])] ++ b0⟩ K := by
  intro B bo4_6_1 go4_4_1 qo4_4_2
  refine RA.of2 hall hf hb (RA.stepH (L := [7]) (Tell.of rfl) (by kernel_rfl) (by simp) (RA.each ?_ (RA.each0)))
  refine RO.storeAgg (es := [I (IntKind.i64.wrap (bat t 0)), I (numW (⟨t, 1, false⟩ : l16Cur)), I 0, S (⟨#[]⟩), S (⟨#[]⟩), I 0]) rfl rfl rfl rfl rfl rfl rfl rfl rfl rfl (Nat.le_of_ble_eq_true rfl) rfl ?_
  exact RA.to2 hall hf hb (ro4_4 B bo4_6_1 go4_4_1 qo4_4_2) rfl rfl (by kernel_rfl)
 have ro4_2 : ∀ B, ∀ (go4_4_1 : Nat → Nat → Value), ∀ (qo4_4_2 : Nat → Value), RA f E B all 2 (bt 8 63) ⟨52, [(13, .obj b3 ((l16Cur.c (numC (⟨t, 1, false⟩ : l16Cur))).map .r)), (19, .agg [I (IntKind.i64.wrap (bat t 0)), I (numW (⟨t, 1, false⟩ : l16Cur)), I 0, S (⟨#[]⟩), S (⟨#[]⟩), I 0])] ++ b0⟩ K := by
  intro B go4_4_1 qo4_4_2
  refine RA.of2 hall hf hb (RA.stepH (L := [6]) (Tell.of rfl) (by kernel_rfl) (by simp) (RA.each ?_ (RA.each0)))
  refine RO.alloc (ds := [I 0, I 0, I 0, S (⟨#[]⟩), S (⟨#[]⟩), I 0]) rfl rfl rfl rfl rfl rfl fun bo4_6_1 => ?_
  exact RA.to2 hall hf hb (ro4_3 B bo4_6_1 go4_4_1 qo4_4_2) rfl rfl (by kernel_rfl)
 have ro4_1 : ∀ B, ∀ (bo4_6_1 : Nat), RA f E B all 3 (bt 8 79) ⟨52, [(5, .obj bo4_6_1 [I 0, I 0, I 0, S (⟨#[]⟩), S (⟨#[]⟩), I 0]), (13, .obj b3 [S t, I 1, Bo false]), (16, I (IntKind.i64.wrap (bat t 0))), (17, .pt 13 b3 0)] ++ b0⟩ K := by
  intro B bo4_6_1
  refine RA.of2 hall hf hb (RA.stepH (L := [4]) (Tell.of rfl) (by kernel_rfl) (by simp) (RA.each ?_ (RA.each0)))
  refine RO.callP (k := 13) (spec_l16Var_fn (⟨t, 1, false⟩ : l16Cur) (l16Cur.ok1 ht h0)) rfl rfl rfl rfl (Nat.le_of_ble_eq_true rfl) (by decide) rfl (DT.r (DT.r (DT.r DT.e))) (AsPs.here rfl (.nil)) fun go4_4_1 qo4_4_2 => ?_
  refine RA.fr XK 52 1 [5] (bt 8 127) rfl rfl (by kernel_rfl) (Tell.of rfl) ?_
  (conv=>whnf);refine ⟨rfl,fun B=>?_⟩
  exact RA.to2 hall hf hb (ro4_3 B bo4_6_1 go4_4_1 qo4_4_2) rfl rfl (by kernel_rfl)
 have ro4_0 : ∀ B, RA f E B all 4 (bt 8 15) ⟨52, [(13, .obj b3 [S t, I 1, Bo false]), (16, I (IntKind.i64.wrap (bat t 0))), (17, .pt 13 b3 0)] ++ b0⟩ K := by
  intro B
  refine RA.of2 hall hf hb (RA.stepH (L := [4, 6]) (Tell.of rfl) (by kernel_rfl) (by simp) (RA.each ?_ (RA.each ?_ (RA.each0))))
  refine RO.callP (k := 13) (spec_l16Var_fn (⟨t, 1, false⟩ : l16Cur) (l16Cur.ok1 ht h0)) rfl rfl rfl rfl (Nat.le_of_ble_eq_true rfl) (by decide) rfl (DT.r (DT.r (DT.r DT.e))) (AsPs.here rfl (.nil)) fun go4_4_1 qo4_4_2 => ?_
  refine RA.fr XK 52 2 [5] (bt 8 63) rfl rfl (by kernel_rfl) (Tell.of rfl) ?_
  (conv=>whnf);refine ⟨rfl,fun B=>?_⟩
  exact RA.to2 hall hf hb (ro4_2 B go4_4_1 qo4_4_2) rfl rfl (by kernel_rfl)
  refine RO.alloc (ds := [I 0, I 0, I 0, S (⟨#[]⟩), S (⟨#[]⟩), I 0]) rfl rfl rfl rfl rfl rfl fun bo4_6_1 => ?_
  exact RA.to2 hall hf hb (ro4_1 B bo4_6_1) rfl rfl (by kernel_rfl)
 refine RA.start (by kernel_rfl) (by kernel_rfl) (m := 8) (ls' := (bt 8 0)) ?_
 refine RA.fr XK 52 7 [0] (bt 8 1) rfl rfl (by kernel_rfl) (Tell.of rfl) ?_
 (conv=>whnf);refine ⟨rfl,fun B=>?_⟩
 refine RA.first (i := 1) (ls' := (bt 8 3)) (Tell.of rfl) (by kernel_rfl) rfl rfl rfl (VF.p (V.idxStr (m := 0) rfl (by kernel_rfl) rfl rfl h0)) ?_
 refine RA.fr XK 52 4 [2,3] (bt 8 15) rfl rfl (by kernel_rfl) (Tell.of rfl) ?_
 (conv=>whnf);refine ⟨rfl,fun B=>?_⟩
 exact RA.to2 hall hf hb (ro4_0 B) rfl rfl (by kernel_rfl)
 rintro ⟨bo4_6_1, go4_4_1, qo4_4_2⟩
 refine CW.g XK 52 [.o 1] rfl rfl rfl ?_
 refine RW.callP (k := 13) (spec_l16Var_fn (numC (⟨t, 1, false⟩ : l16Cur)) (numS_ok (l16Cur.ok1 ht h0))) rfl rfl (Nat.le_of_ble_eq_true rfl) (by decide) rfl (DT.r (DT.r (DT.r DT.e))) (AsPs.here rfl (.nil)) fun g5 q6 => ?_
 refine RW.g XK 52 [.o 2,.p,.e [0,2,4,5,13],.o 1] rfl rfl rfl ?_
 refine RW.callP (k := 13) (spec_l16ReadShort_fn (numC (numC (⟨t, 1, false⟩ : l16Cur))) (numS_ok (numS_ok (l16Cur.ok1 ht h0)))) rfl rfl (Nat.le_of_ble_eq_true rfl) (by decide) rfl (DT.r (DT.r (DT.r DT.e))) (AsPs.here rfl (.nil)) fun g7 q8 => ?_
 refine RW.g XK 52 [.o 2,.p,.e [0,2,4,5,13],.o 1] rfl rfl rfl ?_
 refine RW.callP (k := 13) (spec_l16ReadShort_fn (shC (numC (numC (⟨t, 1, false⟩ : l16Cur)))) (shS_ok (numS_ok (numS_ok (l16Cur.ok1 ht h0))))) rfl rfl (Nat.le_of_ble_eq_true rfl) (by decide) rfl (DT.r (DT.r (DT.r DT.e))) (AsPs.here rfl (.nil)) fun g9 q10 => ?_
 refine RW.g XK 52 [.o 2,.p,.e [0,2,4,5,13],.o 1] rfl rfl rfl ?_
 refine RW.callP (k := 13) (spec_l16Var_fn (shC (shC (numC (numC (⟨t, 1, false⟩ : l16Cur))))) (shS_ok (shS_ok (numS_ok (numS_ok (l16Cur.ok1 ht h0)))))) rfl rfl (Nat.le_of_ble_eq_true rfl) (by decide) rfl (DT.r (DT.r (DT.r DT.e))) (AsPs.here rfl (.nil)) fun g11 q12 => ?_
 refine RW.g XK 52 [.o 2,.p,.e [0,2,4,5,13],.o 1] rfl rfl rfl ?_
 refine RW.call rfl (spec_CommandText_fn (⟨(IntKind.i64.wrap (bat t 0)), (numW (⟨t, 1, false⟩ : l16Cur)), (numW (numC (⟨t, 1, false⟩ : l16Cur))), (shW (numC (numC (⟨t, 1, false⟩ : l16Cur)))), (shW (shC (numC (numC (⟨t, 1, false⟩ : l16Cur))))), (numW (shC (shC (numC (numC (⟨t, 1, false⟩ : l16Cur))))))⟩ : Command)) rfl (.cons (.agg (.cons (.r .r) (.cons (.r .r) (.cons (.r .r) (.cons (.r .r) (.cons (.r .r) (.cons (.r .r) (.nil)))))))) (.nil)) fun g13 => ?_
 refine RW.g XK 52 [.o 5,.p,.e [0,2,4,5,6,7,13],.p] rfl rfl rfl ?_
 refine CW.seqJ 52 (fun (v14 : Bool) => [(2, .obj b1 [I 0, I 0, I 0, S (⟨#[]⟩), S (⟨#[]⟩), I 0]), (5, .obj bo4_6_1 [I (IntKind.i64.wrap (bat t 0)), I (numW (⟨t, 1, false⟩ : l16Cur)), I (numW (numC (⟨t, 1, false⟩ : l16Cur))), S (shW (numC (numC (⟨t, 1, false⟩ : l16Cur)))), S (shW (shC (numC (numC (⟨t, 1, false⟩ : l16Cur))))), I (numW (shC (shC (numC (numC (⟨t, 1, false⟩ : l16Cur))))))]), (49, Bo v14)]) (fun v14 => v14 = (((numC (shC (shC (numC (numC (⟨t, 1, false⟩ : l16Cur)))))).bad || (!((cmdT (⟨(IntKind.i64.wrap (bat t 0)), (numW (⟨t, 1, false⟩ : l16Cur)), (numW (numC (⟨t, 1, false⟩ : l16Cur))), (shW (numC (numC (⟨t, 1, false⟩ : l16Cur)))), (shW (shC (numC (numC (⟨t, 1, false⟩ : l16Cur))))), (numW (shC (shC (numC (numC (⟨t, 1, false⟩ : l16Cur))))))⟩ : Command)).2))) || (!(((cmdT (⟨(IntKind.i64.wrap (bat t 0)), (numW (⟨t, 1, false⟩ : l16Cur)), (numW (numC (⟨t, 1, false⟩ : l16Cur))), (shW (numC (numC (⟨t, 1, false⟩ : l16Cur)))), (shW (shC (numC (numC (⟨t, 1, false⟩ : l16Cur))))), (numW (shC (shC (numC (numC (⟨t, 1, false⟩ : l16Cur))))))⟩ : Command)).1).toList == t.toList)))) ?_ ?_
 refine CW.g XK 52 [.o 5] rfl rfl rfl ?_
 refine RW.gv rfl rfl rfl rfl (fun h15 => V.mv (d := Bo ((cmdT (⟨(IntKind.i64.wrap (bat t 0)), (numW (⟨t, 1, false⟩ : l16Cur)), (numW (numC (⟨t, 1, false⟩ : l16Cur))), (shW (numC (numC (⟨t, 1, false⟩ : l16Cur)))), (shW (shC (numC (numC (⟨t, 1, false⟩ : l16Cur))))), (numW (shC (shC (numC (numC (⟨t, 1, false⟩ : l16Cur))))))⟩ : Command)).2)) rfl rfl) (fun h15 => ?_) (fun h15 => ?_)
 refine RW.g XK 52 [.o 3] rfl rfl rfl ?_
 refine RW.gv rfl rfl rfl rfl (fun h16 => V.mv (d := S ((cmdT (⟨(IntKind.i64.wrap (bat t 0)), (numW (⟨t, 1, false⟩ : l16Cur)), (numW (numC (⟨t, 1, false⟩ : l16Cur))), (shW (numC (numC (⟨t, 1, false⟩ : l16Cur)))), (shW (shC (numC (numC (⟨t, 1, false⟩ : l16Cur))))), (numW (shC (shC (numC (numC (⟨t, 1, false⟩ : l16Cur))))))⟩ : Command)).1)) rfl rfl) (fun h16 => ?_) (fun h16 => ?_)
 refine RW.g XK 52 [.o 3,.p] rfl rfl rfl ?_
 exact ⟨_, by first | rfl | (simp_all; done) | (simp_all; omega) | grind, rfl, Le.of rfl⟩
 refine RW.g XK 52 [.o 3,.p] rfl rfl rfl ?_
 exact ⟨_, by first | rfl | (simp_all; done) | (simp_all; omega) | grind, rfl, Le.of rfl⟩
 refine RW.g XK 52 [.o 7,.p] rfl rfl rfl ?_
 exact ⟨_, by first | rfl | (simp_all; done) | (simp_all; omega) | grind, rfl, Le.of rfl⟩
 intro v14 hv17
 refine CW.cond rfl (fun h18 => ?_) (fun h18 => ?_)
 have hvv := hv17.symm.trans h18
 refine CW.g XK 52 [.n 1,.e [2,3]] rfl rfl rfl ?_
 refine CW.ret ?_
 exact Post.tup (by decide) (RVs.c (RV.c (f := fun e => (Command.c e).map .w) (e' := (⟨0, 0, 0, ⟨#[]⟩, ⟨#[]⟩, 0⟩ : Command)) rfl rfl rfl rfl (DT.v (DT.v (DT.v (DT.v (DT.v (DT.v DT.e)))))) (by rw [← hrd, rdS_bad hne hvv] <;> rfl)) (RVs.c (RV.b rfl (by rw [← hrd, rdS_bad hne hvv] <;> rfl)) RVs.e)) (AOs.r AOs.e)
 have hvv := hv17.symm.trans h18
 refine CW.g XK 52 [.p,.e [2,5],.n 1,.e [2,3]] rfl rfl rfl ?_
 refine CW.ret ?_
 exact Post.tup (by decide) (RVs.c (RV.c (f := fun e => (Command.c e).map .w) (e' := (⟨(IntKind.i64.wrap (bat t 0)), (numW (⟨t, 1, false⟩ : l16Cur)), (numW (numC (⟨t, 1, false⟩ : l16Cur))), (shW (numC (numC (⟨t, 1, false⟩ : l16Cur)))), (shW (shC (numC (numC (⟨t, 1, false⟩ : l16Cur))))), (numW (shC (shC (numC (numC (⟨t, 1, false⟩ : l16Cur))))))⟩ : Command)) rfl rfl rfl rfl (DT.v (DT.v (DT.v (DT.v (DT.v (DT.v DT.e)))))) (by rw [← hrd, rdS_good hne hvv] <;> rfl)) (RVs.c (RV.b rfl (by rw [← hrd, rdS_good hne hvv] <;> rfl)) RVs.e)) (AOs.r AOs.e)
set_option maxHeartbeats 4000000 in
theorem spec_l15Sessions_fn (a : List Session) : Eng.Fn E.P 105 [.one (.r (sl 3 Session.c a))] (.one (.one (.w (.v (.bool (sessF none a && decide ((a.length : Int) ≤ 3))))))) [.one (.r (sl 3 Session.c a))] := by
 refine Eng.Fn.intro (E := E) (rvs := [.tmp 2]) Tryz.func105 rfl rfl rfl (by simp [outSlots, moved, rvSlot, sl]) ?_
 intro B g bo
 refine CW.bound (x := .tmp 0) (n := a.length) (AsT.r) (fun hl0 => ?_)
 refine CW.g XK 59 [.e [0],.n 1,.e [0],.n 1,.e [0,3],.p] rfl rfl rfl ?_
 refine CW.loopI 59 (fun (i : Nat) => [(0, .r (sl 3 Session.c a)), (3, I (i : Int))]) (fun (i : Nat) => i ≤ a.length ∧ sessF (prevO Session.token Session.z a i) (a.drop i) = sessF none a) (fun (i : Nat) => a.length - i) 0 rfl (Le.c rfl <| Le.c rfl <| Le.e) ⟨by omega, rfl⟩ ?_
 rintro i ⟨hb, hr⟩
 refine CW.g XK 59 [.n 1,.e [0,3,8]] rfl rfl rfl ?_
 refine CW.cond rfl (fun h1 => ?_) (fun h1 => ?_)
 have hii : i < a.length := by have := h1; simp at this; first | exact this | omega | (simp; done) | (simp; omega)
 obtain ⟨ei, hei⟩ : ∃ e, a[i]? = some e := ⟨_, List.getElem?_eq_getElem hii⟩
 have hdi := drop_get hei
 refine CW.g XK 59 [.p,.e [0,3],.o 2] rfl rfl rfl ?_
 refine RW.v rfl (V.indexS rfl rfl rfl rfl rfl rfl Session.len hei) ?_
 refine RW.h XK 59 [.o 3] rfl ?_;(conv=>whnf);intro b2;(conv=>whnf);refine ⟨rfl,?_⟩
 refine RW.freezeB (ts := (Session.c ei)) 4 rfl (DRd.r (DRd.r (DRd.r DRd.e))) ?_
 refine RW.g XK 59 [.p,.e [0,3,4]] rfl rfl rfl ?_
 refine CW.seqJ 59 (fun (v3 : Bool) => [(0, .r (sl 3 Session.c a)), (3, I (i : Int)), (55, Bo v3)]) (fun v3 => v3 = (((((!(inR ei.token 1 1000000)) || (decide ((i : Int) > 0) && decide ((a.getD (i - 1) Session.z).token ≥ ei.token))) || (!(inR ei.last 0 1000000))) || decide ((ei.reply.size : Int) > 40)) || ((ei.last == 0) && (!(ei.reply.toList == (⟨#[]⟩ : ByteArray).toList))))) ?_ ?_
 refine CW.drawn (by kernel_rfl) ?_
 refine RQ.k XK 59 2 rfl ?_
 (conv=>whnf);refine ⟨rfl,?_⟩
 refine RQ.cons rfl (QOK.call (spec_l01In_fn ei.token 1 1000000) rfl (.cons (.one (.r .r)) (.cons (.one (.r .r)) (.cons (.one (.r .r)) (.nil)))) ?_)
 refine RQ.k XK 59 2 rfl ?_
 (conv=>whnf);refine ⟨rfl,?_⟩
 refine RQ.gv rfl rfl rfl rfl (fun h4 => V.mv (d := I (i : Int)) rfl rfl) (fun h4 => ?_) (fun h4 => ?_)
 refine RQ.k XK 59 2 rfl ?_
 (conv=>whnf);refine ⟨rfl,?_⟩
 refine RQ.gv rfl rfl rfl rfl (fun h5 => V.mv (d := .r (sl 3 Session.c a)) rfl rfl) (fun h5 => ?_) (fun h5 => ?_)
 refine RQ.k XK 59 1 rfl ?_
 (conv=>whnf);refine ⟨rfl,?_⟩
 refine RQ.gt rfl rfl rfl rfl (V.dec (m := i) rfl rfl rfl (by have := h5; simp at this; omega) (by omega)) ?_
 refine RQ.gt rfl rfl rfl rfl (V.indexS rfl rfl rfl rfl rfl rfl Session.len (getD_some (l := a) (j := i - 1) (z := Session.z) (by omega))) ?_
 refine RQ.k XK 59 8 rfl ?_
 (conv=>whnf);refine ⟨rfl,?_⟩
 refine RQ.gv rfl rfl rfl rfl (fun h6 => V.fieldR rfl rfl rfl rfl (by decide) rfl (Nat.le_of_ble_eq_true rfl)) (fun h6 => ?_) (fun h6 => ?_)
 refine RQ.k XK 59 1 rfl ?_
 (conv=>whnf);refine ⟨rfl,?_⟩
 refine RQ.guardT rfl rfl rfl rfl (QOK.call (spec_l01In_fn ei.last 0 1000000) rfl (.cons (.one (.r .r)) (.cons (.one (.r .r)) (.cons (.one (.r .r)) (.nil)))) ?_)
 refine RQ.k XK 59 3 rfl ?_
 (conv=>whnf);refine ⟨rfl,?_⟩
 refine RQ.gv rfl rfl rfl rfl (fun h7 => V.fieldR rfl rfl rfl rfl (by decide) rfl (Nat.le_of_ble_eq_true rfl)) (fun h7 => ?_) (fun h7 => ?_)
 refine RQ.k XK 59 5 rfl ?_
 (conv=>whnf);refine ⟨rfl,?_⟩
 refine RQ.gv rfl rfl rfl rfl (fun h8 => V.fieldR rfl rfl rfl rfl (by decide) rfl (Nat.le_of_ble_eq_true rfl)) (fun h8 => ?_) (fun h8 => ?_)
 refine RQ.k XK 59 3 rfl ?_
 (conv=>whnf);refine ⟨rfl,?_⟩
 refine RQ.gv rfl rfl rfl rfl (fun h9 => V.fieldR rfl rfl rfl rfl (by decide) rfl (Nat.le_of_ble_eq_true rfl)) (fun h9 => ?_) (fun h9 => ?_)
 refine RQ.k XK 59 4 rfl ?_
 (conv=>whnf);refine ⟨rfl,?_⟩
 refine RQ.nil ?_
 exact ⟨_, by (try clear hr hdi); first | rfl | (simp_all; done) | (simp_all; omega) | grind, rfl, Le.of rfl⟩
 refine RQ.k XK 59 4 rfl ?_
 (conv=>whnf);refine ⟨rfl,?_⟩
 refine RQ.nil ?_
 exact ⟨_, by (try clear hr hdi); first | rfl | (simp_all; done) | (simp_all; omega) | grind, rfl, Le.of rfl⟩
 refine RQ.k XK 59 8 rfl ?_
 (conv=>whnf);refine ⟨rfl,?_⟩
 refine RQ.nil ?_
 exact ⟨_, by (try clear hr hdi); first | rfl | (simp_all; done) | (simp_all; omega) | grind, rfl, Le.of rfl⟩
 refine RQ.k XK 59 14 rfl ?_
 (conv=>whnf);refine ⟨rfl,?_⟩
 refine RQ.nil ?_
 exact ⟨_, by (try clear hr hdi); first | rfl | (simp_all; done) | (simp_all; omega) | grind, rfl, Le.of rfl⟩
 refine RQ.k XK 59 20 rfl ?_
 (conv=>whnf);refine ⟨rfl,?_⟩
 refine RQ.nil ?_
 exact ⟨_, by (try clear hr hdi); first | rfl | (simp_all; done) | (simp_all; omega) | grind, rfl, Le.of rfl⟩
 refine RQ.k XK 59 13 rfl ?_
 (conv=>whnf);refine ⟨rfl,?_⟩
 refine RQ.guardT rfl rfl rfl rfl (QOK.call (spec_l01In_fn ei.last 0 1000000) rfl (.cons (.one (.r .r)) (.cons (.one (.r .r)) (.cons (.one (.r .r)) (.nil)))) ?_)
 refine RQ.k XK 59 3 rfl ?_
 (conv=>whnf);refine ⟨rfl,?_⟩
 refine RQ.gv rfl rfl rfl rfl (fun h10 => V.fieldR rfl rfl rfl rfl (by decide) rfl (Nat.le_of_ble_eq_true rfl)) (fun h10 => ?_) (fun h10 => ?_)
 refine RQ.k XK 59 5 rfl ?_
 (conv=>whnf);refine ⟨rfl,?_⟩
 refine RQ.gv rfl rfl rfl rfl (fun h11 => V.fieldR rfl rfl rfl rfl (by decide) rfl (Nat.le_of_ble_eq_true rfl)) (fun h11 => ?_) (fun h11 => ?_)
 refine RQ.k XK 59 3 rfl ?_
 (conv=>whnf);refine ⟨rfl,?_⟩
 refine RQ.gv rfl rfl rfl rfl (fun h12 => V.fieldR rfl rfl rfl rfl (by decide) rfl (Nat.le_of_ble_eq_true rfl)) (fun h12 => ?_) (fun h12 => ?_)
 refine RQ.k XK 59 4 rfl ?_
 (conv=>whnf);refine ⟨rfl,?_⟩
 refine RQ.nil ?_
 exact ⟨_, by (try clear hr hdi); first | rfl | (simp_all; done) | (simp_all; omega) | grind, rfl, Le.of rfl⟩
 refine RQ.k XK 59 4 rfl ?_
 (conv=>whnf);refine ⟨rfl,?_⟩
 refine RQ.nil ?_
 exact ⟨_, by (try clear hr hdi); first | rfl | (simp_all; done) | (simp_all; omega) | grind, rfl, Le.of rfl⟩
 refine RQ.k XK 59 8 rfl ?_
 (conv=>whnf);refine ⟨rfl,?_⟩
 refine RQ.nil ?_
 exact ⟨_, by (try clear hr hdi); first | rfl | (simp_all; done) | (simp_all; omega) | grind, rfl, Le.of rfl⟩
 refine RQ.k XK 59 14 rfl ?_
 (conv=>whnf);refine ⟨rfl,?_⟩
 refine RQ.nil ?_
 exact ⟨_, by (try clear hr hdi); first | rfl | (simp_all; done) | (simp_all; omega) | grind, rfl, Le.of rfl⟩
 refine RQ.k XK 59 35 rfl ?_
 (conv=>whnf);refine ⟨rfl,?_⟩
 refine RQ.nil ?_
 exact ⟨_, by (try clear hr hdi); first | rfl | (simp_all; done) | (simp_all; omega) | grind, rfl, Le.of rfl⟩
 intro v3 hv13
 refine CW.cond rfl (fun h14 => ?_) (fun h14 => ?_)
 refine CW.g XK 59 [.n 1,.e [2]] rfl rfl rfl ?_
 refine CW.ret ?_
 exact Post.one (RV.b rfl (by have ht : sessF none a = false := q30; simp [ht])) (AOs.r AOs.e)
 refine CW.g XK 59 [.p,.e [0,3],.o 1] rfl rfl rfl ?_
 refine RW.v rfl (V.inc rfl rfl rfl hii hl0) ?_
 refine RW.g XK 59 [.o 1,.p] rfl rfl rfl ?_
 exact ⟨i + 1, by omega, ⟨by omega, by rw [← hr, hdi, sessF, prevO_succ hei]; first | (simp_all [sessOk, emp, prevO, prevGe]; done) | grind [sessOk, emp, prevO, prevGe]⟩, rfl, Le.c rfl <| Le.c rfl <| Le.e⟩
 have hii : a.length ≤ i := by have := h1; simp at this; first | exact this | omega | (simp; done) | (simp; omega)
 have hdi : a.drop i = [] := List.drop_eq_nil_of_le hii
 refine CW.exit ?_
 refine CW.g XK 59 [.e [0],.n 1,.e [2]] rfl rfl rfl ?_
 refine CW.ret ?_
 exact Post.one (RV.b rfl (by have ht : sessF none a = true := (by rw [← hr, hdi]; rfl); simp [ht])) (AOs.r AOs.e)
set_option maxHeartbeats 4000000 in
theorem spec_KeepOk_fn (k : Keep) (hok : okToKeep k) : Eng.Fn E.P 67 [.agg ((Keep.c k).map .r)] (.one (.one (.w (.v (.bool (keepOk k)))))) [.agg ((Keep.c k).map .r)] := by
 refine Eng.Fn.intro (E := E) (rvs := [.tmp 2]) Tryz.func67 rfl rfl rfl (by simp [outSlots, moved, rvSlot, sl]) ?_
 intro B g bo
 refine CW.g XK 59 [.e [0]] rfl rfl rfl ?_
 have hl1 : k.sessions.length ≤ maxLen := by have := hok.1.1; simp only [maxLen]; omega
 have hl2 : k.items.length ≤ maxLen := by have := hok.2.1; simp only [maxLen]; omega
 refine CW.h XK 59 [.o 1] rfl ?_;(conv=>whnf);intro b1;(conv=>whnf);refine ⟨rfl,?_⟩
 refine RW.freezeB (ts := (Keep.c k)) 1 rfl (DRd.r (DRd.r DRd.e)) ?_
 refine RW.g XK 59 [.o 1,.p,.e [1],.n 1,.e [1,3],.p] rfl rfl rfl ?_
 refine CW.loopI 59 (fun (i : Nat) => [(1, .rp (Keep.c k)), (3, I (i : Int))]) (fun (i : Nat) => i ≤ k.items.length ∧ itemF (prevO Item.key Item.z k.items i) (k.items.drop i) = itemF none k.items) (fun (i : Nat) => k.items.length - i) 0 rfl (Le.c rfl <| Le.c rfl <| Le.e) ⟨by omega, rfl⟩ ?_
 rintro i ⟨hb, hr⟩
 refine CW.g XK 59 [.n 1,.e [1,3,9]] rfl rfl rfl ?_
 refine CW.cond rfl (fun h2 => ?_) (fun h2 => ?_)
 have hii : i < k.items.length := by have := h2; simp at this; first | exact this | omega | (simp; done) | (simp; omega)
 obtain ⟨ei, hei⟩ : ∃ e, k.items[i]? = some e := ⟨_, List.getElem?_eq_getElem hii⟩
 have hdi := drop_get hei
 refine CW.g XK 59 [.p,.e [1,3],.o 3] rfl rfl rfl ?_
 refine RW.v rfl (V.indexS rfl rfl rfl rfl rfl rfl Item.len hei) ?_
 refine RW.h XK 59 [.o 3] rfl ?_;(conv=>whnf);intro b3;(conv=>whnf);refine ⟨rfl,?_⟩
 refine RW.freezeB (ts := (Item.c ei)) 4 rfl (DRd.r (DRd.r (DRd.r DRd.e))) ?_
 refine RW.g XK 59 [.p,.e [1,3,4]] rfl rfl rfl ?_
 refine CW.seqJ 59 (fun (v4 : Bool) => [(1, .rp (Keep.c k)), (3, I (i : Int)), (49, Bo v4)]) (fun v4 => v4 = ((((!(inR (ei.key.size : Int) 1 8)) || (decide ((i : Int) > 0) && (!(Op.bytesLess ((k.items.getD (i - 1) Item.z).key).toList ei.key.toList)))) || decide ((ei.val.size : Int) > 20)) || (!(inR ei.ver 1 1000000000)))) ?_ ?_
 refine CW.drawn (by kernel_rfl) ?_
 refine RQ.k XK 59 3 rfl ?_
 (conv=>whnf);refine ⟨rfl,?_⟩
 refine RQ.cons rfl (QOK.call (spec_l01In_fn (ei.key.size : Int) 1 8) rfl (.cons (.one (.r .r)) (.cons (.one (.r .r)) (.cons (.one (.r .r)) (.nil)))) ?_)
 refine RQ.k XK 59 2 rfl ?_
 (conv=>whnf);refine ⟨rfl,?_⟩
 refine RQ.gv rfl rfl rfl rfl (fun h5 => V.mv (d := I (i : Int)) rfl rfl) (fun h5 => ?_) (fun h5 => ?_)
 refine RQ.k XK 59 2 rfl ?_
 (conv=>whnf);refine ⟨rfl,?_⟩
 refine RQ.gv rfl rfl rfl rfl (fun h6 => V.fieldR rfl rfl rfl rfl (by decide) rfl (Nat.le_of_ble_eq_true rfl)) (fun h6 => ?_) (fun h6 => ?_)
 refine RQ.k XK 59 2 rfl ?_
 (conv=>whnf);refine ⟨rfl,?_⟩
 refine RQ.gt rfl rfl rfl rfl (V.dec (m := i) rfl rfl rfl (by have := h6; simp at this; omega) (by omega)) ?_
 refine RQ.gt rfl rfl rfl rfl (V.indexS rfl rfl rfl rfl rfl rfl Item.len (getD_some (l := k.items) (j := i - 1) (z := Item.z) (by omega))) ?_
 refine RQ.k XK 59 8 rfl ?_
 (conv=>whnf);refine ⟨rfl,?_⟩
 refine RQ.gv rfl rfl rfl rfl (fun h7 => V.fieldR rfl rfl rfl rfl (by decide) rfl (Nat.le_of_ble_eq_true rfl)) (fun h7 => ?_) (fun h7 => ?_)
 refine RQ.k XK 59 5 rfl ?_
 (conv=>whnf);refine ⟨rfl,?_⟩
 refine RQ.gv rfl rfl rfl rfl (fun h8 => V.fieldR rfl rfl rfl rfl (by decide) rfl (Nat.le_of_ble_eq_true rfl)) (fun h8 => ?_) (fun h8 => ?_)
 refine RQ.k XK 59 1 rfl ?_
 (conv=>whnf);refine ⟨rfl,?_⟩
 refine RQ.guardT rfl rfl rfl rfl (QOK.call (spec_l01In_fn ei.ver 1 1000000000) rfl (.cons (.one (.r .r)) (.cons (.one (.r .r)) (.cons (.one (.r .r)) (.nil)))) ?_)
 refine RQ.k XK 59 2 rfl ?_
 (conv=>whnf);refine ⟨rfl,?_⟩
 refine RQ.nil ?_
 exact ⟨_, by (try clear hr hdi); first | rfl | (simp_all; done) | (simp_all; omega) | grind, rfl, Le.of rfl⟩
 refine RQ.k XK 59 4 rfl ?_
 (conv=>whnf);refine ⟨rfl,?_⟩
 refine RQ.nil ?_
 exact ⟨_, by (try clear hr hdi); first | rfl | (simp_all; done) | (simp_all; omega) | grind, rfl, Le.of rfl⟩
 refine RQ.k XK 59 10 rfl ?_
 (conv=>whnf);refine ⟨rfl,?_⟩
 refine RQ.nil ?_
 exact ⟨_, by (try clear hr hdi); first | rfl | (simp_all; done) | (simp_all; omega) | grind, rfl, Le.of rfl⟩
 refine RQ.k XK 59 18 rfl ?_
 (conv=>whnf);refine ⟨rfl,?_⟩
 refine RQ.gv rfl rfl rfl rfl (fun h9 => V.fieldR rfl rfl rfl rfl (by decide) rfl (Nat.le_of_ble_eq_true rfl)) (fun h9 => ?_) (fun h9 => ?_)
 refine RQ.k XK 59 1 rfl ?_
 (conv=>whnf);refine ⟨rfl,?_⟩
 refine RQ.guardT rfl rfl rfl rfl (QOK.call (spec_l01In_fn ei.ver 1 1000000000) rfl (.cons (.one (.r .r)) (.cons (.one (.r .r)) (.cons (.one (.r .r)) (.nil)))) ?_)
 refine RQ.k XK 59 2 rfl ?_
 (conv=>whnf);refine ⟨rfl,?_⟩
 refine RQ.nil ?_
 exact ⟨_, by (try clear hr hdi); first | rfl | (simp_all; done) | (simp_all; omega) | grind, rfl, Le.of rfl⟩
 refine RQ.k XK 59 4 rfl ?_
 (conv=>whnf);refine ⟨rfl,?_⟩
 refine RQ.nil ?_
 exact ⟨_, by (try clear hr hdi); first | rfl | (simp_all; done) | (simp_all; omega) | grind, rfl, Le.of rfl⟩
 refine RQ.k XK 59 26 rfl ?_
 (conv=>whnf);refine ⟨rfl,?_⟩
 refine RQ.nil ?_
 exact ⟨_, by (try clear hr hdi); first | rfl | (simp_all; done) | (simp_all; omega) | grind, rfl, Le.of rfl⟩
 intro v4 hv10
 refine CW.cond rfl (fun h11 => ?_) (fun h11 => ?_)
 refine CW.g XK 59 [.n 1,.e [2]] rfl rfl rfl ?_
 refine CW.ret ?_
 exact Post.one (RV.b rfl (by have ht : itemF none k.items = false := (by rw [← hr, hdi, itemF]; first | (simp_all [itemOk, prevO, prevS]; done) | grind [itemOk, prevO, prevS]); simp [keepOk, ht])) (AOs.a rfl AOs.e)
 refine CW.g XK 59 [.p,.e [1,3],.o 1] rfl rfl rfl ?_
 refine RW.v rfl (V.inc rfl rfl rfl hii hl2) ?_
 refine RW.g XK 59 [.o 1,.p] rfl rfl rfl ?_
 exact ⟨i + 1, by omega, ⟨by omega, by rw [← hr, hdi, itemF, prevO_succ hei]; first | (simp_all [sessOk, itemOk, emp, prevO, prevGe, prevS]; done) | grind [sessOk, itemOk, emp, prevO, prevGe, prevS]⟩, rfl, Le.c rfl <| Le.c rfl <| Le.e⟩
 have hii : k.items.length ≤ i := by have := h2; simp at this; first | exact this | omega | (simp; done) | (simp; omega)
 have hdi : k.items.drop i = [] := List.drop_eq_nil_of_le hii
 refine CW.exit ?_
 refine CW.g XK 59 [.e [1]] rfl rfl rfl ?_
 refine CW.seqJ 59 (fun (v12 : Bool) => [(2, Bo v12)]) (fun v12 => v12 = ((sessF none k.sessions && decide ((k.sessions.length : Int) ≤ 3)) && decide ((k.items.length : Int) ≤ 8))) ?_ ?_
 refine CW.g XK 59 [.o 2] rfl rfl rfl ?_
 refine RW.call rfl (spec_l15Sessions_fn k.sessions) rfl (.cons (.one (.r .r)) (.nil)) fun g13 => ?_
 refine RW.g XK 59 [.o 1] rfl rfl rfl ?_
 refine RW.gv rfl rfl rfl rfl (fun h14 => V.fieldR rfl rfl rfl rfl (by decide) rfl (Nat.le_of_ble_eq_true rfl)) (fun h14 => ?_) (fun h14 => ?_)
 refine RW.g XK 59 [.o 5,.p] rfl rfl rfl ?_
 exact ⟨_, by (try clear hr hdi); first | rfl | (simp_all; done) | (simp_all; omega) | grind, rfl, Le.of rfl⟩
 refine RW.g XK 59 [.o 5,.p] rfl rfl rfl ?_
 exact ⟨_, by (try clear hr hdi); first | rfl | (simp_all; done) | (simp_all; omega) | grind, rfl, Le.of rfl⟩
 intro v12 hv15
 refine CW.ret ?_
 exact Post.one (RV.b rfl (by have hu : itemF none k.items = true := (by rw [← hr, hdi]; rfl); clear hr hdi; first | (simp_all [keepOk]; done) | grind [keepOk])) (AOs.a rfl AOs.e)
end Go.Proofs.YtdipdkfbaehglaaGreatDoor.Y
