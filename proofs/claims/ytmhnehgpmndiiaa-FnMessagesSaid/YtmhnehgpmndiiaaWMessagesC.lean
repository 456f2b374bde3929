import Derived.Test.YtmhnehgpmndiiaaWMessagesB
namespace Go.Proofs.Ytmhnehgpmndiiaa.Y
open Go Go.RowKit Go.Eng Go.Proofs
set_option maxRecDepth 10000
set_option maxHeartbeats 4000000 in
theorem spec_Encode_fn (m : Message) (hok : okToMessage m) : Eng.Fn E.P 22 [.agg ((Message.c m).map .r)] (.tup [.one (.w (.v (.string ((msgT m).1)))), .one (.w (.v (.bool ((msgT m).2))))]) [.agg ((Message.c m).map .r)] := by
 refine Eng.Fn.intro (E := E) (rvs := [.tmp 2, .tmp 3]) Try.func22 rfl rfl rfl (by simp [outSlots, moved, rvSlot, sl]) ?_
 intro B g bo
 refine CW.keep 87 [0] rfl ?_;(conv=>whnf);refine ⟨?_⟩
 have hl1 : m.entries.length ≤ maxLen := by have := hok.1.1; simp only [maxLen]; omega
 refine CW.seq ?_
 refine CW.region ?_
 refine RW.k XK 87 1 rfl ?_
 (conv=>whnf);intro b1;(conv=>whnf);refine ⟨rfl,?_⟩
 refine RW.freezeB (ts := (Message.c m)) 1 rfl (DRd.r (DRd.r (DRd.r (DRd.r (DRd.r (DRd.r (DRd.r (DRd.r (DRd.r (DRd.r (DRd.r (DRd.r DRd.e)))))))))))) ?_
 refine RW.k XK 87 2 rfl ?_
 (conv=>whnf);refine ⟨rfl,?_⟩
 refine RW.nil ?_
 refine CW.keep 87 [1] rfl ?_;(conv=>whnf);refine ⟨?_⟩
 refine CW.seq ?_
 refine CW.seq ?_
 refine CW.region ?_
 refine RW.k XK 87 1 rfl ?_
 (conv=>whnf);refine ⟨rfl,?_⟩
 refine RW.call rfl (spec_MessageOk_fn m hok) rfl (.cons (.agg (.cons (.r .r) (.cons (.r .r) (.cons (.r .r) (.cons (.r .r) (.cons (.r .r) (.cons (.r .r) (.cons (.r .r) (.cons (.r .r) (.cons (.r .r) (.cons (.r .r) (.cons (.r .r) (.cons (.r .r) (.nil)))))))))))))) (.nil)) fun g2 => ?_
 refine RW.k XK 87 1 rfl ?_
 (conv=>whnf);refine ⟨rfl,?_⟩
 refine RW.nil ?_
 refine CW.keep 87 [1,12] rfl ?_;(conv=>whnf);refine ⟨?_⟩
 refine CW.cond rfl (fun h3 => ?_) (fun h3 => ?_)
 ·skip
  have hmo := nT h3
  refine CW.k XK 87 1 [2,3] rfl ?_
  (conv=>whnf);refine ⟨rfl,?_⟩
  refine CW.ret ?_
  exact Post.tup (by decide) (RVs.c (RV.s rfl (by rw [msgT_no hmo] <;> rfl)) (RVs.c (RV.b rfl (by rw [msgT_no hmo] <;> rfl)) RVs.e)) (AOs.a rfl AOs.e)
 ·skip
  have hmo := nF h3
  have msz := MSz.of hmo
  refine CW.skip ?_
  refine CW.keep 87 [1] rfl ?_;(conv=>whnf);refine ⟨?_⟩
  refine CW.anyJ2 (fc := []) (L0 := [(1, .rp (Message.c m))]) 87 (fun (zz : Value × (Nat → Nat → Value) × (Nat → Nat → Value) × (Nat → Nat → Value) × (Nat → Nat → Value) × (Nat → Nat → Value) × (Nat → Nat → Value) × (Nat → Nat → Value)) => match zz with | (Xo4_9_1, go4_13_1, go4_17_1, go4_21_1, go4_25_1, go4_29_1, go4_33_1, go4_38_1) => [(4, S ((((((((bytesOf ([(IntKind.u8.wrap m.kind), (IntKind.u8.wrap m.from_), (IntKind.u8.wrap m.to)] : List Int)) ++ (varB m.term_.toNat)) ++ (varB m.index.toNat)) ++ (varB m.logTerm.toNat)) ++ (varB m.commit.toNat)) ++ (flagS m.ok)) ++ (flagS m.last)) ++ (varB (m.entries.length : Int).toNat)))]) (fun all hall f hf b0 hb K hK => ?_) ?_
  ·skip
   have ro4_23 : ∀ B, ∀ (Xo4_9_1 : Value), ∀ (go4_13_1 : Nat → Nat → Value), ∀ (go4_17_1 : Nat → Nat → Value), ∀ (go4_21_1 : Nat → Nat → Value), ∀ (go4_25_1 : Nat → Nat → Value), ∀ (go4_29_1 : Nat → Nat → Value), ∀ (go4_33_1 : Nat → Nat → Value), ∀ (go4_38_1 : Nat → Nat → Value), RA f E B all 0 (bt 41 2199023255551) ⟨87, [(4, S ((((((((bytesOf ([(IntKind.u8.wrap m.kind), (IntKind.u8.wrap m.from_), (IntKind.u8.wrap m.to)] : List Int)) ++ (varB m.term_.toNat)) ++ (varB m.index.toNat)) ++ (varB m.logTerm.toNat)) ++ (varB m.commit.toNat)) ++ (flagS m.ok)) ++ (flagS m.last)) ++ (varB (m.entries.length : Int).toNat)))] ++ b0⟩ K := by
    intro B Xo4_9_1 go4_13_1 go4_17_1 go4_21_1 go4_25_1 go4_29_1 go4_33_1 go4_38_1
    exact RA.of2 hall hf hb (RA.finH (Tell.of rfl) (by kernel_rfl) (hK (Xo4_9_1, go4_13_1, go4_17_1, go4_21_1, go4_25_1, go4_29_1, go4_33_1, go4_38_1) _ rfl (Le.of rfl)))
   have ro4_22 : ∀ B, ∀ (Xo4_9_1 : Value), ∀ (go4_13_1 : Nat → Nat → Value), ∀ (go4_17_1 : Nat → Nat → Value), ∀ (go4_21_1 : Nat → Nat → Value), ∀ (go4_25_1 : Nat → Nat → Value), ∀ (go4_29_1 : Nat → Nat → Value), ∀ (go4_33_1 : Nat → Nat → Value), RA f E B all 3 (bt 41 274877906943) ⟨87, [(47, S (((((((bytesOf ([(IntKind.u8.wrap m.kind), (IntKind.u8.wrap m.from_), (IntKind.u8.wrap m.to)] : List Int)) ++ (varB m.term_.toNat)) ++ (varB m.index.toNat)) ++ (varB m.logTerm.toNat)) ++ (varB m.commit.toNat)) ++ (flagS m.ok)) ++ (flagS m.last))), (50, I (m.entries.length : Int))] ++ b0⟩ K := by
    intro B Xo4_9_1 go4_13_1 go4_17_1 go4_21_1 go4_25_1 go4_29_1 go4_33_1
    refine RA.of2 hall hf hb (RA.stepH (L := [38]) (Tell.of rfl) (by kernel_rfl) (by simp) (RA.each ?_ (RA.each0)))
    ·skip
     refine RO.call rfl rfl (spec_l01Var_fn (m.entries.length : Int) (by first | exact msz.e | exact msz.i | exact msz.l | exact msz.c | exact ⟨by omega, by have h9 := msz.n; omega⟩)) rfl (.cons (.one (.r .r)) (.nil)) rfl fun go4_38_1 => ?_
     refine RA.first (i := 39) (ls' := (bt 41 1099511627775)) (Tell.of rfl) (by kernel_rfl) rfl rfl rfl (VF.p (V.cat rfl rfl rfl (by have z1 := msz.z1; have z2 := msz.z2; have z3 := msz.z3; have z4 := msz.z4; have z5 := msz.z5; have z6 := msz.z6; have z7 := msz.z7; have zd := msz.d; first | (simp only [ByteArray.size_append, maxLen, z6, z7]; omega) | (have h9 := hP.size msz; have h8 := entT_size 1 ei; have h7 := shB_size (s := (entT 1 ei).1) (by omega); simp only [ByteArray.size_append, maxLen]; omega) | (have h9 := hP.size msz; have h8 := confText_size (l := m.conf); have h7 := shB_size (s := (confText m.conf).1) (by omega); have h6 := shB_size (s := m.data) (by omega); simp only [ByteArray.size_append, maxLen]; omega)))) ?_
     refine RA.fr XK 87 0 [40] (bt 41 2199023255551) rfl rfl (by kernel_rfl) (Tell.of rfl) ?_
     (conv=>whnf);refine ⟨rfl,fun B=>?_⟩
     exact RA.to2 hall hf hb (ro4_23 B Xo4_9_1 go4_13_1 go4_17_1 go4_21_1 go4_25_1 go4_29_1 go4_33_1 go4_38_1) rfl rfl (by kernel_rfl)
   have ro4_21 : ∀ B, ∀ (Xo4_9_1 : Value), ∀ (go4_13_1 : Nat → Nat → Value), ∀ (go4_17_1 : Nat → Nat → Value), ∀ (go4_21_1 : Nat → Nat → Value), ∀ (go4_25_1 : Nat → Nat → Value), ∀ (go4_29_1 : Nat → Nat → Value), RA f E B all 5 (bt 41 249108103167) ⟨87, [(43, S ((((((bytesOf ([(IntKind.u8.wrap m.kind), (IntKind.u8.wrap m.from_), (IntKind.u8.wrap m.to)] : List Int)) ++ (varB m.term_.toNat)) ++ (varB m.index.toNat)) ++ (varB m.logTerm.toNat)) ++ (varB m.commit.toNat)) ++ (flagS m.ok))), (45, Bo m.last), (50, I (m.entries.length : Int))] ++ b0⟩ K := by
    intro B Xo4_9_1 go4_13_1 go4_17_1 go4_21_1 go4_25_1 go4_29_1
    refine RA.of2 hall hf hb (RA.stepH (L := [33]) (Tell.of rfl) (by kernel_rfl) (by simp) (RA.each ?_ (RA.each0)))
    ·skip
     refine RO.call rfl rfl (spec_l17Flag_fn m.last) rfl (.cons (.one (.r .r)) (.nil)) rfl fun go4_33_1 => ?_
     refine RA.first (i := 34) (ls' := (bt 41 274877906943)) (Tell.of rfl) (by kernel_rfl) rfl rfl rfl (VF.p (V.cat rfl rfl rfl (by have z1 := msz.z1; have z2 := msz.z2; have z3 := msz.z3; have z4 := msz.z4; have z5 := msz.z5; have z6 := msz.z6; have z7 := msz.z7; have zd := msz.d; first | (simp only [ByteArray.size_append, maxLen, z6, z7]; omega) | (have h9 := hP.size msz; have h8 := entT_size 1 ei; have h7 := shB_size (s := (entT 1 ei).1) (by omega); simp only [ByteArray.size_append, maxLen]; omega) | (have h9 := hP.size msz; have h8 := confText_size (l := m.conf); have h7 := shB_size (s := (confText m.conf).1) (by omega); have h6 := shB_size (s := m.data) (by omega); simp only [ByteArray.size_append, maxLen]; omega)))) ?_
     exact RA.to2 hall hf hb (ro4_22 B Xo4_9_1 go4_13_1 go4_17_1 go4_21_1 go4_25_1 go4_29_1 go4_33_1) rfl rfl (by kernel_rfl)
   have ro4_20 : ∀ B, ∀ (Xo4_9_1 : Value), ∀ (go4_13_1 : Nat → Nat → Value), ∀ (go4_17_1 : Nat → Nat → Value), ∀ (go4_21_1 : Nat → Nat → Value), ∀ (go4_25_1 : Nat → Nat → Value), RA f E B all 7 (bt 41 247497490431) ⟨87, [(39, S (((((bytesOf ([(IntKind.u8.wrap m.kind), (IntKind.u8.wrap m.from_), (IntKind.u8.wrap m.to)] : List Int)) ++ (varB m.term_.toNat)) ++ (varB m.index.toNat)) ++ (varB m.logTerm.toNat)) ++ (varB m.commit.toNat))), (41, Bo m.ok), (45, Bo m.last), (50, I (m.entries.length : Int))] ++ b0⟩ K := by
    intro B Xo4_9_1 go4_13_1 go4_17_1 go4_21_1 go4_25_1
    refine RA.of2 hall hf hb (RA.stepH (L := [29]) (Tell.of rfl) (by kernel_rfl) (by simp) (RA.each ?_ (RA.each0)))
    ·skip
     refine RO.call rfl rfl (spec_l17Flag_fn m.ok) rfl (.cons (.one (.r .r)) (.nil)) rfl fun go4_29_1 => ?_
     refine RA.first (i := 30) (ls' := (bt 41 249108103167)) (Tell.of rfl) (by kernel_rfl) rfl rfl rfl (VF.p (V.cat rfl rfl rfl (by have z1 := msz.z1; have z2 := msz.z2; have z3 := msz.z3; have z4 := msz.z4; have z5 := msz.z5; have z6 := msz.z6; have z7 := msz.z7; have zd := msz.d; first | (simp only [ByteArray.size_append, maxLen, z6, z7]; omega) | (have h9 := hP.size msz; have h8 := entT_size 1 ei; have h7 := shB_size (s := (entT 1 ei).1) (by omega); simp only [ByteArray.size_append, maxLen]; omega) | (have h9 := hP.size msz; have h8 := confText_size (l := m.conf); have h7 := shB_size (s := (confText m.conf).1) (by omega); have h6 := shB_size (s := m.data) (by omega); simp only [ByteArray.size_append, maxLen]; omega)))) ?_
     exact RA.to2 hall hf hb (ro4_21 B Xo4_9_1 go4_13_1 go4_17_1 go4_21_1 go4_25_1 go4_29_1) rfl rfl (by kernel_rfl)
   have ro4_19 : ∀ B, ∀ (Xo4_9_1 : Value), ∀ (go4_13_1 : Nat → Nat → Value), ∀ (go4_17_1 : Nat → Nat → Value), ∀ (go4_21_1 : Nat → Nat → Value), ∀ (go4_25_1 : Nat → Nat → Value), ∀ (go4_29_1 : Nat → Nat → Value), ∀ (go4_33_1 : Nat → Nat → Value), ∀ (go4_38_1 : Nat → Nat → Value), RA f E B all 9 (bt 41 531430620159) ⟨87, [(22, .w (sl 1 cU ([(IntKind.u8.wrap m.kind), (IntKind.u8.wrap m.from_), (IntKind.u8.wrap m.to)] : List Int)) Xo4_9_1), (26, S (varB m.term_.toNat)), (30, S (varB m.index.toNat)), (34, S (varB m.logTerm.toNat)), (38, S (varB m.commit.toNat)), (42, S (flagS m.ok)), (46, S (flagS m.last)), (51, S (varB (m.entries.length : Int).toNat))] ++ b0⟩ K := by
    intro B Xo4_9_1 go4_13_1 go4_17_1 go4_21_1 go4_25_1 go4_29_1 go4_33_1 go4_38_1
    refine RA.of2 hall hf hb (RA.stepH (L := [10]) (Tell.of rfl) (by kernel_rfl) (by simp) (RA.each ?_ (RA.each0)))
    ·skip
     refine RO.v rfl rfl (V.bytesStr (l := ([(IntKind.u8.wrap m.kind), (IntKind.u8.wrap m.from_), (IntKind.u8.wrap m.to)] : List Int)) rfl rfl rfl (by kernel_rfl) (by kernel_rfl) (.al (k := none) (i := 22) (sz := 1) (V := Xo4_9_1) rfl rfl nofun)) rfl ?_
     refine RA.first (i := 14) (ls' := (bt 41 531430637567)) (Tell.of rfl) (by kernel_rfl) rfl rfl rfl (VF.p (V.cat rfl rfl rfl (by have z1 := msz.z1; have z2 := msz.z2; have z3 := msz.z3; have z4 := msz.z4; have z5 := msz.z5; have z6 := msz.z6; have z7 := msz.z7; have zd := msz.d; first | (simp only [ByteArray.size_append, maxLen, z6, z7]; omega) | (have h9 := hP.size msz; have h8 := entT_size 1 ei; have h7 := shB_size (s := (entT 1 ei).1) (by omega); simp only [ByteArray.size_append, maxLen]; omega) | (have h9 := hP.size msz; have h8 := confText_size (l := m.conf); have h7 := shB_size (s := (confText m.conf).1) (by omega); have h6 := shB_size (s := m.data) (by omega); simp only [ByteArray.size_append, maxLen]; omega)))) ?_
     refine RA.first (i := 18) (ls' := (bt 41 531430899711)) (Tell.of rfl) (by kernel_rfl) rfl rfl rfl (VF.p (V.cat rfl rfl rfl (by have z1 := msz.z1; have z2 := msz.z2; have z3 := msz.z3; have z4 := msz.z4; have z5 := msz.z5; have z6 := msz.z6; have z7 := msz.z7; have zd := msz.d; first | (simp only [ByteArray.size_append, maxLen, z6, z7]; omega) | (have h9 := hP.size msz; have h8 := entT_size 1 ei; have h7 := shB_size (s := (entT 1 ei).1) (by omega); simp only [ByteArray.size_append, maxLen]; omega) | (have h9 := hP.size msz; have h8 := confText_size (l := m.conf); have h7 := shB_size (s := (confText m.conf).1) (by omega); have h6 := shB_size (s := m.data) (by omega); simp only [ByteArray.size_append, maxLen]; omega)))) ?_
     refine RA.first (i := 22) (ls' := (bt 41 531435094015)) (Tell.of rfl) (by kernel_rfl) rfl rfl rfl (VF.p (V.cat rfl rfl rfl (by have z1 := msz.z1; have z2 := msz.z2; have z3 := msz.z3; have z4 := msz.z4; have z5 := msz.z5; have z6 := msz.z6; have z7 := msz.z7; have zd := msz.d; first | (simp only [ByteArray.size_append, maxLen, z6, z7]; omega) | (have h9 := hP.size msz; have h8 := entT_size 1 ei; have h7 := shB_size (s := (entT 1 ei).1) (by omega); simp only [ByteArray.size_append, maxLen]; omega) | (have h9 := hP.size msz; have h8 := confText_size (l := m.conf); have h7 := shB_size (s := (confText m.conf).1) (by omega); have h6 := shB_size (s := m.data) (by omega); simp only [ByteArray.size_append, maxLen]; omega)))) ?_
     refine RA.first (i := 26) (ls' := (bt 41 531502202879)) (Tell.of rfl) (by kernel_rfl) rfl rfl rfl (VF.p (V.cat rfl rfl rfl (by have z1 := msz.z1; have z2 := msz.z2; have z3 := msz.z3; have z4 := msz.z4; have z5 := msz.z5; have z6 := msz.z6; have z7 := msz.z7; have zd := msz.d; first | (simp only [ByteArray.size_append, maxLen, z6, z7]; omega) | (have h9 := hP.size msz; have h8 := entT_size 1 ei; have h7 := shB_size (s := (entT 1 ei).1) (by omega); simp only [ByteArray.size_append, maxLen]; omega) | (have h9 := hP.size msz; have h8 := confText_size (l := m.conf); have h7 := shB_size (s := (confText m.conf).1) (by omega); have h6 := shB_size (s := m.data) (by omega); simp only [ByteArray.size_append, maxLen]; omega)))) ?_
     refine RA.first (i := 30) (ls' := (bt 41 532575944703)) (Tell.of rfl) (by kernel_rfl) rfl rfl rfl (VF.p (V.cat rfl rfl rfl (by have z1 := msz.z1; have z2 := msz.z2; have z3 := msz.z3; have z4 := msz.z4; have z5 := msz.z5; have z6 := msz.z6; have z7 := msz.z7; have zd := msz.d; first | (simp only [ByteArray.size_append, maxLen, z6, z7]; omega) | (have h9 := hP.size msz; have h8 := entT_size 1 ei; have h7 := shB_size (s := (entT 1 ei).1) (by omega); simp only [ByteArray.size_append, maxLen]; omega) | (have h9 := hP.size msz; have h8 := confText_size (l := m.conf); have h7 := shB_size (s := (confText m.conf).1) (by omega); have h6 := shB_size (s := m.data) (by omega); simp only [ByteArray.size_append, maxLen]; omega)))) ?_
     refine RA.first (i := 34) (ls' := (bt 41 549755813887)) (Tell.of rfl) (by kernel_rfl) rfl rfl rfl (VF.p (V.cat rfl rfl rfl (by have z1 := msz.z1; have z2 := msz.z2; have z3 := msz.z3; have z4 := msz.z4; have z5 := msz.z5; have z6 := msz.z6; have z7 := msz.z7; have zd := msz.d; first | (simp only [ByteArray.size_append, maxLen, z6, z7]; omega) | (have h9 := hP.size msz; have h8 := entT_size 1 ei; have h7 := shB_size (s := (entT 1 ei).1) (by omega); simp only [ByteArray.size_append, maxLen]; omega) | (have h9 := hP.size msz; have h8 := confText_size (l := m.conf); have h7 := shB_size (s := (confText m.conf).1) (by omega); have h6 := shB_size (s := m.data) (by omega); simp only [ByteArray.size_append, maxLen]; omega)))) ?_
     refine RA.first (i := 39) (ls' := (bt 41 1099511627775)) (Tell.of rfl) (by kernel_rfl) rfl rfl rfl (VF.p (V.cat rfl rfl rfl (by have z1 := msz.z1; have z2 := msz.z2; have z3 := msz.z3; have z4 := msz.z4; have z5 := msz.z5; have z6 := msz.z6; have z7 := msz.z7; have zd := msz.d; first | (simp only [ByteArray.size_append, maxLen, z6, z7]; omega) | (have h9 := hP.size msz; have h8 := entT_size 1 ei; have h7 := shB_size (s := (entT 1 ei).1) (by omega); simp only [ByteArray.size_append, maxLen]; omega) | (have h9 := hP.size msz; have h8 := confText_size (l := m.conf); have h7 := shB_size (s := (confText m.conf).1) (by omega); have h6 := shB_size (s := m.data) (by omega); simp only [ByteArray.size_append, maxLen]; omega)))) ?_
     refine RA.fr XK 87 0 [40] (bt 41 2199023255551) rfl rfl (by kernel_rfl) (Tell.of rfl) ?_
     (conv=>whnf);refine ⟨rfl,fun B=>?_⟩
     exact RA.to2 hall hf hb (ro4_23 B Xo4_9_1 go4_13_1 go4_17_1 go4_21_1 go4_25_1 go4_29_1 go4_33_1 go4_38_1) rfl rfl (by kernel_rfl)
   have ro4_18 : ∀ B, ∀ (Xo4_9_1 : Value), ∀ (go4_13_1 : Nat → Nat → Value), ∀ (go4_17_1 : Nat → Nat → Value), ∀ (go4_21_1 : Nat → Nat → Value), RA f E B all 9 (bt 41 247396827135) ⟨87, [(35, S ((((bytesOf ([(IntKind.u8.wrap m.kind), (IntKind.u8.wrap m.from_), (IntKind.u8.wrap m.to)] : List Int)) ++ (varB m.term_.toNat)) ++ (varB m.index.toNat)) ++ (varB m.logTerm.toNat))), (37, I m.commit), (41, Bo m.ok), (45, Bo m.last), (50, I (m.entries.length : Int))] ++ b0⟩ K := by
    intro B Xo4_9_1 go4_13_1 go4_17_1 go4_21_1
    refine RA.of2 hall hf hb (RA.stepH (L := [25]) (Tell.of rfl) (by kernel_rfl) (by simp) (RA.each ?_ (RA.each0)))
    ·skip
     refine RO.call rfl rfl (spec_l01Var_fn m.commit (by first | exact msz.e | exact msz.i | exact msz.l | exact msz.c | exact ⟨by omega, by have h9 := msz.n; omega⟩)) rfl (.cons (.one (.r .r)) (.nil)) rfl fun go4_25_1 => ?_
     refine RA.first (i := 26) (ls' := (bt 41 247497490431)) (Tell.of rfl) (by kernel_rfl) rfl rfl rfl (VF.p (V.cat rfl rfl rfl (by have z1 := msz.z1; have z2 := msz.z2; have z3 := msz.z3; have z4 := msz.z4; have z5 := msz.z5; have z6 := msz.z6; have z7 := msz.z7; have zd := msz.d; first | (simp only [ByteArray.size_append, maxLen, z6, z7]; omega) | (have h9 := hP.size msz; have h8 := entT_size 1 ei; have h7 := shB_size (s := (entT 1 ei).1) (by omega); simp only [ByteArray.size_append, maxLen]; omega) | (have h9 := hP.size msz; have h8 := confText_size (l := m.conf); have h7 := shB_size (s := (confText m.conf).1) (by omega); have h6 := shB_size (s := m.data) (by omega); simp only [ByteArray.size_append, maxLen]; omega)))) ?_
     exact RA.to2 hall hf hb (ro4_20 B Xo4_9_1 go4_13_1 go4_17_1 go4_21_1 go4_25_1) rfl rfl (by kernel_rfl)
   have ro4_17 : ∀ B, ∀ (go4_13_1 : Nat → Nat → Value), ∀ (go4_17_1 : Nat → Nat → Value), ∀ (go4_21_1 : Nat → Nat → Value), ∀ (go4_25_1 : Nat → Nat → Value), ∀ (go4_29_1 : Nat → Nat → Value), ∀ (go4_33_1 : Nat → Nat → Value), ∀ (go4_38_1 : Nat → Nat → Value), RA f E B all 10 (bt 41 531430619647) ⟨87, [(15, .r (.v (.int .u8 (IntKind.u8.wrap m.kind)))), (18, .r (.v (.int .u8 (IntKind.u8.wrap m.from_)))), (21, .r (.v (.int .u8 (IntKind.u8.wrap m.to)))), (26, S (varB m.term_.toNat)), (30, S (varB m.index.toNat)), (34, S (varB m.logTerm.toNat)), (38, S (varB m.commit.toNat)), (42, S (flagS m.ok)), (46, S (flagS m.last)), (51, S (varB (m.entries.length : Int).toNat))] ++ b0⟩ K := by
    intro B go4_13_1 go4_17_1 go4_21_1 go4_25_1 go4_29_1 go4_33_1 go4_38_1
    refine RA.of2 hall hf hb (RA.stepH (L := [9]) (Tell.of rfl) (by kernel_rfl) (by simp) (RA.each ?_ (RA.each0)))
    ·skip
     refine RO.buildV (c := cU) (L := [(IntKind.u8.wrap m.kind), (IntKind.u8.wrap m.from_), (IntKind.u8.wrap m.to)]) (vs := [(.int .u8 (IntKind.u8.wrap m.kind)), (.int .u8 (IntKind.u8.wrap m.from_)), (.int .u8 (IntKind.u8.wrap m.to))]) [.tmp 15, .tmp 18, .tmp 21] rfl rfl rfl rfl rfl rfl rfl rfl rfl rfl rfl rfl (by decide) (by decide) rfl rfl fun Xo4_9_1 => ?_
     exact RA.to2 hall hf hb (ro4_19 B Xo4_9_1 go4_13_1 go4_17_1 go4_21_1 go4_25_1 go4_29_1 go4_33_1 go4_38_1) rfl rfl (by kernel_rfl)
   have ro4_16 : ∀ B, ∀ (Xo4_9_1 : Value), ∀ (go4_13_1 : Nat → Nat → Value), ∀ (go4_17_1 : Nat → Nat → Value), ∀ (go4_21_1 : Nat → Nat → Value), ∀ (go4_25_1 : Nat → Nat → Value), ∀ (go4_29_1 : Nat → Nat → Value), ∀ (go4_33_1 : Nat → Nat → Value), RA f E B all 10 (bt 41 256552713215) ⟨87, [(22, .w (sl 1 cU ([(IntKind.u8.wrap m.kind), (IntKind.u8.wrap m.from_), (IntKind.u8.wrap m.to)] : List Int)) Xo4_9_1), (26, S (varB m.term_.toNat)), (30, S (varB m.index.toNat)), (34, S (varB m.logTerm.toNat)), (38, S (varB m.commit.toNat)), (42, S (flagS m.ok)), (46, S (flagS m.last)), (50, I (m.entries.length : Int))] ++ b0⟩ K := by
    intro B Xo4_9_1 go4_13_1 go4_17_1 go4_21_1 go4_25_1 go4_29_1 go4_33_1
    refine RA.of2 hall hf hb (RA.stepH (L := [10, 38]) (Tell.of rfl) (by kernel_rfl) (by simp) (RA.each ?_ (RA.each ?_ (RA.each0))))
    ·skip
     refine RO.v rfl rfl (V.bytesStr (l := ([(IntKind.u8.wrap m.kind), (IntKind.u8.wrap m.from_), (IntKind.u8.wrap m.to)] : List Int)) rfl rfl rfl (by kernel_rfl) (by kernel_rfl) (.al (k := none) (i := 22) (sz := 1) (V := Xo4_9_1) rfl rfl nofun)) rfl ?_
     refine RA.first (i := 14) (ls' := (bt 41 256552730623)) (Tell.of rfl) (by kernel_rfl) rfl rfl rfl (VF.p (V.cat rfl rfl rfl (by have z1 := msz.z1; have z2 := msz.z2; have z3 := msz.z3; have z4 := msz.z4; have z5 := msz.z5; have z6 := msz.z6; have z7 := msz.z7; have zd := msz.d; first | (simp only [ByteArray.size_append, maxLen, z6, z7]; omega) | (have h9 := hP.size msz; have h8 := entT_size 1 ei; have h7 := shB_size (s := (entT 1 ei).1) (by omega); simp only [ByteArray.size_append, maxLen]; omega) | (have h9 := hP.size msz; have h8 := confText_size (l := m.conf); have h7 := shB_size (s := (confText m.conf).1) (by omega); have h6 := shB_size (s := m.data) (by omega); simp only [ByteArray.size_append, maxLen]; omega)))) ?_
     refine RA.first (i := 18) (ls' := (bt 41 256552992767)) (Tell.of rfl) (by kernel_rfl) rfl rfl rfl (VF.p (V.cat rfl rfl rfl (by have z1 := msz.z1; have z2 := msz.z2; have z3 := msz.z3; have z4 := msz.z4; have z5 := msz.z5; have z6 := msz.z6; have z7 := msz.z7; have zd := msz.d; first | (simp only [ByteArray.size_append, maxLen, z6, z7]; omega) | (have h9 := hP.size msz; have h8 := entT_size 1 ei; have h7 := shB_size (s := (entT 1 ei).1) (by omega); simp only [ByteArray.size_append, maxLen]; omega) | (have h9 := hP.size msz; have h8 := confText_size (l := m.conf); have h7 := shB_size (s := (confText m.conf).1) (by omega); have h6 := shB_size (s := m.data) (by omega); simp only [ByteArray.size_append, maxLen]; omega)))) ?_
     refine RA.first (i := 22) (ls' := (bt 41 256557187071)) (Tell.of rfl) (by kernel_rfl) rfl rfl rfl (VF.p (V.cat rfl rfl rfl (by have z1 := msz.z1; have z2 := msz.z2; have z3 := msz.z3; have z4 := msz.z4; have z5 := msz.z5; have z6 := msz.z6; have z7 := msz.z7; have zd := msz.d; first | (simp only [ByteArray.size_append, maxLen, z6, z7]; omega) | (have h9 := hP.size msz; have h8 := entT_size 1 ei; have h7 := shB_size (s := (entT 1 ei).1) (by omega); simp only [ByteArray.size_append, maxLen]; omega) | (have h9 := hP.size msz; have h8 := confText_size (l := m.conf); have h7 := shB_size (s := (confText m.conf).1) (by omega); have h6 := shB_size (s := m.data) (by omega); simp only [ByteArray.size_append, maxLen]; omega)))) ?_
     refine RA.first (i := 26) (ls' := (bt 41 256624295935)) (Tell.of rfl) (by kernel_rfl) rfl rfl rfl (VF.p (V.cat rfl rfl rfl (by have z1 := msz.z1; have z2 := msz.z2; have z3 := msz.z3; have z4 := msz.z4; have z5 := msz.z5; have z6 := msz.z6; have z7 := msz.z7; have zd := msz.d; first | (simp only [ByteArray.size_append, maxLen, z6, z7]; omega) | (have h9 := hP.size msz; have h8 := entT_size 1 ei; have h7 := shB_size (s := (entT 1 ei).1) (by omega); simp only [ByteArray.size_append, maxLen]; omega) | (have h9 := hP.size msz; have h8 := confText_size (l := m.conf); have h7 := shB_size (s := (confText m.conf).1) (by omega); have h6 := shB_size (s := m.data) (by omega); simp only [ByteArray.size_append, maxLen]; omega)))) ?_
     refine RA.first (i := 30) (ls' := (bt 41 257698037759)) (Tell.of rfl) (by kernel_rfl) rfl rfl rfl (VF.p (V.cat rfl rfl rfl (by have z1 := msz.z1; have z2 := msz.z2; have z3 := msz.z3; have z4 := msz.z4; have z5 := msz.z5; have z6 := msz.z6; have z7 := msz.z7; have zd := msz.d; first | (simp only [ByteArray.size_append, maxLen, z6, z7]; omega) | (have h9 := hP.size msz; have h8 := entT_size 1 ei; have h7 := shB_size (s := (entT 1 ei).1) (by omega); simp only [ByteArray.size_append, maxLen]; omega) | (have h9 := hP.size msz; have h8 := confText_size (l := m.conf); have h7 := shB_size (s := (confText m.conf).1) (by omega); have h6 := shB_size (s := m.data) (by omega); simp only [ByteArray.size_append, maxLen]; omega)))) ?_
     refine RA.first (i := 34) (ls' := (bt 41 274877906943)) (Tell.of rfl) (by kernel_rfl) rfl rfl rfl (VF.p (V.cat rfl rfl rfl (by have z1 := msz.z1; have z2 := msz.z2; have z3 := msz.z3; have z4 := msz.z4; have z5 := msz.z5; have z6 := msz.z6; have z7 := msz.z7; have zd := msz.d; first | (simp only [ByteArray.size_append, maxLen, z6, z7]; omega) | (have h9 := hP.size msz; have h8 := entT_size 1 ei; have h7 := shB_size (s := (entT 1 ei).1) (by omega); simp only [ByteArray.size_append, maxLen]; omega) | (have h9 := hP.size msz; have h8 := confText_size (l := m.conf); have h7 := shB_size (s := (confText m.conf).1) (by omega); have h6 := shB_size (s := m.data) (by omega); simp only [ByteArray.size_append, maxLen]; omega)))) ?_
     exact RA.to2 hall hf hb (ro4_22 B Xo4_9_1 go4_13_1 go4_17_1 go4_21_1 go4_25_1 go4_29_1 go4_33_1) rfl rfl (by kernel_rfl)
    ·skip
     refine RO.call rfl rfl (spec_l01Var_fn (m.entries.length : Int) (by first | exact msz.e | exact msz.i | exact msz.l | exact msz.c | exact ⟨by omega, by have h9 := msz.n; omega⟩)) rfl (.cons (.one (.r .r)) (.nil)) rfl fun go4_38_1 => ?_
     exact RA.to2 hall hf hb (ro4_19 B Xo4_9_1 go4_13_1 go4_17_1 go4_21_1 go4_25_1 go4_29_1 go4_33_1 go4_38_1) rfl rfl (by kernel_rfl)
   have ro4_15 : ∀ B, ∀ (go4_13_1 : Nat → Nat → Value), ∀ (go4_17_1 : Nat → Nat → Value), ∀ (go4_21_1 : Nat → Nat → Value), ∀ (go4_25_1 : Nat → Nat → Value), ∀ (go4_29_1 : Nat → Nat → Value), ∀ (go4_33_1 : Nat → Nat → Value), RA f E B all 11 (bt 41 256552712703) ⟨87, [(15, .r (.v (.int .u8 (IntKind.u8.wrap m.kind)))), (18, .r (.v (.int .u8 (IntKind.u8.wrap m.from_)))), (21, .r (.v (.int .u8 (IntKind.u8.wrap m.to)))), (26, S (varB m.term_.toNat)), (30, S (varB m.index.toNat)), (34, S (varB m.logTerm.toNat)), (38, S (varB m.commit.toNat)), (42, S (flagS m.ok)), (46, S (flagS m.last)), (50, I (m.entries.length : Int))] ++ b0⟩ K := by
    intro B go4_13_1 go4_17_1 go4_21_1 go4_25_1 go4_29_1 go4_33_1
    refine RA.of2 hall hf hb (RA.stepH (L := [9, 38]) (Tell.of rfl) (by kernel_rfl) (by simp) (RA.each ?_ (RA.each ?_ (RA.each0))))
    ·skip
     refine RO.buildV (c := cU) (L := [(IntKind.u8.wrap m.kind), (IntKind.u8.wrap m.from_), (IntKind.u8.wrap m.to)]) (vs := [(.int .u8 (IntKind.u8.wrap m.kind)), (.int .u8 (IntKind.u8.wrap m.from_)), (.int .u8 (IntKind.u8.wrap m.to))]) [.tmp 15, .tmp 18, .tmp 21] rfl rfl rfl rfl rfl rfl rfl rfl rfl rfl rfl rfl (by decide) (by decide) rfl rfl fun Xo4_9_1 => ?_
     exact RA.to2 hall hf hb (ro4_16 B Xo4_9_1 go4_13_1 go4_17_1 go4_21_1 go4_25_1 go4_29_1 go4_33_1) rfl rfl (by kernel_rfl)
    ·skip
     refine RO.call rfl rfl (spec_l01Var_fn (m.entries.length : Int) (by first | exact msz.e | exact msz.i | exact msz.l | exact msz.c | exact ⟨by omega, by have h9 := msz.n; omega⟩)) rfl (.cons (.one (.r .r)) (.nil)) rfl fun go4_38_1 => ?_
     exact RA.to2 hall hf hb (ro4_17 B go4_13_1 go4_17_1 go4_21_1 go4_25_1 go4_29_1 go4_33_1 go4_38_1) rfl rfl (by kernel_rfl)
   have ro4_14 : ∀ B, ∀ (Xo4_9_1 : Value), ∀ (go4_13_1 : Nat → Nat → Value), ∀ (go4_17_1 : Nat → Nat → Value), ∀ (go4_21_1 : Nat → Nat → Value), ∀ (go4_25_1 : Nat → Nat → Value), ∀ (go4_29_1 : Nat → Nat → Value), RA f E B all 11 (bt 41 247962778623) ⟨87, [(22, .w (sl 1 cU ([(IntKind.u8.wrap m.kind), (IntKind.u8.wrap m.from_), (IntKind.u8.wrap m.to)] : List Int)) Xo4_9_1), (26, S (varB m.term_.toNat)), (30, S (varB m.index.toNat)), (34, S (varB m.logTerm.toNat)), (38, S (varB m.commit.toNat)), (42, S (flagS m.ok)), (45, Bo m.last), (50, I (m.entries.length : Int))] ++ b0⟩ K := by
    intro B Xo4_9_1 go4_13_1 go4_17_1 go4_21_1 go4_25_1 go4_29_1
    refine RA.of2 hall hf hb (RA.stepH (L := [10, 33]) (Tell.of rfl) (by kernel_rfl) (by simp) (RA.each ?_ (RA.each ?_ (RA.each0))))
    ·skip
     refine RO.v rfl rfl (V.bytesStr (l := ([(IntKind.u8.wrap m.kind), (IntKind.u8.wrap m.from_), (IntKind.u8.wrap m.to)] : List Int)) rfl rfl rfl (by kernel_rfl) (by kernel_rfl) (.al (k := none) (i := 22) (sz := 1) (V := Xo4_9_1) rfl rfl nofun)) rfl ?_
     refine RA.first (i := 14) (ls' := (bt 41 247962796031)) (Tell.of rfl) (by kernel_rfl) rfl rfl rfl (VF.p (V.cat rfl rfl rfl (by have z1 := msz.z1; have z2 := msz.z2; have z3 := msz.z3; have z4 := msz.z4; have z5 := msz.z5; have z6 := msz.z6; have z7 := msz.z7; have zd := msz.d; first | (simp only [ByteArray.size_append, maxLen, z6, z7]; omega) | (have h9 := hP.size msz; have h8 := entT_size 1 ei; have h7 := shB_size (s := (entT 1 ei).1) (by omega); simp only [ByteArray.size_append, maxLen]; omega) | (have h9 := hP.size msz; have h8 := confText_size (l := m.conf); have h7 := shB_size (s := (confText m.conf).1) (by omega); have h6 := shB_size (s := m.data) (by omega); simp only [ByteArray.size_append, maxLen]; omega)))) ?_
     refine RA.first (i := 18) (ls' := (bt 41 247963058175)) (Tell.of rfl) (by kernel_rfl) rfl rfl rfl (VF.p (V.cat rfl rfl rfl (by have z1 := msz.z1; have z2 := msz.z2; have z3 := msz.z3; have z4 := msz.z4; have z5 := msz.z5; have z6 := msz.z6; have z7 := msz.z7; have zd := msz.d; first | (simp only [ByteArray.size_append, maxLen, z6, z7]; omega) | (have h9 := hP.size msz; have h8 := entT_size 1 ei; have h7 := shB_size (s := (entT 1 ei).1) (by omega); simp only [ByteArray.size_append, maxLen]; omega) | (have h9 := hP.size msz; have h8 := confText_size (l := m.conf); have h7 := shB_size (s := (confText m.conf).1) (by omega); have h6 := shB_size (s := m.data) (by omega); simp only [ByteArray.size_append, maxLen]; omega)))) ?_
     refine RA.first (i := 22) (ls' := (bt 41 247967252479)) (Tell.of rfl) (by kernel_rfl) rfl rfl rfl (VF.p (V.cat rfl rfl rfl (by have z1 := msz.z1; have z2 := msz.z2; have z3 := msz.z3; have z4 := msz.z4; have z5 := msz.z5; have z6 := msz.z6; have z7 := msz.z7; have zd := msz.d; first | (simp only [ByteArray.size_append, maxLen, z6, z7]; omega) | (have h9 := hP.size msz; have h8 := entT_size 1 ei; have h7 := shB_size (s := (entT 1 ei).1) (by omega); simp only [ByteArray.size_append, maxLen]; omega) | (have h9 := hP.size msz; have h8 := confText_size (l := m.conf); have h7 := shB_size (s := (confText m.conf).1) (by omega); have h6 := shB_size (s := m.data) (by omega); simp only [ByteArray.size_append, maxLen]; omega)))) ?_
     refine RA.first (i := 26) (ls' := (bt 41 248034361343)) (Tell.of rfl) (by kernel_rfl) rfl rfl rfl (VF.p (V.cat rfl rfl rfl (by have z1 := msz.z1; have z2 := msz.z2; have z3 := msz.z3; have z4 := msz.z4; have z5 := msz.z5; have z6 := msz.z6; have z7 := msz.z7; have zd := msz.d; first | (simp only [ByteArray.size_append, maxLen, z6, z7]; omega) | (have h9 := hP.size msz; have h8 := entT_size 1 ei; have h7 := shB_size (s := (entT 1 ei).1) (by omega); simp only [ByteArray.size_append, maxLen]; omega) | (have h9 := hP.size msz; have h8 := confText_size (l := m.conf); have h7 := shB_size (s := (confText m.conf).1) (by omega); have h6 := shB_size (s := m.data) (by omega); simp only [ByteArray.size_append, maxLen]; omega)))) ?_
     refine RA.first (i := 30) (ls' := (bt 41 249108103167)) (Tell.of rfl) (by kernel_rfl) rfl rfl rfl (VF.p (V.cat rfl rfl rfl (by have z1 := msz.z1; have z2 := msz.z2; have z3 := msz.z3; have z4 := msz.z4; have z5 := msz.z5; have z6 := msz.z6; have z7 := msz.z7; have zd := msz.d; first | (simp only [ByteArray.size_append, maxLen, z6, z7]; omega) | (have h9 := hP.size msz; have h8 := entT_size 1 ei; have h7 := shB_size (s := (entT 1 ei).1) (by omega); simp only [ByteArray.size_append, maxLen]; omega) | (have h9 := hP.size msz; have h8 := confText_size (l := m.conf); have h7 := shB_size (s := (confText m.conf).1) (by omega); have h6 := shB_size (s := m.data) (by omega); simp only [ByteArray.size_append, maxLen]; omega)))) ?_
     exact RA.to2 hall hf hb (ro4_21 B Xo4_9_1 go4_13_1 go4_17_1 go4_21_1 go4_25_1 go4_29_1) rfl rfl (by kernel_rfl)
    ·skip
     refine RO.call rfl rfl (spec_l17Flag_fn m.last) rfl (.cons (.one (.r .r)) (.nil)) rfl fun go4_33_1 => ?_
     exact RA.to2 hall hf hb (ro4_16 B Xo4_9_1 go4_13_1 go4_17_1 go4_21_1 go4_25_1 go4_29_1 go4_33_1) rfl rfl (by kernel_rfl)
   have ro4_13 : ∀ B, ∀ (Xo4_9_1 : Value), ∀ (go4_13_1 : Nat → Nat → Value), ∀ (go4_17_1 : Nat → Nat → Value), RA f E B all 11 (bt 41 247390535679) ⟨87, [(31, S (((bytesOf ([(IntKind.u8.wrap m.kind), (IntKind.u8.wrap m.from_), (IntKind.u8.wrap m.to)] : List Int)) ++ (varB m.term_.toNat)) ++ (varB m.index.toNat))), (33, I m.logTerm), (37, I m.commit), (41, Bo m.ok), (45, Bo m.last), (50, I (m.entries.length : Int))] ++ b0⟩ K := by
    intro B Xo4_9_1 go4_13_1 go4_17_1
    refine RA.of2 hall hf hb (RA.stepH (L := [21]) (Tell.of rfl) (by kernel_rfl) (by simp) (RA.each ?_ (RA.each0)))
    ·skip
     refine RO.call rfl rfl (spec_l01Var_fn m.logTerm (by first | exact msz.e | exact msz.i | exact msz.l | exact msz.c | exact ⟨by omega, by have h9 := msz.n; omega⟩)) rfl (.cons (.one (.r .r)) (.nil)) rfl fun go4_21_1 => ?_
     refine RA.first (i := 22) (ls' := (bt 41 247396827135)) (Tell.of rfl) (by kernel_rfl) rfl rfl rfl (VF.p (V.cat rfl rfl rfl (by have z1 := msz.z1; have z2 := msz.z2; have z3 := msz.z3; have z4 := msz.z4; have z5 := msz.z5; have z6 := msz.z6; have z7 := msz.z7; have zd := msz.d; first | (simp only [ByteArray.size_append, maxLen, z6, z7]; omega) | (have h9 := hP.size msz; have h8 := entT_size 1 ei; have h7 := shB_size (s := (entT 1 ei).1) (by omega); simp only [ByteArray.size_append, maxLen]; omega) | (have h9 := hP.size msz; have h8 := confText_size (l := m.conf); have h7 := shB_size (s := (confText m.conf).1) (by omega); have h6 := shB_size (s := m.data) (by omega); simp only [ByteArray.size_append, maxLen]; omega)))) ?_
     exact RA.to2 hall hf hb (ro4_18 B Xo4_9_1 go4_13_1 go4_17_1 go4_21_1) rfl rfl (by kernel_rfl)
   have ro4_12 : ∀ B, ∀ (go4_13_1 : Nat → Nat → Value), ∀ (go4_17_1 : Nat → Nat → Value), ∀ (go4_21_1 : Nat → Nat → Value), ∀ (go4_25_1 : Nat → Nat → Value), ∀ (go4_29_1 : Nat → Nat → Value), RA f E B all 12 (bt 41 247962778111) ⟨87, [(15, .r (.v (.int .u8 (IntKind.u8.wrap m.kind)))), (18, .r (.v (.int .u8 (IntKind.u8.wrap m.from_)))), (21, .r (.v (.int .u8 (IntKind.u8.wrap m.to)))), (26, S (varB m.term_.toNat)), (30, S (varB m.index.toNat)), (34, S (varB m.logTerm.toNat)), (38, S (varB m.commit.toNat)), (42, S (flagS m.ok)), (45, Bo m.last), (50, I (m.entries.length : Int))] ++ b0⟩ K := by
    intro B go4_13_1 go4_17_1 go4_21_1 go4_25_1 go4_29_1
    refine RA.of2 hall hf hb (RA.stepH (L := [9, 33]) (Tell.of rfl) (by kernel_rfl) (by simp) (RA.each ?_ (RA.each ?_ (RA.each0))))
    ·skip
     refine RO.buildV (c := cU) (L := [(IntKind.u8.wrap m.kind), (IntKind.u8.wrap m.from_), (IntKind.u8.wrap m.to)]) (vs := [(.int .u8 (IntKind.u8.wrap m.kind)), (.int .u8 (IntKind.u8.wrap m.from_)), (.int .u8 (IntKind.u8.wrap m.to))]) [.tmp 15, .tmp 18, .tmp 21] rfl rfl rfl rfl rfl rfl rfl rfl rfl rfl rfl rfl (by decide) (by decide) rfl rfl fun Xo4_9_1 => ?_
     exact RA.to2 hall hf hb (ro4_14 B Xo4_9_1 go4_13_1 go4_17_1 go4_21_1 go4_25_1 go4_29_1) rfl rfl (by kernel_rfl)
    ·skip
     refine RO.call rfl rfl (spec_l17Flag_fn m.last) rfl (.cons (.one (.r .r)) (.nil)) rfl fun go4_33_1 => ?_
     exact RA.to2 hall hf hb (ro4_15 B go4_13_1 go4_17_1 go4_21_1 go4_25_1 go4_29_1 go4_33_1) rfl rfl (by kernel_rfl)
   have ro4_11 : ∀ B, ∀ (Xo4_9_1 : Value), ∀ (go4_13_1 : Nat → Nat → Value), ∀ (go4_17_1 : Nat → Nat → Value), ∀ (go4_21_1 : Nat → Nat → Value), ∀ (go4_25_1 : Nat → Nat → Value), RA f E B all 12 (bt 41 247425907711) ⟨87, [(22, .w (sl 1 cU ([(IntKind.u8.wrap m.kind), (IntKind.u8.wrap m.from_), (IntKind.u8.wrap m.to)] : List Int)) Xo4_9_1), (26, S (varB m.term_.toNat)), (30, S (varB m.index.toNat)), (34, S (varB m.logTerm.toNat)), (38, S (varB m.commit.toNat)), (41, Bo m.ok), (45, Bo m.last), (50, I (m.entries.length : Int))] ++ b0⟩ K := by
    intro B Xo4_9_1 go4_13_1 go4_17_1 go4_21_1 go4_25_1
    refine RA.of2 hall hf hb (RA.stepH (L := [10, 29]) (Tell.of rfl) (by kernel_rfl) (by simp) (RA.each ?_ (RA.each ?_ (RA.each0))))
    ·skip
     refine RO.v rfl rfl (V.bytesStr (l := ([(IntKind.u8.wrap m.kind), (IntKind.u8.wrap m.from_), (IntKind.u8.wrap m.to)] : List Int)) rfl rfl rfl (by kernel_rfl) (by kernel_rfl) (.al (k := none) (i := 22) (sz := 1) (V := Xo4_9_1) rfl rfl nofun)) rfl ?_
     refine RA.first (i := 14) (ls' := (bt 41 247425925119)) (Tell.of rfl) (by kernel_rfl) rfl rfl rfl (VF.p (V.cat rfl rfl rfl (by have z1 := msz.z1; have z2 := msz.z2; have z3 := msz.z3; have z4 := msz.z4; have z5 := msz.z5; have z6 := msz.z6; have z7 := msz.z7; have zd := msz.d; first | (simp only [ByteArray.size_append, maxLen, z6, z7]; omega) | (have h9 := hP.size msz; have h8 := entT_size 1 ei; have h7 := shB_size (s := (entT 1 ei).1) (by omega); simp only [ByteArray.size_append, maxLen]; omega) | (have h9 := hP.size msz; have h8 := confText_size (l := m.conf); have h7 := shB_size (s := (confText m.conf).1) (by omega); have h6 := shB_size (s := m.data) (by omega); simp only [ByteArray.size_append, maxLen]; omega)))) ?_
     refine RA.first (i := 18) (ls' := (bt 41 247426187263)) (Tell.of rfl) (by kernel_rfl) rfl rfl rfl (VF.p (V.cat rfl rfl rfl (by have z1 := msz.z1; have z2 := msz.z2; have z3 := msz.z3; have z4 := msz.z4; have z5 := msz.z5; have z6 := msz.z6; have z7 := msz.z7; have zd := msz.d; first | (simp only [ByteArray.size_append, maxLen, z6, z7]; omega) | (have h9 := hP.size msz; have h8 := entT_size 1 ei; have h7 := shB_size (s := (entT 1 ei).1) (by omega); simp only [ByteArray.size_append, maxLen]; omega) | (have h9 := hP.size msz; have h8 := confText_size (l := m.conf); have h7 := shB_size (s := (confText m.conf).1) (by omega); have h6 := shB_size (s := m.data) (by omega); simp only [ByteArray.size_append, maxLen]; omega)))) ?_
     refine RA.first (i := 22) (ls' := (bt 41 247430381567)) (Tell.of rfl) (by kernel_rfl) rfl rfl rfl (VF.p (V.cat rfl rfl rfl (by have z1 := msz.z1; have z2 := msz.z2; have z3 := msz.z3; have z4 := msz.z4; have z5 := msz.z5; have z6 := msz.z6; have z7 := msz.z7; have zd := msz.d; first | (simp only [ByteArray.size_append, maxLen, z6, z7]; omega) | (have h9 := hP.size msz; have h8 := entT_size 1 ei; have h7 := shB_size (s := (entT 1 ei).1) (by omega); simp only [ByteArray.size_append, maxLen]; omega) | (have h9 := hP.size msz; have h8 := confText_size (l := m.conf); have h7 := shB_size (s := (confText m.conf).1) (by omega); have h6 := shB_size (s := m.data) (by omega); simp only [ByteArray.size_append, maxLen]; omega)))) ?_
     refine RA.first (i := 26) (ls' := (bt 41 247497490431)) (Tell.of rfl) (by kernel_rfl) rfl rfl rfl (VF.p (V.cat rfl rfl rfl (by have z1 := msz.z1; have z2 := msz.z2; have z3 := msz.z3; have z4 := msz.z4; have z5 := msz.z5; have z6 := msz.z6; have z7 := msz.z7; have zd := msz.d; first | (simp only [ByteArray.size_append, maxLen, z6, z7]; omega) | (have h9 := hP.size msz; have h8 := entT_size 1 ei; have h7 := shB_size (s := (entT 1 ei).1) (by omega); simp only [ByteArray.size_append, maxLen]; omega) | (have h9 := hP.size msz; have h8 := confText_size (l := m.conf); have h7 := shB_size (s := (confText m.conf).1) (by omega); have h6 := shB_size (s := m.data) (by omega); simp only [ByteArray.size_append, maxLen]; omega)))) ?_
     exact RA.to2 hall hf hb (ro4_20 B Xo4_9_1 go4_13_1 go4_17_1 go4_21_1 go4_25_1) rfl rfl (by kernel_rfl)
    ·skip
     refine RO.call rfl rfl (spec_l17Flag_fn m.ok) rfl (.cons (.one (.r .r)) (.nil)) rfl fun go4_29_1 => ?_
     exact RA.to2 hall hf hb (ro4_14 B Xo4_9_1 go4_13_1 go4_17_1 go4_21_1 go4_25_1 go4_29_1) rfl rfl (by kernel_rfl)
   have ro4_10 : ∀ B, ∀ (go4_13_1 : Nat → Nat → Value), ∀ (go4_17_1 : Nat → Nat → Value), ∀ (go4_21_1 : Nat → Nat → Value), ∀ (go4_25_1 : Nat → Nat → Value), RA f E B all 13 (bt 41 247425907199) ⟨87, [(15, .r (.v (.int .u8 (IntKind.u8.wrap m.kind)))), (18, .r (.v (.int .u8 (IntKind.u8.wrap m.from_)))), (21, .r (.v (.int .u8 (IntKind.u8.wrap m.to)))), (26, S (varB m.term_.toNat)), (30, S (varB m.index.toNat)), (34, S (varB m.logTerm.toNat)), (38, S (varB m.commit.toNat)), (41, Bo m.ok), (45, Bo m.last), (50, I (m.entries.length : Int))] ++ b0⟩ K := by
    intro B go4_13_1 go4_17_1 go4_21_1 go4_25_1
    refine RA.of2 hall hf hb (RA.stepH (L := [9, 29]) (Tell.of rfl) (by kernel_rfl) (by simp) (RA.each ?_ (RA.each ?_ (RA.each0))))
    ·skip
     refine RO.buildV (c := cU) (L := [(IntKind.u8.wrap m.kind), (IntKind.u8.wrap m.from_), (IntKind.u8.wrap m.to)]) (vs := [(.int .u8 (IntKind.u8.wrap m.kind)), (.int .u8 (IntKind.u8.wrap m.from_)), (.int .u8 (IntKind.u8.wrap m.to))]) [.tmp 15, .tmp 18, .tmp 21] rfl rfl rfl rfl rfl rfl rfl rfl rfl rfl rfl rfl (by decide) (by decide) rfl rfl fun Xo4_9_1 => ?_
     exact RA.to2 hall hf hb (ro4_11 B Xo4_9_1 go4_13_1 go4_17_1 go4_21_1 go4_25_1) rfl rfl (by kernel_rfl)
    ·skip
     refine RO.call rfl rfl (spec_l17Flag_fn m.ok) rfl (.cons (.one (.r .r)) (.nil)) rfl fun go4_29_1 => ?_
     exact RA.to2 hall hf hb (ro4_12 B go4_13_1 go4_17_1 go4_21_1 go4_25_1 go4_29_1) rfl rfl (by kernel_rfl)
   have ro4_9 : ∀ B, ∀ (Xo4_9_1 : Value), ∀ (go4_13_1 : Nat → Nat → Value), ∀ (go4_17_1 : Nat → Nat → Value), ∀ (go4_21_1 : Nat → Nat → Value), RA f E B all 13 (bt 41 247392353279) ⟨87, [(22, .w (sl 1 cU ([(IntKind.u8.wrap m.kind), (IntKind.u8.wrap m.from_), (IntKind.u8.wrap m.to)] : List Int)) Xo4_9_1), (26, S (varB m.term_.toNat)), (30, S (varB m.index.toNat)), (34, S (varB m.logTerm.toNat)), (37, I m.commit), (41, Bo m.ok), (45, Bo m.last), (50, I (m.entries.length : Int))] ++ b0⟩ K := by
    intro B Xo4_9_1 go4_13_1 go4_17_1 go4_21_1
    refine RA.of2 hall hf hb (RA.stepH (L := [10, 25]) (Tell.of rfl) (by kernel_rfl) (by simp) (RA.each ?_ (RA.each ?_ (RA.each0))))
    ·skip
     refine RO.v rfl rfl (V.bytesStr (l := ([(IntKind.u8.wrap m.kind), (IntKind.u8.wrap m.from_), (IntKind.u8.wrap m.to)] : List Int)) rfl rfl rfl (by kernel_rfl) (by kernel_rfl) (.al (k := none) (i := 22) (sz := 1) (V := Xo4_9_1) rfl rfl nofun)) rfl ?_
     refine RA.first (i := 14) (ls' := (bt 41 247392370687)) (Tell.of rfl) (by kernel_rfl) rfl rfl rfl (VF.p (V.cat rfl rfl rfl (by have z1 := msz.z1; have z2 := msz.z2; have z3 := msz.z3; have z4 := msz.z4; have z5 := msz.z5; have z6 := msz.z6; have z7 := msz.z7; have zd := msz.d; first | (simp only [ByteArray.size_append, maxLen, z6, z7]; omega) | (have h9 := hP.size msz; have h8 := entT_size 1 ei; have h7 := shB_size (s := (entT 1 ei).1) (by omega); simp only [ByteArray.size_append, maxLen]; omega) | (have h9 := hP.size msz; have h8 := confText_size (l := m.conf); have h7 := shB_size (s := (confText m.conf).1) (by omega); have h6 := shB_size (s := m.data) (by omega); simp only [ByteArray.size_append, maxLen]; omega)))) ?_
     refine RA.first (i := 18) (ls' := (bt 41 247392632831)) (Tell.of rfl) (by kernel_rfl) rfl rfl rfl (VF.p (V.cat rfl rfl rfl (by have z1 := msz.z1; have z2 := msz.z2; have z3 := msz.z3; have z4 := msz.z4; have z5 := msz.z5; have z6 := msz.z6; have z7 := msz.z7; have zd := msz.d; first | (simp only [ByteArray.size_append, maxLen, z6, z7]; omega) | (have h9 := hP.size msz; have h8 := entT_size 1 ei; have h7 := shB_size (s := (entT 1 ei).1) (by omega); simp only [ByteArray.size_append, maxLen]; omega) | (have h9 := hP.size msz; have h8 := confText_size (l := m.conf); have h7 := shB_size (s := (confText m.conf).1) (by omega); have h6 := shB_size (s := m.data) (by omega); simp only [ByteArray.size_append, maxLen]; omega)))) ?_
     refine RA.first (i := 22) (ls' := (bt 41 247396827135)) (Tell.of rfl) (by kernel_rfl) rfl rfl rfl (VF.p (V.cat rfl rfl rfl (by have z1 := msz.z1; have z2 := msz.z2; have z3 := msz.z3; have z4 := msz.z4; have z5 := msz.z5; have z6 := msz.z6; have z7 := msz.z7; have zd := msz.d; first | (simp only [ByteArray.size_append, maxLen, z6, z7]; omega) | (have h9 := hP.size msz; have h8 := entT_size 1 ei; have h7 := shB_size (s := (entT 1 ei).1) (by omega); simp only [ByteArray.size_append, maxLen]; omega) | (have h9 := hP.size msz; have h8 := confText_size (l := m.conf); have h7 := shB_size (s := (confText m.conf).1) (by omega); have h6 := shB_size (s := m.data) (by omega); simp only [ByteArray.size_append, maxLen]; omega)))) ?_
     exact RA.to2 hall hf hb (ro4_18 B Xo4_9_1 go4_13_1 go4_17_1 go4_21_1) rfl rfl (by kernel_rfl)
    ·skip
     refine RO.call rfl rfl (spec_l01Var_fn m.commit (by first | exact msz.e | exact msz.i | exact msz.l | exact msz.c | exact ⟨by omega, by have h9 := msz.n; omega⟩)) rfl (.cons (.one (.r .r)) (.nil)) rfl fun go4_25_1 => ?_
     exact RA.to2 hall hf hb (ro4_11 B Xo4_9_1 go4_13_1 go4_17_1 go4_21_1 go4_25_1) rfl rfl (by kernel_rfl)
   have ro4_8 : ∀ B, ∀ (Xo4_9_1 : Value), ∀ (go4_13_1 : Nat → Nat → Value), RA f E B all 13 (bt 41 247390142463) ⟨87, [(27, S ((bytesOf ([(IntKind.u8.wrap m.kind), (IntKind.u8.wrap m.from_), (IntKind.u8.wrap m.to)] : List Int)) ++ (varB m.term_.toNat))), (29, I m.index), (33, I m.logTerm), (37, I m.commit), (41, Bo m.ok), (45, Bo m.last), (50, I (m.entries.length : Int))] ++ b0⟩ K := by
    intro B Xo4_9_1 go4_13_1
    refine RA.of2 hall hf hb (RA.stepH (L := [17]) (Tell.of rfl) (by kernel_rfl) (by simp) (RA.each ?_ (RA.each0)))
    ·skip
     refine RO.call rfl rfl (spec_l01Var_fn m.index (by first | exact msz.e | exact msz.i | exact msz.l | exact msz.c | exact ⟨by omega, by have h9 := msz.n; omega⟩)) rfl (.cons (.one (.r .r)) (.nil)) rfl fun go4_17_1 => ?_
     refine RA.first (i := 18) (ls' := (bt 41 247390535679)) (Tell.of rfl) (by kernel_rfl) rfl rfl rfl (VF.p (V.cat rfl rfl rfl (by have z1 := msz.z1; have z2 := msz.z2; have z3 := msz.z3; have z4 := msz.z4; have z5 := msz.z5; have z6 := msz.z6; have z7 := msz.z7; have zd := msz.d; first | (simp only [ByteArray.size_append, maxLen, z6, z7]; omega) | (have h9 := hP.size msz; have h8 := entT_size 1 ei; have h7 := shB_size (s := (entT 1 ei).1) (by omega); simp only [ByteArray.size_append, maxLen]; omega) | (have h9 := hP.size msz; have h8 := confText_size (l := m.conf); have h7 := shB_size (s := (confText m.conf).1) (by omega); have h6 := shB_size (s := m.data) (by omega); simp only [ByteArray.size_append, maxLen]; omega)))) ?_
     exact RA.to2 hall hf hb (ro4_13 B Xo4_9_1 go4_13_1 go4_17_1) rfl rfl (by kernel_rfl)
   have ro4_7 : ∀ B, ∀ (go4_13_1 : Nat → Nat → Value), ∀ (go4_17_1 : Nat → Nat → Value), ∀ (go4_21_1 : Nat → Nat → Value), RA f E B all 14 (bt 41 247392352767) ⟨87, [(15, .r (.v (.int .u8 (IntKind.u8.wrap m.kind)))), (18, .r (.v (.int .u8 (IntKind.u8.wrap m.from_)))), (21, .r (.v (.int .u8 (IntKind.u8.wrap m.to)))), (26, S (varB m.term_.toNat)), (30, S (varB m.index.toNat)), (34, S (varB m.logTerm.toNat)), (37, I m.commit), (41, Bo m.ok), (45, Bo m.last), (50, I (m.entries.length : Int))] ++ b0⟩ K := by
    intro B go4_13_1 go4_17_1 go4_21_1
    refine RA.of2 hall hf hb (RA.stepH (L := [9, 25]) (Tell.of rfl) (by kernel_rfl) (by simp) (RA.each ?_ (RA.each ?_ (RA.each0))))
    ·skip
     refine RO.buildV (c := cU) (L := [(IntKind.u8.wrap m.kind), (IntKind.u8.wrap m.from_), (IntKind.u8.wrap m.to)]) (vs := [(.int .u8 (IntKind.u8.wrap m.kind)), (.int .u8 (IntKind.u8.wrap m.from_)), (.int .u8 (IntKind.u8.wrap m.to))]) [.tmp 15, .tmp 18, .tmp 21] rfl rfl rfl rfl rfl rfl rfl rfl rfl rfl rfl rfl (by decide) (by decide) rfl rfl fun Xo4_9_1 => ?_
     exact RA.to2 hall hf hb (ro4_9 B Xo4_9_1 go4_13_1 go4_17_1 go4_21_1) rfl rfl (by kernel_rfl)
    ·skip
     refine RO.call rfl rfl (spec_l01Var_fn m.commit (by first | exact msz.e | exact msz.i | exact msz.l | exact msz.c | exact ⟨by omega, by have h9 := msz.n; omega⟩)) rfl (.cons (.one (.r .r)) (.nil)) rfl fun go4_25_1 => ?_
     exact RA.to2 hall hf hb (ro4_10 B go4_13_1 go4_17_1 go4_21_1 go4_25_1) rfl rfl (by kernel_rfl)
   have ro4_6 : ∀ B, ∀ (Xo4_9_1 : Value), ∀ (go4_13_1 : Nat → Nat → Value), ∀ (go4_17_1 : Nat → Nat → Value), RA f E B all 14 (bt 41 247390256127) ⟨87, [(22, .w (sl 1 cU ([(IntKind.u8.wrap m.kind), (IntKind.u8.wrap m.from_), (IntKind.u8.wrap m.to)] : List Int)) Xo4_9_1), (26, S (varB m.term_.toNat)), (30, S (varB m.index.toNat)), (33, I m.logTerm), (37, I m.commit), (41, Bo m.ok), (45, Bo m.last), (50, I (m.entries.length : Int))] ++ b0⟩ K := by
    intro B Xo4_9_1 go4_13_1 go4_17_1
    refine RA.of2 hall hf hb (RA.stepH (L := [10, 21]) (Tell.of rfl) (by kernel_rfl) (by simp) (RA.each ?_ (RA.each ?_ (RA.each0))))
    ·skip
     refine RO.v rfl rfl (V.bytesStr (l := ([(IntKind.u8.wrap m.kind), (IntKind.u8.wrap m.from_), (IntKind.u8.wrap m.to)] : List Int)) rfl rfl rfl (by kernel_rfl) (by kernel_rfl) (.al (k := none) (i := 22) (sz := 1) (V := Xo4_9_1) rfl rfl nofun)) rfl ?_
     refine RA.first (i := 14) (ls' := (bt 41 247390273535)) (Tell.of rfl) (by kernel_rfl) rfl rfl rfl (VF.p (V.cat rfl rfl rfl (by have z1 := msz.z1; have z2 := msz.z2; have z3 := msz.z3; have z4 := msz.z4; have z5 := msz.z5; have z6 := msz.z6; have z7 := msz.z7; have zd := msz.d; first | (simp only [ByteArray.size_append, maxLen, z6, z7]; omega) | (have h9 := hP.size msz; have h8 := entT_size 1 ei; have h7 := shB_size (s := (entT 1 ei).1) (by omega); simp only [ByteArray.size_append, maxLen]; omega) | (have h9 := hP.size msz; have h8 := confText_size (l := m.conf); have h7 := shB_size (s := (confText m.conf).1) (by omega); have h6 := shB_size (s := m.data) (by omega); simp only [ByteArray.size_append, maxLen]; omega)))) ?_
     refine RA.first (i := 18) (ls' := (bt 41 247390535679)) (Tell.of rfl) (by kernel_rfl) rfl rfl rfl (VF.p (V.cat rfl rfl rfl (by have z1 := msz.z1; have z2 := msz.z2; have z3 := msz.z3; have z4 := msz.z4; have z5 := msz.z5; have z6 := msz.z6; have z7 := msz.z7; have zd := msz.d; first | (simp only [ByteArray.size_append, maxLen, z6, z7]; omega) | (have h9 := hP.size msz; have h8 := entT_size 1 ei; have h7 := shB_size (s := (entT 1 ei).1) (by omega); simp only [ByteArray.size_append, maxLen]; omega) | (have h9 := hP.size msz; have h8 := confText_size (l := m.conf); have h7 := shB_size (s := (confText m.conf).1) (by omega); have h6 := shB_size (s := m.data) (by omega); simp only [ByteArray.size_append, maxLen]; omega)))) ?_
     exact RA.to2 hall hf hb (ro4_13 B Xo4_9_1 go4_13_1 go4_17_1) rfl rfl (by kernel_rfl)
    ·skip
     refine RO.call rfl rfl (spec_l01Var_fn m.logTerm (by first | exact msz.e | exact msz.i | exact msz.l | exact msz.c | exact ⟨by omega, by have h9 := msz.n; omega⟩)) rfl (.cons (.one (.r .r)) (.nil)) rfl fun go4_21_1 => ?_
     exact RA.to2 hall hf hb (ro4_9 B Xo4_9_1 go4_13_1 go4_17_1 go4_21_1) rfl rfl (by kernel_rfl)
   have ro4_5 : ∀ B, ∀ (go4_13_1 : Nat → Nat → Value), ∀ (go4_17_1 : Nat → Nat → Value), RA f E B all 15 (bt 41 247390255615) ⟨87, [(15, .r (.v (.int .u8 (IntKind.u8.wrap m.kind)))), (18, .r (.v (.int .u8 (IntKind.u8.wrap m.from_)))), (21, .r (.v (.int .u8 (IntKind.u8.wrap m.to)))), (26, S (varB m.term_.toNat)), (30, S (varB m.index.toNat)), (33, I m.logTerm), (37, I m.commit), (41, Bo m.ok), (45, Bo m.last), (50, I (m.entries.length : Int))] ++ b0⟩ K := by
    intro B go4_13_1 go4_17_1
    refine RA.of2 hall hf hb (RA.stepH (L := [9, 21]) (Tell.of rfl) (by kernel_rfl) (by simp) (RA.each ?_ (RA.each ?_ (RA.each0))))
    ·skip
     refine RO.buildV (c := cU) (L := [(IntKind.u8.wrap m.kind), (IntKind.u8.wrap m.from_), (IntKind.u8.wrap m.to)]) (vs := [(.int .u8 (IntKind.u8.wrap m.kind)), (.int .u8 (IntKind.u8.wrap m.from_)), (.int .u8 (IntKind.u8.wrap m.to))]) [.tmp 15, .tmp 18, .tmp 21] rfl rfl rfl rfl rfl rfl rfl rfl rfl rfl rfl rfl (by decide) (by decide) rfl rfl fun Xo4_9_1 => ?_
     exact RA.to2 hall hf hb (ro4_6 B Xo4_9_1 go4_13_1 go4_17_1) rfl rfl (by kernel_rfl)
    ·skip
     refine RO.call rfl rfl (spec_l01Var_fn m.logTerm (by first | exact msz.e | exact msz.i | exact msz.l | exact msz.c | exact ⟨by omega, by have h9 := msz.n; omega⟩)) rfl (.cons (.one (.r .r)) (.nil)) rfl fun go4_21_1 => ?_
     exact RA.to2 hall hf hb (ro4_7 B go4_13_1 go4_17_1 go4_21_1) rfl rfl (by kernel_rfl)
   have ro4_4 : ∀ B, ∀ (Xo4_9_1 : Value), ∀ (go4_13_1 : Nat → Nat → Value), RA f E B all 15 (bt 41 247390125055) ⟨87, [(22, .w (sl 1 cU ([(IntKind.u8.wrap m.kind), (IntKind.u8.wrap m.from_), (IntKind.u8.wrap m.to)] : List Int)) Xo4_9_1), (26, S (varB m.term_.toNat)), (29, I m.index), (33, I m.logTerm), (37, I m.commit), (41, Bo m.ok), (45, Bo m.last), (50, I (m.entries.length : Int))] ++ b0⟩ K := by
    intro B Xo4_9_1 go4_13_1
    refine RA.of2 hall hf hb (RA.stepH (L := [10, 17]) (Tell.of rfl) (by kernel_rfl) (by simp) (RA.each ?_ (RA.each ?_ (RA.each0))))
    ·skip
     refine RO.v rfl rfl (V.bytesStr (l := ([(IntKind.u8.wrap m.kind), (IntKind.u8.wrap m.from_), (IntKind.u8.wrap m.to)] : List Int)) rfl rfl rfl (by kernel_rfl) (by kernel_rfl) (.al (k := none) (i := 22) (sz := 1) (V := Xo4_9_1) rfl rfl nofun)) rfl ?_
     refine RA.first (i := 14) (ls' := (bt 41 247390142463)) (Tell.of rfl) (by kernel_rfl) rfl rfl rfl (VF.p (V.cat rfl rfl rfl (by have z1 := msz.z1; have z2 := msz.z2; have z3 := msz.z3; have z4 := msz.z4; have z5 := msz.z5; have z6 := msz.z6; have z7 := msz.z7; have zd := msz.d; first | (simp only [ByteArray.size_append, maxLen, z6, z7]; omega) | (have h9 := hP.size msz; have h8 := entT_size 1 ei; have h7 := shB_size (s := (entT 1 ei).1) (by omega); simp only [ByteArray.size_append, maxLen]; omega) | (have h9 := hP.size msz; have h8 := confText_size (l := m.conf); have h7 := shB_size (s := (confText m.conf).1) (by omega); have h6 := shB_size (s := m.data) (by omega); simp only [ByteArray.size_append, maxLen]; omega)))) ?_
     exact RA.to2 hall hf hb (ro4_8 B Xo4_9_1 go4_13_1) rfl rfl (by kernel_rfl)
    ·skip
     refine RO.call rfl rfl (spec_l01Var_fn m.index (by first | exact msz.e | exact msz.i | exact msz.l | exact msz.c | exact ⟨by omega, by have h9 := msz.n; omega⟩)) rfl (.cons (.one (.r .r)) (.nil)) rfl fun go4_17_1 => ?_
     exact RA.to2 hall hf hb (ro4_6 B Xo4_9_1 go4_13_1 go4_17_1) rfl rfl (by kernel_rfl)
   have ro4_3 : ∀ B, ∀ (Xo4_9_1 : Value), RA f E B all 15 (bt 41 247390117887) ⟨87, [(23, S (bytesOf ([(IntKind.u8.wrap m.kind), (IntKind.u8.wrap m.from_), (IntKind.u8.wrap m.to)] : List Int))), (25, I m.term_), (29, I m.index), (33, I m.logTerm), (37, I m.commit), (41, Bo m.ok), (45, Bo m.last), (50, I (m.entries.length : Int))] ++ b0⟩ K := by
    intro B Xo4_9_1
    refine RA.of2 hall hf hb (RA.stepH (L := [13]) (Tell.of rfl) (by kernel_rfl) (by simp) (RA.each ?_ (RA.each0)))
    ·skip
     refine RO.call rfl rfl (spec_l01Var_fn m.term_ (by first | exact msz.e | exact msz.i | exact msz.l | exact msz.c | exact ⟨by omega, by have h9 := msz.n; omega⟩)) rfl (.cons (.one (.r .r)) (.nil)) rfl fun go4_13_1 => ?_
     refine RA.first (i := 14) (ls' := (bt 41 247390142463)) (Tell.of rfl) (by kernel_rfl) rfl rfl rfl (VF.p (V.cat rfl rfl rfl (by have z1 := msz.z1; have z2 := msz.z2; have z3 := msz.z3; have z4 := msz.z4; have z5 := msz.z5; have z6 := msz.z6; have z7 := msz.z7; have zd := msz.d; first | (simp only [ByteArray.size_append, maxLen, z6, z7]; omega) | (have h9 := hP.size msz; have h8 := entT_size 1 ei; have h7 := shB_size (s := (entT 1 ei).1) (by omega); simp only [ByteArray.size_append, maxLen]; omega) | (have h9 := hP.size msz; have h8 := confText_size (l := m.conf); have h7 := shB_size (s := (confText m.conf).1) (by omega); have h6 := shB_size (s := m.data) (by omega); simp only [ByteArray.size_append, maxLen]; omega)))) ?_
     exact RA.to2 hall hf hb (ro4_8 B Xo4_9_1 go4_13_1) rfl rfl (by kernel_rfl)
   have ro4_2 : ∀ B, ∀ (go4_13_1 : Nat → Nat → Value), RA f E B all 16 (bt 41 247390124543) ⟨87, [(15, .r (.v (.int .u8 (IntKind.u8.wrap m.kind)))), (18, .r (.v (.int .u8 (IntKind.u8.wrap m.from_)))), (21, .r (.v (.int .u8 (IntKind.u8.wrap m.to)))), (26, S (varB m.term_.toNat)), (29, I m.index), (33, I m.logTerm), (37, I m.commit), (41, Bo m.ok), (45, Bo m.last), (50, I (m.entries.length : Int))] ++ b0⟩ K := by
    intro B go4_13_1
    refine RA.of2 hall hf hb (RA.stepH (L := [9, 17]) (Tell.of rfl) (by kernel_rfl) (by simp) (RA.each ?_ (RA.each ?_ (RA.each0))))
    ·skip
     refine RO.buildV (c := cU) (L := [(IntKind.u8.wrap m.kind), (IntKind.u8.wrap m.from_), (IntKind.u8.wrap m.to)]) (vs := [(.int .u8 (IntKind.u8.wrap m.kind)), (.int .u8 (IntKind.u8.wrap m.from_)), (.int .u8 (IntKind.u8.wrap m.to))]) [.tmp 15, .tmp 18, .tmp 21] rfl rfl rfl rfl rfl rfl rfl rfl rfl rfl rfl rfl (by decide) (by decide) rfl rfl fun Xo4_9_1 => ?_
     exact RA.to2 hall hf hb (ro4_4 B Xo4_9_1 go4_13_1) rfl rfl (by kernel_rfl)
    ·skip
     refine RO.call rfl rfl (spec_l01Var_fn m.index (by first | exact msz.e | exact msz.i | exact msz.l | exact msz.c | exact ⟨by omega, by have h9 := msz.n; omega⟩)) rfl (.cons (.one (.r .r)) (.nil)) rfl fun go4_17_1 => ?_
     exact RA.to2 hall hf hb (ro4_5 B go4_13_1 go4_17_1) rfl rfl (by kernel_rfl)
   have ro4_1 : ∀ B, ∀ (Xo4_9_1 : Value), RA f E B all 16 (bt 41 247390116863) ⟨87, [(22, .w (sl 1 cU ([(IntKind.u8.wrap m.kind), (IntKind.u8.wrap m.from_), (IntKind.u8.wrap m.to)] : List Int)) Xo4_9_1), (25, I m.term_), (29, I m.index), (33, I m.logTerm), (37, I m.commit), (41, Bo m.ok), (45, Bo m.last), (50, I (m.entries.length : Int))] ++ b0⟩ K := by
    intro B Xo4_9_1
    refine RA.of2 hall hf hb (RA.stepH (L := [10, 13]) (Tell.of rfl) (by kernel_rfl) (by simp) (RA.each ?_ (RA.each ?_ (RA.each0))))
    ·skip
     refine RO.v rfl rfl (V.bytesStr (l := ([(IntKind.u8.wrap m.kind), (IntKind.u8.wrap m.from_), (IntKind.u8.wrap m.to)] : List Int)) rfl rfl rfl (by kernel_rfl) (by kernel_rfl) (.al (k := none) (i := 22) (sz := 1) (V := Xo4_9_1) rfl rfl nofun)) rfl ?_
     exact RA.to2 hall hf hb (ro4_3 B Xo4_9_1) rfl rfl (by kernel_rfl)
    ·skip
     refine RO.call rfl rfl (spec_l01Var_fn m.term_ (by first | exact msz.e | exact msz.i | exact msz.l | exact msz.c | exact ⟨by omega, by have h9 := msz.n; omega⟩)) rfl (.cons (.one (.r .r)) (.nil)) rfl fun go4_13_1 => ?_
     exact RA.to2 hall hf hb (ro4_4 B Xo4_9_1 go4_13_1) rfl rfl (by kernel_rfl)
   have ro4_0 : ∀ B, RA f E B all 17 (bt 41 247390116351) ⟨87, [(15, .r (.v (.int .u8 (IntKind.u8.wrap m.kind)))), (18, .r (.v (.int .u8 (IntKind.u8.wrap m.from_)))), (21, .r (.v (.int .u8 (IntKind.u8.wrap m.to)))), (25, I m.term_), (29, I m.index), (33, I m.logTerm), (37, I m.commit), (41, Bo m.ok), (45, Bo m.last), (50, I (m.entries.length : Int))] ++ b0⟩ K := by
    intro B
    refine RA.of2 hall hf hb (RA.stepH (L := [9, 13]) (Tell.of rfl) (by kernel_rfl) (by simp) (RA.each ?_ (RA.each ?_ (RA.each0))))
    ·skip
     refine RO.buildV (c := cU) (L := [(IntKind.u8.wrap m.kind), (IntKind.u8.wrap m.from_), (IntKind.u8.wrap m.to)]) (vs := [(.int .u8 (IntKind.u8.wrap m.kind)), (.int .u8 (IntKind.u8.wrap m.from_)), (.int .u8 (IntKind.u8.wrap m.to))]) [.tmp 15, .tmp 18, .tmp 21] rfl rfl rfl rfl rfl rfl rfl rfl rfl rfl rfl rfl (by decide) (by decide) rfl rfl fun Xo4_9_1 => ?_
     exact RA.to2 hall hf hb (ro4_1 B Xo4_9_1) rfl rfl (by kernel_rfl)
    ·skip
     refine RO.call rfl rfl (spec_l01Var_fn m.term_ (by first | exact msz.e | exact msz.i | exact msz.l | exact msz.c | exact ⟨by omega, by have h9 := msz.n; omega⟩)) rfl (.cons (.one (.r .r)) (.nil)) rfl fun go4_13_1 => ?_
     exact RA.to2 hall hf hb (ro4_2 B go4_13_1) rfl rfl (by kernel_rfl)
   refine RA.start (by kernel_rfl) (by kernel_rfl) (m := 41) (ls' := (bt 41 0)) ?_
   refine RA.fr XK 87 17 [0,1,2,3,4,5,6,7,8,11,12,15,16,19,20,23,24,27,28,31,32,35,36,37] (bt 41 247390116351) rfl rfl (by kernel_rfl) (Tell.of rfl) ?_
   (conv=>whnf);refine ⟨rfl,fun B=>?_⟩
   exact RA.to2 hall hf hb (ro4_0 B) rfl rfl (by kernel_rfl)
  ·rintro ⟨Xo4_9_1, go4_13_1, go4_17_1, go4_21_1, go4_25_1, go4_29_1, go4_33_1, go4_38_1⟩
   refine CW.seq ?_
   refine CW.k XK 87 1 [1,4,5] rfl ?_
   (conv=>whnf);refine ⟨rfl,?_⟩
   refine CW.block ?_
   refine CW.loopI 87 (fun (zz : Nat × ByteArray) => match zz with | (i, s) => [(1, .rp (Message.c m)), (4, S s), (5, I (i : Int))]) (fun (zz : Nat × ByteArray) => match zz with | (i, s) => EnP m i s) (fun (zz : Nat × ByteArray) => match zz with | (i, s) => m.entries.length - i) (0, _) rfl (Le.c rfl <| Le.c rfl <| Le.c rfl <| Le.e) ⟨by omega, rfl⟩ ?_
   rintro ⟨i, s⟩ hP
   have hb := hP.le
   refine CW.seq ?_
   refine CW.k XK 87 1 [1,4,5,57] rfl ?_
   (conv=>whnf);refine ⟨rfl,?_⟩
   refine CW.cond rfl (fun h5 => ?_) (fun h5 => ?_)
   ·skip
    have hii : i < m.entries.length := by have := h5; simp at this; first | exact this | omega | (simp; done) | (simp; omega)
    obtain ⟨ei, hei⟩ : ∃ e, m.entries[i]? = some e := ⟨_, List.getElem?_eq_getElem hii⟩
    have hdi := drop_get hei
    refine CW.skip ?_
    refine CW.keep 87 [1,4,5] rfl ?_;(conv=>whnf);refine ⟨?_⟩
    refine CW.seq ?_
    refine CW.block ?_
    refine CW.seq ?_
    refine CW.region ?_
    refine RW.k XK 87 3 rfl ?_
    (conv=>whnf);refine ⟨rfl,?_⟩
    refine RW.v rfl (V.indexS rfl rfl rfl rfl rfl rfl Entry.len hei) ?_
    refine RW.k XK 87 1 rfl ?_
    (conv=>whnf);refine ⟨rfl,?_⟩
    refine RW.call rfl (spec_EntryText_fn 1 ei (hok.1.2 ei (List.mem_of_getElem? hei))) rfl (.cons (.one (.r .r)) (.cons (.agg (.cons (.r .r) (.cons (.r .r) (.cons (.r .r) (.nil))))) (.nil))) fun g6 => ?_
    refine RW.k XK 87 5 rfl ?_
    (conv=>whnf);refine ⟨rfl,?_⟩
    refine RW.nil ?_
    refine CW.keep 87 [1,4,5,6] rfl ?_;(conv=>whnf);refine ⟨?_⟩
    refine CW.region ?_
    refine RW.k XK 87 2 rfl ?_
    (conv=>whnf);refine ⟨rfl,?_⟩
    refine RW.call rfl (spec_l05Short_fn ((entT 1 ei).1) (by first | (have h9 := entT_size 1 ei; omega) | (have h9 := confText_size (l := m.conf); omega) | (have h9 := msz.d; omega))) rfl (.cons (.one (.r .r)) (.nil)) fun g7 => ?_
    refine RW.v rfl (V.cat rfl rfl rfl (by have z1 := msz.z1; have z2 := msz.z2; have z3 := msz.z3; have z4 := msz.z4; have z5 := msz.z5; have z6 := msz.z6; have z7 := msz.z7; have zd := msz.d; first | (simp only [ByteArray.size_append, maxLen, z6, z7]; omega) | (have h9 := hP.size msz; have h8 := entT_size 1 ei; have h7 := shB_size (s := (entT 1 ei).1) (by omega); simp only [ByteArray.size_append, maxLen]; omega) | (have h9 := hP.size msz; have h8 := confText_size (l := m.conf); have h7 := shB_size (s := (confText m.conf).1) (by omega); have h6 := shB_size (s := m.data) (by omega); simp only [ByteArray.size_append, maxLen]; omega))) ?_
    refine RW.k XK 87 1 rfl ?_
    (conv=>whnf);refine ⟨rfl,?_⟩
    refine RW.nil ?_
    refine CW.keep 87 [1,4,5] rfl ?_;(conv=>whnf);refine ⟨?_⟩
    refine CW.region ?_
    refine RW.k XK 87 1 rfl ?_
    (conv=>whnf);refine ⟨rfl,?_⟩
    refine RW.v rfl (V.inc rfl rfl rfl hii hl1) ?_
    refine RW.k XK 87 1 rfl ?_
    (conv=>whnf);refine ⟨rfl,?_⟩
    refine RW.nil ?_
    exact ⟨(i + 1, _), by simp only []; omega, ⟨hii, by rw [entsB_snoc hei, ← hP.eq]⟩, rfl, Le.c rfl <| Le.c rfl <| Le.c rfl <| Le.e⟩
   ·skip
    have hii : m.entries.length ≤ i := by have := h5; simp at this; first | exact this | omega | (simp; done) | (simp; omega)
    have hdi : m.entries.drop i = [] := List.drop_eq_nil_of_le hii
    refine CW.exit ?_
    refine CW.keep 87 [1,4] rfl ?_;(conv=>whnf);refine ⟨?_⟩
    refine CW.seq ?_
    refine CW.region ?_
    refine RW.k XK 87 2 rfl ?_
    (conv=>whnf);refine ⟨rfl,?_⟩
    refine RW.call rfl (spec_ConfText_fn m.conf hok.2.1.1) rfl (.cons (.one (.r .r)) (.nil)) fun g8 => ?_
    refine RW.k XK 87 5 rfl ?_
    (conv=>whnf);refine ⟨rfl,?_⟩
    refine RW.nil ?_
    refine CW.keep 87 [1,4,8] rfl ?_;(conv=>whnf);refine ⟨?_⟩
    refine CW.anyJ2 (fc := []) (L0 := []) 87 (fun (zz : (Nat → Nat → Value) × (Nat → Nat → Value)) => match zz with | (go9_2_1, go9_6_1) => [(2, S ((s ++ (shB ((confText m.conf).1))) ++ (shB m.data))), (3, Bo true)]) (fun all hall f hf b0 hb K hK => ?_) ?_
    ·skip
     have ro9_2 : ∀ B, ∀ (go9_2_1 : Nat → Nat → Value), ∀ (go9_6_1 : Nat → Nat → Value), RA f E B all 0 (bt 10 1023) ⟨87, [(2, S ((s ++ (shB ((confText m.conf).1))) ++ (shB m.data))), (3, Bo true)] ++ b0⟩ K := by
      intro B go9_2_1 go9_6_1
      exact RA.of2 hall hf hb (RA.finH (Tell.of rfl) (by kernel_rfl) (hK (go9_2_1, go9_6_1) _ rfl (Le.of rfl)))
     have ro9_1 : ∀ B, ∀ (go9_2_1 : Nat → Nat → Value), RA f E B all 4 (bt 10 63) ⟨87, [(82, S (s ++ (shB ((confText m.conf).1)))), (84, S m.data)] ++ b0⟩ K := by
      intro B go9_2_1
      refine RA.of2 hall hf hb (RA.stepH (L := [6]) (Tell.of rfl) (by kernel_rfl) (by simp) (RA.each ?_ (RA.each0)))
      ·skip
       refine RO.call rfl rfl (spec_l05Short_fn m.data (by first | (have h9 := entT_size 1 ei; omega) | (have h9 := confText_size (l := m.conf); omega) | (have h9 := msz.d; omega))) rfl (.cons (.one (.r .r)) (.nil)) rfl fun go9_6_1 => ?_
       refine RA.first (i := 7) (ls' := (bt 10 255)) (Tell.of rfl) (by kernel_rfl) rfl rfl rfl (VF.p (V.cat rfl rfl rfl (by have z1 := msz.z1; have z2 := msz.z2; have z3 := msz.z3; have z4 := msz.z4; have z5 := msz.z5; have z6 := msz.z6; have z7 := msz.z7; have zd := msz.d; first | (simp only [ByteArray.size_append, maxLen, z6, z7]; omega) | (have h9 := hP.size msz; have h8 := entT_size 1 ei; have h7 := shB_size (s := (entT 1 ei).1) (by omega); simp only [ByteArray.size_append, maxLen]; omega) | (have h9 := hP.size msz; have h8 := confText_size (l := m.conf); have h7 := shB_size (s := (confText m.conf).1) (by omega); have h6 := shB_size (s := m.data) (by omega); simp only [ByteArray.size_append, maxLen]; omega)))) ?_
       refine RA.fr XK 87 0 [8,9] (bt 10 1023) rfl rfl (by kernel_rfl) (Tell.of rfl) ?_
       (conv=>whnf);refine ⟨rfl,fun B=>?_⟩
       exact RA.to2 hall hf hb (ro9_2 B go9_2_1 go9_6_1) rfl rfl (by kernel_rfl)
     have ro9_0 : ∀ B, RA f E B all 6 (bt 10 51) ⟨87, [(79, S s), (80, S ((confText m.conf).1)), (84, S m.data)] ++ b0⟩ K := by
      intro B
      refine RA.of2 hall hf hb (RA.stepH (L := [2]) (Tell.of rfl) (by kernel_rfl) (by simp) (RA.each ?_ (RA.each0)))
      ·skip
       refine RO.call rfl rfl (spec_l05Short_fn ((confText m.conf).1) (by first | (have h9 := entT_size 1 ei; omega) | (have h9 := confText_size (l := m.conf); omega) | (have h9 := msz.d; omega))) rfl (.cons (.one (.r .r)) (.nil)) rfl fun go9_2_1 => ?_
       refine RA.first (i := 3) (ls' := (bt 10 63)) (Tell.of rfl) (by kernel_rfl) rfl rfl rfl (VF.p (V.cat rfl rfl rfl (by have z1 := msz.z1; have z2 := msz.z2; have z3 := msz.z3; have z4 := msz.z4; have z5 := msz.z5; have z6 := msz.z6; have z7 := msz.z7; have zd := msz.d; first | (simp only [ByteArray.size_append, maxLen, z6, z7]; omega) | (have h9 := hP.size msz; have h8 := entT_size 1 ei; have h7 := shB_size (s := (entT 1 ei).1) (by omega); simp only [ByteArray.size_append, maxLen]; omega) | (have h9 := hP.size msz; have h8 := confText_size (l := m.conf); have h7 := shB_size (s := (confText m.conf).1) (by omega); have h6 := shB_size (s := m.data) (by omega); simp only [ByteArray.size_append, maxLen]; omega)))) ?_
       exact RA.to2 hall hf hb (ro9_1 B go9_2_1) rfl rfl (by kernel_rfl)
     refine RA.start (by kernel_rfl) (by kernel_rfl) (m := 10) (ls' := (bt 10 0)) ?_
     refine RA.fr XK 87 6 [0,1,4,5] (bt 10 51) rfl rfl (by kernel_rfl) (Tell.of rfl) ?_
     (conv=>whnf);refine ⟨rfl,fun B=>?_⟩
     exact RA.to2 hall hf hb (ro9_0 B) rfl rfl (by kernel_rfl)
    ·rintro ⟨go9_2_1, go9_6_1⟩
     refine CW.ret ?_
     exact Post.tup (by decide) (RVs.c (RV.s rfl (by rw [msgT_yes hmo hP hii] <;> rfl)) (RVs.c (RV.b rfl (by rw [msgT_yes hmo hP hii] <;> rfl)) RVs.e)) (AOs.a rfl AOs.e)
set_option maxHeartbeats 4000000 in
theorem impl_Decode_fn (t : ByteArray) (ht : t.size ≤ 1048576) : Eng.Fn E.P 6 [.one (.r (.v (.string t)))] (.tup [.agg ((Message.c ((rdMsg t).1)).map .w), .one (.w (.v (.bool ((rdMsg t).2))))]) [.one (.r (.v (.string t)))] := by
 refine Eng.Fn.intro (E := E) (rvs := [.cell 2 25, .tmp 3]) Try.func6 rfl rfl rfl (by simp [outSlots, moved, rvSlot, sl]) ?_
 intro B g bo
 refine CW.keep 101 [0] rfl ?_;(conv=>whnf);refine ⟨?_⟩
 refine CW.k XK 101 3 [2,4,5,15] rfl ?_
 (conv=>whnf);intro b1;(conv=>whnf);intro b2;(conv=>whnf);intro b3;(conv=>whnf);refine ⟨rfl,?_⟩
 refine CW.seq ?_
 refine CW.region ?_
 refine RW.k XK 101 1 rfl ?_
 (conv=>whnf);refine ⟨rfl,?_⟩
 refine RW.callP (k := 15) (__impl_scan__one_fn (⟨t, 0, false⟩ : scan) (scan.ok0 ht)) rfl rfl (Nat.le_of_ble_eq_true rfl) (by decide) rfl (DT.r (DT.r (DT.r DT.e))) (AsPs.here rfl (.nil)) fun g4 q5 => ?_
 refine RW.k XK 101 2 rfl ?_
 (conv=>whnf);refine ⟨rfl,?_⟩
 refine RW.nil ?_
 refine CW.keep 101 [2,4,5,15] rfl ?_;(conv=>whnf);refine ⟨?_⟩
 refine CW.seq ?_
 refine CW.region ?_
 refine RW.k XK 101 1 rfl ?_
 (conv=>whnf);refine ⟨rfl,?_⟩
 refine RW.callP (k := 15) (__impl_scan__one_fn (oneS (⟨t, 0, false⟩ : scan)) (oneS_ok (scan.ok0 ht))) rfl rfl (Nat.le_of_ble_eq_true rfl) (by decide) rfl (DT.r (DT.r (DT.r DT.e))) (AsPs.here rfl (.nil)) fun g6 q7 => ?_
 refine RW.k XK 101 2 rfl ?_
 (conv=>whnf);refine ⟨rfl,?_⟩
 refine RW.nil ?_
 refine CW.keep 101 [2,4,5,15] rfl ?_;(conv=>whnf);refine ⟨?_⟩
 refine CW.seq ?_
 refine CW.region ?_
 refine RW.k XK 101 1 rfl ?_
 (conv=>whnf);refine ⟨rfl,?_⟩
 refine RW.callP (k := 15) (__impl_scan__one_fn (oneS (oneS (⟨t, 0, false⟩ : scan))) (oneS_ok (oneS_ok (scan.ok0 ht)))) rfl rfl (Nat.le_of_ble_eq_true rfl) (by decide) rfl (DT.r (DT.r (DT.r DT.e))) (AsPs.here rfl (.nil)) fun g8 q9 => ?_
 refine RW.k XK 101 2 rfl ?_
 (conv=>whnf);refine ⟨rfl,?_⟩
 refine RW.nil ?_
 refine CW.keep 101 [2,4,5,15] rfl ?_;(conv=>whnf);refine ⟨?_⟩
 refine CW.seq ?_
 refine CW.region ?_
 refine RW.k XK 101 1 rfl ?_
 (conv=>whnf);refine ⟨rfl,?_⟩
 refine RW.callP (k := 15) (__impl_scan__number_fn (oneS (oneS (oneS (⟨t, 0, false⟩ : scan)))) (oneS_ok (oneS_ok (oneS_ok (scan.ok0 ht))))) rfl rfl (Nat.le_of_ble_eq_true rfl) (by decide) rfl (DT.r (DT.r (DT.r DT.e))) (AsPs.here rfl (.nil)) fun g10 q11 => ?_
 refine RW.k XK 101 2 rfl ?_
 (conv=>whnf);refine ⟨rfl,?_⟩
 refine RW.nil ?_
 refine CW.keep 101 [2,4,5,15] rfl ?_;(conv=>whnf);refine ⟨?_⟩
 refine CW.seq ?_
 refine CW.region ?_
 refine RW.k XK 101 1 rfl ?_
 (conv=>whnf);refine ⟨rfl,?_⟩
 refine RW.callP (k := 15) (__impl_scan__number_fn (numS (oneS (oneS (oneS (⟨t, 0, false⟩ : scan))))) (numS_ok (oneS_ok (oneS_ok (oneS_ok (scan.ok0 ht)))))) rfl rfl (Nat.le_of_ble_eq_true rfl) (by decide) rfl (DT.r (DT.r (DT.r DT.e))) (AsPs.here rfl (.nil)) fun g12 q13 => ?_
 refine RW.k XK 101 2 rfl ?_
 (conv=>whnf);refine ⟨rfl,?_⟩
 refine RW.nil ?_
 refine CW.keep 101 [2,4,5,15] rfl ?_;(conv=>whnf);refine ⟨?_⟩
 refine CW.seq ?_
 refine CW.region ?_
 refine RW.k XK 101 1 rfl ?_
 (conv=>whnf);refine ⟨rfl,?_⟩
 refine RW.callP (k := 15) (__impl_scan__number_fn (numS (numS (oneS (oneS (oneS (⟨t, 0, false⟩ : scan)))))) (numS_ok (numS_ok (oneS_ok (oneS_ok (oneS_ok (scan.ok0 ht))))))) rfl rfl (Nat.le_of_ble_eq_true rfl) (by decide) rfl (DT.r (DT.r (DT.r DT.e))) (AsPs.here rfl (.nil)) fun g14 q15 => ?_
 refine RW.k XK 101 2 rfl ?_
 (conv=>whnf);refine ⟨rfl,?_⟩
 refine RW.nil ?_
 refine CW.keep 101 [2,4,5,15] rfl ?_;(conv=>whnf);refine ⟨?_⟩
 refine CW.seq ?_
 refine CW.region ?_
 refine RW.k XK 101 1 rfl ?_
 (conv=>whnf);refine ⟨rfl,?_⟩
 refine RW.callP (k := 15) (__impl_scan__number_fn (numS (numS (numS (oneS (oneS (oneS (⟨t, 0, false⟩ : scan))))))) (numS_ok (numS_ok (numS_ok (oneS_ok (oneS_ok (oneS_ok (scan.ok0 ht)))))))) rfl rfl (Nat.le_of_ble_eq_true rfl) (by decide) rfl (DT.r (DT.r (DT.r DT.e))) (AsPs.here rfl (.nil)) fun g16 q17 => ?_
 refine RW.k XK 101 2 rfl ?_
 (conv=>whnf);refine ⟨rfl,?_⟩
 refine RW.nil ?_
 refine CW.keep 101 [2,4,5,15] rfl ?_;(conv=>whnf);refine ⟨?_⟩
 refine CW.seq ?_
 refine CW.region ?_
 refine RW.k XK 101 1 rfl ?_
 (conv=>whnf);refine ⟨rfl,?_⟩
 refine RW.callP (k := 15) (__impl_scan__sign_fn (numS (numS (numS (numS (oneS (oneS (oneS (⟨t, 0, false⟩ : scan)))))))) (numS_ok (numS_ok (numS_ok (numS_ok (oneS_ok (oneS_ok (oneS_ok (scan.ok0 ht))))))))) rfl rfl (Nat.le_of_ble_eq_true rfl) (by decide) rfl (DT.r (DT.r (DT.r DT.e))) (AsPs.here rfl (.nil)) fun g18 q19 => ?_
 refine RW.k XK 101 2 rfl ?_
 (conv=>whnf);refine ⟨rfl,?_⟩
 refine RW.nil ?_
 refine CW.keep 101 [2,4,5,15] rfl ?_;(conv=>whnf);refine ⟨?_⟩
 refine CW.seq ?_
 refine CW.region ?_
 refine RW.k XK 101 1 rfl ?_
 (conv=>whnf);refine ⟨rfl,?_⟩
 refine RW.callP (k := 15) (__impl_scan__sign_fn (sgS (numS (numS (numS (numS (oneS (oneS (oneS (⟨t, 0, false⟩ : scan))))))))) (sgS_ok (numS_ok (numS_ok (numS_ok (numS_ok (oneS_ok (oneS_ok (oneS_ok (scan.ok0 ht)))))))))) rfl rfl (Nat.le_of_ble_eq_true rfl) (by decide) rfl (DT.r (DT.r (DT.r DT.e))) (AsPs.here rfl (.nil)) fun g20 q21 => ?_
 refine RW.k XK 101 2 rfl ?_
 (conv=>whnf);refine ⟨rfl,?_⟩
 refine RW.nil ?_
 refine CW.keep 101 [2,4,5,15] rfl ?_;(conv=>whnf);refine ⟨?_⟩
 refine CW.seq ?_
 refine CW.region ?_
 refine RW.k XK 101 1 rfl ?_
 (conv=>whnf);refine ⟨rfl,?_⟩
 refine RW.callP (k := 15) (__impl_scan__count_fn (sgS (sgS (numS (numS (numS (numS (oneS (oneS (oneS (⟨t, 0, false⟩ : scan)))))))))) 4 (sgS_ok (sgS_ok (numS_ok (numS_ok (numS_ok (numS_ok (oneS_ok (oneS_ok (oneS_ok (scan.ok0 ht))))))))))) rfl rfl (Nat.le_of_ble_eq_true rfl) (by decide) rfl (DT.r (DT.r (DT.r DT.e))) (AsPs.here rfl (.cons (.one (.r .r)) (.nil))) fun g22 q23 => ?_
 refine RW.k XK 101 1 rfl ?_
 (conv=>whnf);refine ⟨rfl,?_⟩
 refine RW.nil ?_
 refine CW.keep 101 [2,4,5,6,15] rfl ?_;(conv=>whnf);refine ⟨?_⟩
 refine CW.seq ?_
 refine CW.k XK 101 1 [2,4,5,15,46,47] rfl ?_
 (conv=>whnf);refine ⟨rfl,?_⟩
 refine CW.block ?_
 refine CW.nilCell 5 8 3 Entry.c rfl rfl ?_
 refine CW.loopI 101 (fun (zz : Nat × scan × List Entry × Value) => match zz with | (j, s, es, X) => [(2, .obj b1 [I 0, I 0, I 0, I 0, I 0, I 0, I 0, Bo false, .r (.v (.slice none 0 0)), .r (.v (.slice none 0 0)), S (⟨#[]⟩), Bo false]), (4, .pt 15 b2 0), (5, .obj b3 [I (oneV (⟨t, 0, false⟩ : scan)), I (oneV (oneS (⟨t, 0, false⟩ : scan))), I (oneV (oneS (oneS (⟨t, 0, false⟩ : scan)))), I (numV (oneS (oneS (oneS (⟨t, 0, false⟩ : scan))))), I (numV (numS (oneS (oneS (oneS (⟨t, 0, false⟩ : scan)))))), I (numV (numS (numS (oneS (oneS (oneS (⟨t, 0, false⟩ : scan))))))), I (numV (numS (numS (numS (oneS (oneS (oneS (⟨t, 0, false⟩ : scan)))))))), Bo (sgV (numS (numS (numS (numS (oneS (oneS (oneS (⟨t, 0, false⟩ : scan))))))))), .w (sl 3 Entry.c es) X, .r (.v (.slice none 0 0)), S (⟨#[]⟩), Bo (sgV (sgS (numS (numS (numS (numS (oneS (oneS (oneS (⟨t, 0, false⟩ : scan))))))))))]), (15, .obj b2 ((scan.c s).map .r)), (46, I (cntV (sgS (sgS (numS (numS (numS (numS (oneS (oneS (oneS (⟨t, 0, false⟩ : scan)))))))))) 4)), (47, I (j : Int))]) (fun (zz : Nat × scan × List Entry × Value) => match zz with | (j, s, es, X) => EiP t j s es) (fun (zz : Nat × scan × List Entry × Value) => match zz with | (j, s, es, X) => cntM t - j) (0, _, [], _) rfl (Le.c rfl <| Le.c rfl <| Le.c rfl <| Le.c rfl <| Le.c rfl <| Le.c rfl <| Le.e) (EiP.init ht) ?_
 rintro ⟨j, s, es, X⟩ hP
 refine CW.k XK 101 1 [2,4,5,15,46,47,48] rfl ?_
 (conv=>whnf);refine ⟨rfl,?_⟩
 refine CW.seq ?_
 refine CW.cond rfl (fun h24 => ?_) (fun h24 => ?_)
 ·skip
  have h9 : (j : Int) < cntV (h9S t) 4 := of_decide_eq_true h24
  have hj : j < cntM t := by rw [cntV_nat] at h9; omega
  refine CW.skip ?_
  refine CW.keep 101 [2,4,5,15,46,47] rfl ?_;(conv=>whnf);refine ⟨?_⟩
  refine CW.seq ?_
  refine CW.block ?_
  refine CW.seq ?_
  refine CW.region ?_
  refine RW.k XK 101 1 rfl ?_
  (conv=>whnf);refine ⟨rfl,?_⟩
  refine RW.callP (k := 15) (__impl_scan__short_fn s hP.ok) rfl rfl (Nat.le_of_ble_eq_true rfl) (by decide) rfl (DT.r (DT.r (DT.r DT.e))) (AsPs.here rfl (.nil)) fun g25 q26 => ?_
  refine RW.k XK 101 1 rfl ?_
  (conv=>whnf);refine ⟨rfl,?_⟩
  refine RW.nil ?_
  refine CW.keep 101 [2,4,5,7,15,46,47] rfl ?_;(conv=>whnf);refine ⟨?_⟩
  refine CW.seq ?_
  refine CW.region ?_
  refine RW.k XK 101 1 rfl ?_
  (conv=>whnf);refine ⟨rfl,?_⟩
  refine RW.call rfl (impl_ReadEntry_fn (shV s) (shV_size hP.ok)) rfl (.cons (.one (.r .r)) (.nil)) fun g27 => ?_
  refine RW.k XK 101 7 rfl ?_
  (conv=>whnf);intro b28;(conv=>whnf);refine ⟨rfl,?_⟩
  refine RW.freezeB (ts := (Entry.c ((rdEnt (shV s)).2.1))) 9 rfl (DRd.r (DRd.r (DRd.r DRd.e))) ?_
  refine RW.k XK 101 1 rfl ?_
  (conv=>whnf);refine ⟨rfl,?_⟩
  refine RW.nil ?_
  refine CW.keep 101 [2,4,5,8,9,10,15,46,47] rfl ?_;(conv=>whnf);refine ⟨?_⟩
  refine CW.seq ?_
  refine CW.seqJ 101 (fun (v29 : Bool) => [(2, .obj b1 [I 0, I 0, I 0, I 0, I 0, I 0, I 0, Bo false, .r (.v (.slice none 0 0)), .r (.v (.slice none 0 0)), S (⟨#[]⟩), Bo false]), (4, .pt 15 b2 0), (5, .obj b3 [I (oneV (⟨t, 0, false⟩ : scan)), I (oneV (oneS (⟨t, 0, false⟩ : scan))), I (oneV (oneS (oneS (⟨t, 0, false⟩ : scan)))), I (numV (oneS (oneS (oneS (⟨t, 0, false⟩ : scan))))), I (numV (numS (oneS (oneS (oneS (⟨t, 0, false⟩ : scan)))))), I (numV (numS (numS (oneS (oneS (oneS (⟨t, 0, false⟩ : scan))))))), I (numV (numS (numS (numS (oneS (oneS (oneS (⟨t, 0, false⟩ : scan)))))))), Bo (sgV (numS (numS (numS (numS (oneS (oneS (oneS (⟨t, 0, false⟩ : scan))))))))), .w (sl 3 Entry.c es) X, .r (.v (.slice none 0 0)), S (⟨#[]⟩), Bo (sgV (sgS (numS (numS (numS (numS (oneS (oneS (oneS (⟨t, 0, false⟩ : scan))))))))))]), (9, .rp (Entry.c ((rdEnt (shV s)).2.1))), (15, .obj b2 ((scan.c (shS s)).map .r)), (46, I (cntV (sgS (sgS (numS (numS (numS (numS (oneS (oneS (oneS (⟨t, 0, false⟩ : scan)))))))))) 4)), (47, I (j : Int)), (62, Bo v29)]) (fun v29 => v29 = ((!((rdEnt (shV s)).2.2)) || (((rdEnt (shV s)).1) != 1))) ?_ ?_
  ·refine CW.region ?_
   refine RW.k XK 101 3 rfl ?_
   (conv=>whnf);refine ⟨rfl,?_⟩
   refine RW.gv rfl rfl rfl rfl (fun h30 => V.mv (d := I ((rdEnt (shV s)).1)) rfl rfl) (fun h30 => ?_) (fun h30 => ?_)
   ·skip
    refine RW.k XK 101 2 rfl ?_
    (conv=>whnf);refine ⟨rfl,?_⟩
    refine RW.nil ?_
    exact ⟨_, by first | rfl | (simp_all; done) | (simp_all; omega) | grind, rfl, Le.of rfl⟩
   ·skip
    refine RW.k XK 101 2 rfl ?_
    (conv=>whnf);refine ⟨rfl,?_⟩
    refine RW.nil ?_
    exact ⟨_, by first | rfl | (simp_all; done) | (simp_all; omega) | grind, rfl, Le.of rfl⟩
  ·intro v29 hv31
   refine CW.cond rfl (fun h32 => ?_) (fun h32 => ?_)
   ·skip
    have hvv := hv31.symm.trans h32
    refine CW.k XK 101 1 [2,3] rfl ?_
    (conv=>whnf);refine ⟨rfl,?_⟩
    refine CW.ret ?_
    exact Post.tup (by decide) (RVs.c (RV.c (f := fun e => (Message.c e).map .w) (e' := (⟨0, 0, 0, 0, 0, 0, 0, false, [], [], ⟨#[]⟩, false⟩ : Message)) rfl rfl rfl rfl (DT.v (DT.v (DT.v (DT.v (DT.v (DT.v (DT.v (DT.v (DT.n (DT.n (DT.v (DT.v DT.e)))))))))))) (by rw [hP.no hj hvv] <;> rfl)) (RVs.c (RV.b rfl (by rw [hP.no hj hvv] <;> rfl)) RVs.e)) (AOs.r AOs.e)
   ·skip
    have hvv := hv31.symm.trans h32
    refine CW.skip ?_
    refine CW.keep 101 [2,4,5,9,15,46,47] rfl ?_;(conv=>whnf);refine ⟨?_⟩
    refine CW.region ?_
    refine RW.k XK 101 3 rfl ?_
    (conv=>whnf);refine ⟨rfl,?_⟩
    refine RW.build1 (c := Entry.c) (v := ((rdEnt (shV s)).2.1)) rfl rfl rfl rfl rfl rfl (DW.v (DW.v (DW.v DW.e))) Entry.len (by decide) (by decide) fun X33 => ?_
    refine RW.takeO 65 5 8 (by decide) rfl rfl rfl ?_
    refine RW.appendSR (c := Entry.c) (l1 := es) (l2 := [((rdEnt (shV s)).2.1)]) rfl rfl rfl rfl rfl rfl rfl rfl (.al (k := none) (i := 67) (sz := 3) (V := X33) rfl rfl nofun) (by decide) (Nat.le_of_ble_eq_true rfl) Entry.len (fun _ => rfl) rfl (by have h8 := cntM_le t; have h7 := hP.le; have h6 := hP.len; have h5 := shV_size hP.ok; first | (simp only [maxLen, List.length_singleton]; omega) | (rw [hl, bys_len]; simp only [maxLen, List.length_singleton]; omega)) (by have h8 := cntM_le t; have h7 := hP.le; have h6 := hP.len; have h5 := shV_size hP.ok; first | (simp only [maxLen, List.length_singleton]; omega) | (rw [hl, bys_len]; simp only [maxLen, List.length_singleton]; omega)) fun X34 => ?_
    refine RW.k XK 101 2 rfl ?_
    (conv=>whnf);refine ⟨rfl,?_⟩
    refine RW.keep 101 [2,4,5,15,46,47,68] rfl ?_;(conv=>whnf);refine ⟨?_⟩
    refine RW.pullT (k := 5) (l := 68) (j := 8) 5 68 8 rfl rfl rfl (by decide) rfl rfl rfl ?_
    refine RW.keep 101 [2,4,5,15,46,47] rfl ?_;(conv=>whnf);refine ⟨?_⟩
    refine RW.nil ?_
    refine CW.keep 101 [2,4,5,15,46,47] rfl ?_;(conv=>whnf);refine ⟨?_⟩
    refine CW.region ?_
    refine RW.v rfl (V.inc rfl rfl rfl hj (by have h8 := cntM_le t; simp only [maxLen]; omega)) ?_
    refine RW.k XK 101 1 rfl ?_
    (conv=>whnf);refine ⟨rfl,?_⟩
    refine RW.nil ?_
    exact ⟨(j + 1, _, _, _), by simp only []; omega, (hP.go hj hvv), rfl, Le.c rfl <| Le.c rfl <| Le.c rfl <| Le.c rfl <| Le.c rfl <| Le.c rfl <| Le.e⟩
 ·skip
  have h9 : ¬ (j : Int) < cntV (h9S t) 4 := of_decide_eq_false h24
  have hfe := hP.fin (by rw [cntV_nat] at h9; omega)
  refine CW.exit ?_
  refine CW.keep 101 [2,4,5,15] rfl ?_;(conv=>whnf);refine ⟨?_⟩
  refine CW.seq ?_
  refine CW.region ?_
  refine RW.k XK 101 1 rfl ?_
  (conv=>whnf);refine ⟨rfl,?_⟩
  refine RW.callP (k := 15) (__impl_scan__short_fn s hP.ok) rfl rfl (Nat.le_of_ble_eq_true rfl) (by decide) rfl (DT.r (DT.r (DT.r DT.e))) (AsPs.here rfl (.nil)) fun g35 q36 => ?_
  refine RW.k XK 101 1 rfl ?_
  (conv=>whnf);refine ⟨rfl,?_⟩
  refine RW.nil ?_
  refine CW.keep 101 [2,4,5,11,15] rfl ?_;(conv=>whnf);refine ⟨?_⟩
  refine CW.seq ?_
  refine CW.k XK 101 1 [2,4,5,11,12,15] rfl ?_
  (conv=>whnf);refine ⟨rfl,?_⟩
  refine CW.block ?_
  refine CW.nilCell 5 9 1 cI rfl rfl ?_
  refine CW.loopI 101 (fun (zz : Nat × List Int × Value) => match zz with | (i, l, Y) => [(2, .obj b1 [I 0, I 0, I 0, I 0, I 0, I 0, I 0, Bo false, .r (.v (.slice none 0 0)), .r (.v (.slice none 0 0)), S (⟨#[]⟩), Bo false]), (4, .pt 15 b2 0), (5, .obj b3 [I (oneV (⟨t, 0, false⟩ : scan)), I (oneV (oneS (⟨t, 0, false⟩ : scan))), I (oneV (oneS (oneS (⟨t, 0, false⟩ : scan)))), I (numV (oneS (oneS (oneS (⟨t, 0, false⟩ : scan))))), I (numV (numS (oneS (oneS (oneS (⟨t, 0, false⟩ : scan)))))), I (numV (numS (numS (oneS (oneS (oneS (⟨t, 0, false⟩ : scan))))))), I (numV (numS (numS (numS (oneS (oneS (oneS (⟨t, 0, false⟩ : scan)))))))), Bo (sgV (numS (numS (numS (numS (oneS (oneS (oneS (⟨t, 0, false⟩ : scan))))))))), .w (sl 3 Entry.c es) X, .w (sl 1 cI l) Y, S (⟨#[]⟩), Bo (sgV (sgS (numS (numS (numS (numS (oneS (oneS (oneS (⟨t, 0, false⟩ : scan))))))))))]), (11, S (shV s)), (12, I (i : Int)), (15, .obj b2 ((scan.c (shS s)).map .r))]) (fun (zz : Nat × List Int × Value) => match zz with | (i, l, Y) => i ≤ (shV s).size ∧ l = bys (shV s) i) (fun (zz : Nat × List Int × Value) => match zz with | (i, l, Y) => (shV s).size - i) (0, [], _) rfl (Le.c rfl <| Le.c rfl <| Le.c rfl <| Le.c rfl <| Le.c rfl <| Le.c rfl <| Le.e) ⟨by omega, rfl⟩ ?_
  rintro ⟨i, l, Y⟩ ⟨hb, hl⟩
  refine CW.seq ?_
  refine CW.k XK 101 1 [2,4,5,11,12,15,76] rfl ?_
  (conv=>whnf);refine ⟨rfl,?_⟩
  refine CW.cond rfl (fun h37 => ?_) (fun h37 => ?_)
  ·skip
   have hlt : i < (shV s).size := by simpa using h37
   refine CW.skip ?_
   refine CW.keep 101 [2,4,5,11,12,15] rfl ?_;(conv=>whnf);refine ⟨?_⟩
   refine CW.seq ?_
   refine CW.block ?_
   refine CW.anyR2 (fc := [(2, b1, [.int .i64 0, .int .i64 0, .int .i64 0, .int .i64 0, .int .i64 0, .int .i64 0, .int .i64 0, .bool false, .slice none 0 0, .slice none 0 0, .string (⟨#[]⟩), .bool false]), (15, b2, [.string ((shS s).text), .int .i64 ((shS s).at_), .bool ((shS s).bad)])]) (L0 := [(2, .obj b1 [I 0, I 0, I 0, I 0, I 0, I 0, I 0, Bo false, .r (.v (.slice none 0 0)), .r (.v (.slice none 0 0)), S (⟨#[]⟩), Bo false]), (4, .pt 15 b2 0), (11, S (shV s)), (12, I (i : Int)), (15, .obj b2 ((scan.c (shS s)).map .r))]) 101 (fun (zz : Value × Value) => match zz with | (Xo38_6_1, Xo38_7_1) => [(5, .obj b3 [I (oneV (⟨t, 0, false⟩ : scan)), I (oneV (oneS (⟨t, 0, false⟩ : scan))), I (oneV (oneS (oneS (⟨t, 0, false⟩ : scan)))), I (numV (oneS (oneS (oneS (⟨t, 0, false⟩ : scan))))), I (numV (numS (oneS (oneS (oneS (⟨t, 0, false⟩ : scan)))))), I (numV (numS (numS (oneS (oneS (oneS (⟨t, 0, false⟩ : scan))))))), I (numV (numS (numS (numS (oneS (oneS (oneS (⟨t, 0, false⟩ : scan)))))))), Bo (sgV (numS (numS (numS (numS (oneS (oneS (oneS (⟨t, 0, false⟩ : scan))))))))), .w (sl 3 Entry.c es) X, .w (sl 1 cI (l ++ ([(IntKind.i64.wrap (bat (shV s) i))]))) Xo38_7_1, S (⟨#[]⟩), Bo (sgV (sgS (numS (numS (numS (numS (oneS (oneS (oneS (⟨t, 0, false⟩ : scan))))))))))])]) (fun all hall f hf b0 hb K hK => ?_) ?_
   ·skip
    have ro38_5 : ∀ B, ∀ (Xo38_6_1 : Value), ∀ (Xo38_7_1 : Value), RA f E B all 0 (bt 10 1023) ⟨101, [(5, .obj b3 [I (oneV (⟨t, 0, false⟩ : scan)), I (oneV (oneS (⟨t, 0, false⟩ : scan))), I (oneV (oneS (oneS (⟨t, 0, false⟩ : scan)))), I (numV (oneS (oneS (oneS (⟨t, 0, false⟩ : scan))))), I (numV (numS (oneS (oneS (oneS (⟨t, 0, false⟩ : scan)))))), I (numV (numS (numS (oneS (oneS (oneS (⟨t, 0, false⟩ : scan))))))), I (numV (numS (numS (numS (oneS (oneS (oneS (⟨t, 0, false⟩ : scan)))))))), Bo (sgV (numS (numS (numS (numS (oneS (oneS (oneS (⟨t, 0, false⟩ : scan))))))))), .w (sl 3 Entry.c es) X, .w (sl 1 cI (l ++ ([(IntKind.i64.wrap (bat (shV s) i))]))) Xo38_7_1, S (⟨#[]⟩), Bo (sgV (sgS (numS (numS (numS (numS (oneS (oneS (oneS (⟨t, 0, false⟩ : scan))))))))))])] ++ b0⟩ K := by
     intro B Xo38_6_1 Xo38_7_1
     exact RA.of2 hall hf hb (RA.finH (Tell.of rfl) (by kernel_rfl) (hK (Xo38_6_1, Xo38_7_1) _ rfl (Le.of rfl)))
    have ro38_4 : ∀ B, ∀ (Xo38_6_1 : Value), ∀ (Xo38_7_1 : Value), RA f E B all 1 (bt 10 511) ⟨101, [(5, .obj b3 [I (oneV (⟨t, 0, false⟩ : scan)), I (oneV (oneS (⟨t, 0, false⟩ : scan))), I (oneV (oneS (oneS (⟨t, 0, false⟩ : scan)))), I (numV (oneS (oneS (oneS (⟨t, 0, false⟩ : scan))))), I (numV (numS (oneS (oneS (oneS (⟨t, 0, false⟩ : scan)))))), I (numV (numS (numS (oneS (oneS (oneS (⟨t, 0, false⟩ : scan))))))), I (numV (numS (numS (numS (oneS (oneS (oneS (⟨t, 0, false⟩ : scan)))))))), Bo (sgV (numS (numS (numS (numS (oneS (oneS (oneS (⟨t, 0, false⟩ : scan))))))))), .w (sl 3 Entry.c es) X, .u, S (⟨#[]⟩), Bo (sgV (sgS (numS (numS (numS (numS (oneS (oneS (oneS (⟨t, 0, false⟩ : scan))))))))))]), (86, .w (sl 1 cI (l ++ ([(IntKind.i64.wrap (bat (shV s) i))]))) Xo38_7_1), (87, .pt 5 b3 9)] ++ b0⟩ K := by
     intro B Xo38_6_1 Xo38_7_1
     refine RA.of2 hall hf hb (RA.stepH (L := [9]) (Tell.of rfl) (by kernel_rfl) (by simp) (RA.each ?_ (RA.each0)))
     ·skip
      refine RO.store (d := .al 86 none 1 ((l ++ ([(IntKind.i64.wrap (bat (shV s) i))])).length) Xo38_7_1 0) rfl rfl rfl rfl rfl rfl rfl rfl rfl (Nat.le_of_ble_eq_true rfl) rfl rfl ?_
      refine RA.keep 101 [2,4,5,11,12,15,86] rfl ?_;(conv=>whnf);refine ⟨?_⟩
      refine RA.pullT (k := 5) (l := 86) (j := 9) 5 86 9 rfl rfl rfl (by decide) rfl rfl rfl ?_
      refine RA.keep 101 [2,4,5,11,12,15] rfl ?_;(conv=>whnf);refine ⟨?_⟩
      exact RA.to2 hall hf hb (ro38_5 B Xo38_6_1 Xo38_7_1) rfl rfl (by kernel_rfl)
    have ro38_3 : ∀ B, ∀ (Xo38_6_1 : Value), RA f E B all 3 (bt 10 127) ⟨101, [(5, .obj b3 [I (oneV (⟨t, 0, false⟩ : scan)), I (oneV (oneS (⟨t, 0, false⟩ : scan))), I (oneV (oneS (oneS (⟨t, 0, false⟩ : scan)))), I (numV (oneS (oneS (oneS (⟨t, 0, false⟩ : scan))))), I (numV (numS (oneS (oneS (oneS (⟨t, 0, false⟩ : scan)))))), I (numV (numS (numS (oneS (oneS (oneS (⟨t, 0, false⟩ : scan))))))), I (numV (numS (numS (numS (oneS (oneS (oneS (⟨t, 0, false⟩ : scan)))))))), Bo (sgV (numS (numS (numS (numS (oneS (oneS (oneS (⟨t, 0, false⟩ : scan))))))))), .w (sl 3 Entry.c es) X, .w (sl 1 cI l) Y, S (⟨#[]⟩), Bo (sgV (sgS (numS (numS (numS (numS (oneS (oneS (oneS (⟨t, 0, false⟩ : scan))))))))))]), (80, .al 5 (some 9) 1 l.length Y 0), (85, .w (sl 1 cI ([(IntKind.i64.wrap (bat (shV s) i))])) Xo38_6_1)] ++ b0⟩ K := by
     intro B Xo38_6_1
     refine RA.of2 hall hf hb (RA.stepH (L := [7]) (Tell.of rfl) (by kernel_rfl) (by simp) (RA.each ?_ (RA.each0)))
     ·skip
      refine RO.takeO 80 5 9 (by decide) rfl rfl rfl ?_
      refine RO.appendSR (c := cI) (l1 := l) (l2 := [(IntKind.i64.wrap (bat (shV s) i))]) rfl rfl rfl rfl rfl rfl rfl rfl rfl rfl (.al (k := none) (i := 85) (sz := 1) (V := Xo38_6_1) rfl rfl nofun) (by decide) (Nat.le_of_ble_eq_true rfl) cI.len (fun _ => rfl) rfl (by have h8 := cntM_le t; have h7 := hP.le; have h6 := hP.len; have h5 := shV_size hP.ok; first | (simp only [maxLen, List.length_singleton]; omega) | (rw [hl, bys_len]; simp only [maxLen, List.length_singleton]; omega)) (by have h8 := cntM_le t; have h7 := hP.le; have h6 := hP.len; have h5 := shV_size hP.ok; first | (simp only [maxLen, List.length_singleton]; omega) | (rw [hl, bys_len]; simp only [maxLen, List.length_singleton]; omega)) fun Xo38_7_1 => ?_
      refine RA.fr XK 101 1 [8] (bt 10 511) rfl rfl (by kernel_rfl) (Tell.of rfl) ?_
      (conv=>whnf);refine ⟨rfl,fun B=>?_⟩
      exact RA.to2 hall hf hb (ro38_4 B Xo38_6_1 Xo38_7_1) rfl rfl (by kernel_rfl)
    have ro38_2 : ∀ B, ∀ (Xo38_6_1 : Value), RA f E B all 4 (bt 10 125) ⟨101, [(5, .obj b3 [I (oneV (⟨t, 0, false⟩ : scan)), I (oneV (oneS (⟨t, 0, false⟩ : scan))), I (oneV (oneS (oneS (⟨t, 0, false⟩ : scan)))), I (numV (oneS (oneS (oneS (⟨t, 0, false⟩ : scan))))), I (numV (numS (oneS (oneS (oneS (⟨t, 0, false⟩ : scan)))))), I (numV (numS (numS (oneS (oneS (oneS (⟨t, 0, false⟩ : scan))))))), I (numV (numS (numS (numS (oneS (oneS (oneS (⟨t, 0, false⟩ : scan)))))))), Bo (sgV (numS (numS (numS (numS (oneS (oneS (oneS (⟨t, 0, false⟩ : scan))))))))), .w (sl 3 Entry.c es) X, .w (sl 1 cI l) Y, S (⟨#[]⟩), Bo (sgV (sgS (numS (numS (numS (numS (oneS (oneS (oneS (⟨t, 0, false⟩ : scan))))))))))]), (79, .pt 5 b3 9), (85, .w (sl 1 cI ([(IntKind.i64.wrap (bat (shV s) i))])) Xo38_6_1)] ++ b0⟩ K := by
     intro B Xo38_6_1
     refine RA.of2 hall hf hb (RA.stepH (L := [1]) (Tell.of rfl) (by kernel_rfl) (by simp) (RA.each ?_ (RA.each0)))
     ·skip
      refine RO.v rfl rfl (V.loadPrim (d := .al 5 (some 9) 1 l.length Y 0) rfl rfl (.inr ⟨_, rfl⟩) rfl rfl rfl) rfl ?_
      exact RA.to2 hall hf hb (ro38_3 B Xo38_6_1) rfl rfl (by kernel_rfl)
    have ro38_1 : ∀ B, RA f E B all 4 (bt 10 63) ⟨101, [(5, .obj b3 [I (oneV (⟨t, 0, false⟩ : scan)), I (oneV (oneS (⟨t, 0, false⟩ : scan))), I (oneV (oneS (oneS (⟨t, 0, false⟩ : scan)))), I (numV (oneS (oneS (oneS (⟨t, 0, false⟩ : scan))))), I (numV (numS (oneS (oneS (oneS (⟨t, 0, false⟩ : scan)))))), I (numV (numS (numS (oneS (oneS (oneS (⟨t, 0, false⟩ : scan))))))), I (numV (numS (numS (numS (oneS (oneS (oneS (⟨t, 0, false⟩ : scan)))))))), Bo (sgV (numS (numS (numS (numS (oneS (oneS (oneS (⟨t, 0, false⟩ : scan))))))))), .w (sl 3 Entry.c es) X, .w (sl 1 cI l) Y, S (⟨#[]⟩), Bo (sgV (sgS (numS (numS (numS (numS (oneS (oneS (oneS (⟨t, 0, false⟩ : scan))))))))))]), (80, .al 5 (some 9) 1 l.length Y 0), (84, I (IntKind.i64.wrap (bat (shV s) i)))] ++ b0⟩ K := by
     intro B
     refine RA.of2 hall hf hb (RA.stepH (L := [6]) (Tell.of rfl) (by kernel_rfl) (by simp) (RA.each ?_ (RA.each0)))
     ·skip
      refine RO.build1c (c := cI) (v := (IntKind.i64.wrap (bat (shV s) i))) (u := .v (.int .i64 (IntKind.i64.wrap (bat (shV s) i)))) rfl rfl rfl rfl rfl rfl rfl rfl (.inl rfl) rfl rfl fun Xo38_6_1 => ?_
      exact RA.to2 hall hf hb (ro38_3 B Xo38_6_1) rfl rfl (by kernel_rfl)
    have ro38_0 : ∀ B, RA f E B all 5 (bt 10 61) ⟨101, [(5, .obj b3 [I (oneV (⟨t, 0, false⟩ : scan)), I (oneV (oneS (⟨t, 0, false⟩ : scan))), I (oneV (oneS (oneS (⟨t, 0, false⟩ : scan)))), I (numV (oneS (oneS (oneS (⟨t, 0, false⟩ : scan))))), I (numV (numS (oneS (oneS (oneS (⟨t, 0, false⟩ : scan)))))), I (numV (numS (numS (oneS (oneS (oneS (⟨t, 0, false⟩ : scan))))))), I (numV (numS (numS (numS (oneS (oneS (oneS (⟨t, 0, false⟩ : scan)))))))), Bo (sgV (numS (numS (numS (numS (oneS (oneS (oneS (⟨t, 0, false⟩ : scan))))))))), .w (sl 3 Entry.c es) X, .w (sl 1 cI l) Y, S (⟨#[]⟩), Bo (sgV (sgS (numS (numS (numS (numS (oneS (oneS (oneS (⟨t, 0, false⟩ : scan))))))))))]), (79, .pt 5 b3 9), (84, I (IntKind.i64.wrap (bat (shV s) i)))] ++ b0⟩ K := by
     intro B
     refine RA.of2 hall hf hb (RA.stepH (L := [1, 6]) (Tell.of rfl) (by kernel_rfl) (by simp) (RA.each ?_ (RA.each ?_ (RA.each0))))
     ·skip
      refine RO.v rfl rfl (V.loadPrim (d := .al 5 (some 9) 1 l.length Y 0) rfl rfl (.inr ⟨_, rfl⟩) rfl rfl rfl) rfl ?_
      exact RA.to2 hall hf hb (ro38_1 B) rfl rfl (by kernel_rfl)
     ·skip
      refine RO.build1c (c := cI) (v := (IntKind.i64.wrap (bat (shV s) i))) (u := .v (.int .i64 (IntKind.i64.wrap (bat (shV s) i)))) rfl rfl rfl rfl rfl rfl rfl rfl (.inl rfl) rfl rfl fun Xo38_6_1 => ?_
      exact RA.to2 hall hf hb (ro38_2 B Xo38_6_1) rfl rfl (by kernel_rfl)
    refine RA.start (by kernel_rfl) (by kernel_rfl) (m := 10) (ls' := (bt 10 0)) ?_
    refine RA.fr XK 101 7 [0,2,3] (bt 10 13) rfl rfl (by kernel_rfl) (Tell.of rfl) ?_
    (conv=>whnf);refine ⟨rfl,fun B=>?_⟩
    refine RA.first (i := 4) (ls' := (bt 10 29)) (Tell.of rfl) (by kernel_rfl) rfl rfl rfl (VF.p (V.idxStr (m := i) rfl (by kernel_rfl) rfl rfl hlt)) ?_
    refine RA.fr XK 101 5 [5] (bt 10 61) rfl rfl (by kernel_rfl) (Tell.of rfl) ?_
    (conv=>whnf);refine ⟨rfl,fun B=>?_⟩
    exact RA.to2 hall hf hb (ro38_0 B) rfl rfl (by kernel_rfl)
   ·rintro ⟨Xo38_6_1, Xo38_7_1⟩
    refine CW.keep 101 [2,4,5,11,12,15] rfl ?_;(conv=>whnf);refine ⟨?_⟩
    refine CW.region ?_
    refine RW.k XK 101 1 rfl ?_
    (conv=>whnf);refine ⟨rfl,?_⟩
    refine RW.v rfl (V.inc rfl rfl rfl hlt (by have h8 := shV_size hP.ok; simp only [maxLen]; omega)) ?_
    refine RW.k XK 101 1 rfl ?_
    (conv=>whnf);refine ⟨rfl,?_⟩
    refine RW.nil ?_
    exact ⟨(i + 1, _, _), by simp only []; omega, ⟨by omega, by rw [hl, bys_succ]⟩, rfl, Le.c rfl <| Le.c rfl <| Le.c rfl <| Le.c rfl <| Le.c rfl <| Le.c rfl <| Le.e⟩
  ·skip
   have hge : i = (shV s).size := by have h9 := of_decide_eq_false h37; omega
   have hl2 : l = bys (shV s) (shV s).size := by rw [hl, hge]
   refine CW.exit ?_
   refine CW.keep 101 [2,4,5,15] rfl ?_;(conv=>whnf);refine ⟨?_⟩
   refine CW.seq ?_
   refine CW.region ?_
   refine RW.k XK 101 1 rfl ?_
   (conv=>whnf);refine ⟨rfl,?_⟩
   refine RW.callP (k := 15) (__impl_scan__short_fn (shS s) (shS_ok hP.ok)) rfl rfl (Nat.le_of_ble_eq_true rfl) (by decide) rfl (DT.r (DT.r (DT.r DT.e))) (AsPs.here rfl (.nil)) fun g39 q40 => ?_
   refine RW.k XK 101 2 rfl ?_
   (conv=>whnf);refine ⟨rfl,?_⟩
   refine RW.nil ?_
   refine CW.keep 101 [2,4,5,15] rfl ?_;(conv=>whnf);refine ⟨?_⟩
   refine CW.seq ?_
   refine CW.seqJ 101 (fun (v41 : Bool) => [(2, .obj b1 [I 0, I 0, I 0, I 0, I 0, I 0, I 0, Bo false, .r (.v (.slice none 0 0)), .r (.v (.slice none 0 0)), S (⟨#[]⟩), Bo false]), (5, .obj b3 [I (oneV (⟨t, 0, false⟩ : scan)), I (oneV (oneS (⟨t, 0, false⟩ : scan))), I (oneV (oneS (oneS (⟨t, 0, false⟩ : scan)))), I (numV (oneS (oneS (oneS (⟨t, 0, false⟩ : scan))))), I (numV (numS (oneS (oneS (oneS (⟨t, 0, false⟩ : scan)))))), I (numV (numS (numS (oneS (oneS (oneS (⟨t, 0, false⟩ : scan))))))), I (numV (numS (numS (numS (oneS (oneS (oneS (⟨t, 0, false⟩ : scan)))))))), Bo (sgV (numS (numS (numS (numS (oneS (oneS (oneS (⟨t, 0, false⟩ : scan))))))))), .w (sl 3 Entry.c es) X, .w (sl 1 cI l) Y, S (shV (shS s)), Bo (sgV (sgS (numS (numS (numS (numS (oneS (oneS (oneS (⟨t, 0, false⟩ : scan))))))))))]), (98, Bo v41)]) (fun v41 => v41 = ((!(doneB (shS (shS s)))) || (!(msgOk (⟨(oneV (⟨t, 0, false⟩ : scan)), (oneV (oneS (⟨t, 0, false⟩ : scan))), (oneV (oneS (oneS (⟨t, 0, false⟩ : scan)))), (numV (oneS (oneS (oneS (⟨t, 0, false⟩ : scan))))), (numV (numS (oneS (oneS (oneS (⟨t, 0, false⟩ : scan)))))), (numV (numS (numS (oneS (oneS (oneS (⟨t, 0, false⟩ : scan))))))), (numV (numS (numS (numS (oneS (oneS (oneS (⟨t, 0, false⟩ : scan)))))))), (sgV (numS (numS (numS (numS (oneS (oneS (oneS (⟨t, 0, false⟩ : scan))))))))), es, l, (shV (shS s)), (sgV (sgS (numS (numS (numS (numS (oneS (oneS (oneS (⟨t, 0, false⟩ : scan))))))))))⟩ : Message))))) ?_ ?_
   ·refine CW.region ?_
    refine RW.k XK 101 1 rfl ?_
    (conv=>whnf);refine ⟨rfl,?_⟩
    refine RW.callOwn rfl (__impl_scan__done_fn (shS (shS s))) rfl (.cons (.one (.r (.pt rfl rfl (DRd.r (DRd.r (DRd.r DRd.e))) nofun))) (.nil)) rfl fun g42 => ?_
    refine RW.k XK 101 2 rfl ?_
    (conv=>whnf);refine ⟨rfl,?_⟩
    refine RW.gv rfl rfl rfl rfl (fun h43 => V.loadAgg rfl rfl rfl rfl rfl (Nat.le_of_ble_eq_true rfl)) (fun h43 => ?_) (fun h43 => ?_)
    ·skip
     refine RW.gcallOwn rfl rfl rfl rfl (impl_MessageOk_fn (⟨(oneV (⟨t, 0, false⟩ : scan)), (oneV (oneS (⟨t, 0, false⟩ : scan))), (oneV (oneS (oneS (⟨t, 0, false⟩ : scan)))), (numV (oneS (oneS (oneS (⟨t, 0, false⟩ : scan))))), (numV (numS (oneS (oneS (oneS (⟨t, 0, false⟩ : scan)))))), (numV (numS (numS (oneS (oneS (oneS (⟨t, 0, false⟩ : scan))))))), (numV (numS (numS (numS (oneS (oneS (oneS (⟨t, 0, false⟩ : scan)))))))), (sgV (numS (numS (numS (numS (oneS (oneS (oneS (⟨t, 0, false⟩ : scan))))))))), es, l, (shV (shS s)), (sgV (sgS (numS (numS (numS (numS (oneS (oneS (oneS (⟨t, 0, false⟩ : scan))))))))))⟩ : Message) (by rw [hl2]; exact tail_ok hP)) rfl (.cons (.agg (.cons (.r .r) (.cons (.r .r) (.cons (.r .r) (.cons (.r .r) (.cons (.r .r) (.cons (.r .r) (.cons (.r .r) (.cons (.r .r) (.cons (.r (.alo (k := none) (i := 5) (j := 8) (sz := 3) (V := X) rfl rfl rfl nofun)) (.cons (.r (.alo (k := none) (i := 5) (j := 9) (sz := 1) (V := Y) rfl rfl rfl nofun)) (.cons (.r .r) (.cons (.r .r) (.nil)))))))))))))) (.nil)) rfl fun g44 => ?_
     refine RW.k XK 101 2 rfl ?_
     (conv=>whnf);refine ⟨rfl,?_⟩
     refine RW.nil ?_
     exact ⟨_, by first | rfl | (simp_all; done) | (simp_all; omega) | grind, rfl, Le.of rfl⟩
    ·skip
     refine RW.k XK 101 3 rfl ?_
     (conv=>whnf);refine ⟨rfl,?_⟩
     refine RW.nil ?_
     exact ⟨_, by first | rfl | (simp_all; done) | (simp_all; omega) | grind, rfl, Le.of rfl⟩
   ·intro v41 hv45
    refine CW.cond rfl (fun h46 => ?_) (fun h46 => ?_)
    ·skip
     have hvv := hv45.symm.trans h46
     have hvt : tailC t (es, s) = true := by have h9 := hv45.symm.trans h46; rw [hl2] at h9; exact h9
     refine CW.k XK 101 1 [2,3] rfl ?_
     (conv=>whnf);refine ⟨rfl,?_⟩
     refine CW.ret ?_
     exact Post.tup (by decide) (RVs.c (RV.c (f := fun e => (Message.c e).map .w) (e' := (⟨0, 0, 0, 0, 0, 0, 0, false, [], [], ⟨#[]⟩, false⟩ : Message)) rfl rfl rfl rfl (DT.v (DT.v (DT.v (DT.v (DT.v (DT.v (DT.v (DT.v (DT.n (DT.n (DT.v (DT.v DT.e)))))))))))) (by rw [rd_end hfe hvt] <;> rfl)) (RVs.c (RV.b rfl (by rw [rd_end hfe hvt] <;> rfl)) RVs.e)) (AOs.r AOs.e)
    ·skip
     have hvv := hv45.symm.trans h46
     have hvt : tailC t (es, s) = false := by have h9 := hv45.symm.trans h46; rw [hl2] at h9; exact h9
     refine CW.skip ?_
     refine CW.keep 101 [2,5] rfl ?_;(conv=>whnf);refine ⟨?_⟩
     refine CW.seq ?_
     refine CW.region ?_
     refine RW.k XK 101 2 rfl ?_
     (conv=>whnf);refine ⟨rfl,?_⟩
     refine RW.keep 101 [2,5] rfl ?_;(conv=>whnf);refine ⟨?_⟩
     refine RW.pullO (k := 2) (l := 5) (j := 8) 2 5 8 rfl rfl rfl (by decide) rfl rfl rfl rfl ?_
     refine RW.keep 101 [2,5] rfl ?_;(conv=>whnf);refine ⟨?_⟩
     refine RW.pullO (k := 2) (l := 5) (j := 9) 2 5 9 rfl rfl rfl (by decide) rfl rfl rfl rfl ?_
     refine RW.keep 101 [2,5] rfl ?_;(conv=>whnf);refine ⟨?_⟩
     refine RW.k XK 101 1 rfl ?_
     (conv=>whnf);refine ⟨rfl,?_⟩
     refine RW.nil ?_
     refine CW.keep 101 [2,3] rfl ?_;(conv=>whnf);refine ⟨?_⟩
     refine CW.ret ?_
     exact Post.tup (by decide) (RVs.c (RV.c (f := fun e => (Message.c e).map .w) (e' := (⟨(oneV (⟨t, 0, false⟩ : scan)), (oneV (oneS (⟨t, 0, false⟩ : scan))), (oneV (oneS (oneS (⟨t, 0, false⟩ : scan)))), (numV (oneS (oneS (oneS (⟨t, 0, false⟩ : scan))))), (numV (numS (oneS (oneS (oneS (⟨t, 0, false⟩ : scan)))))), (numV (numS (numS (oneS (oneS (oneS (⟨t, 0, false⟩ : scan))))))), (numV (numS (numS (numS (oneS (oneS (oneS (⟨t, 0, false⟩ : scan)))))))), (sgV (numS (numS (numS (numS (oneS (oneS (oneS (⟨t, 0, false⟩ : scan))))))))), es, l, (shV (shS s)), (sgV (sgS (numS (numS (numS (numS (oneS (oneS (oneS (⟨t, 0, false⟩ : scan))))))))))⟩ : Message)) rfl rfl rfl rfl (DT.v (DT.v (DT.v (DT.v (DT.v (DT.v (DT.v (DT.v (DT.w (DT.w (DT.v (DT.v DT.e)))))))))))) (by rw [rd_end hfe hvt, hl2] <;> rfl)) (RVs.c (RV.b rfl (by rw [rd_end hfe hvt] <;> rfl)) RVs.e)) (AOs.r AOs.e)
end Go.Proofs.Ytmhnehgpmndiiaa.Y
