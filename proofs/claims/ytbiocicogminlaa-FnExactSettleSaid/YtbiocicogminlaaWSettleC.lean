import Derived.Test.YtbiocicogminlaaWSettleB
namespace Go.Proofs.Ytbiocicogminlaa.Y
open Go Go.RowKit Go.Eng Go.Proofs
set_option maxHeartbeats 4000000 in
theorem impl_LogBehind_fn (l : Log) (b : Int) (t : Int) (hok : okToLog l) (hi : b ≤ 9223372036854775807) : Eng.Fn E.P 86 [.agg ((Log.c l).map .r), .one (.r (.v (.int .i64 b))), .one (.r (.v (.int .i64 t)))] (.one (.agg ((Log.c (logBehind l b t)).map .w))) [.agg ((Log.c l).map .r), .one (.r (.v (.int .i64 b))), .one (.r (.v (.int .i64 t)))] := by
 refine Eng.Fn.intro (E := E) (rvs := [.cell 6 44]) Try.func86 rfl rfl rfl (by simp [outSlots, moved, rvSlot, sl]) ?_
 intro B g bo
 refine CW.le [(0, .agg ((Log.c l).map .r)), (1, I b), (2, I t)] rfl (Le.of rfl) ?_
 refine CW.seq ?_
 refine CW.region ?_
 refine RW.box (ds := ((Log.c l).map .r)) rfl rfl rfl fun b1 => ?_
 refine RW.alloc (ds := [I 0, I 0, .r (.v (.slice none 0 0))]) rfl rfl rfl rfl fun b2 => ?_
 refine RW.nil ?_
 refine CW.le [(1, I b), (2, I t), (3, .obj b1 ((Log.c l).map .r)), (6, .obj b2 [I 0, I 0, .r (.v (.slice none 0 0))])] rfl (Le.of rfl) ?_
 refine CW.seq ?_
 refine CW.region ?_
 refine RW.v rfl (V.mv (d := I b) rfl rfl) ?_
 refine RW.v rfl (V.mv (d := I t) rfl rfl) ?_
 refine RW.v rfl (V.build (ds := [I b, I t, .r (.v (.slice none 0 0))]) rfl rfl rfl rfl (.one rfl rfl rfl (Nat.le_of_ble_eq_true rfl) (.one rfl rfl rfl (Nat.le_of_ble_eq_true rfl) (.nil)))) ?_
 refine RW.alloc (ds := [I 0, I 0, .r (.v (.slice none 0 0))]) rfl rfl rfl rfl fun b3 => ?_
 refine RW.storeAgg (es := [I b, I t, .r (.v (.slice none 0 0))]) rfl rfl rfl rfl rfl rfl rfl rfl (Nat.le_of_ble_eq_true rfl) rfl ?_
 refine RW.nil ?_
 refine CW.le [(1, I b), (2, I t), (3, .obj b1 ((Log.c l).map .r)), (6, .obj b2 [I 0, I 0, .r (.v (.slice none 0 0))]), (7, .obj b3 [I b, I t, .r (.v (.slice none 0 0))])] rfl (Le.of rfl) ?_
 refine CW.seq ?_
 refine CW.seqJ 36 (fun (v4 : Bool) => [(1, I b), (3, .obj b1 ((Log.c l).map .r)), (6, .obj b2 [I 0, I 0, .r (.v (.slice none 0 0))]), (7, .obj b3 [I b, I t, .r (.v (.slice none 0 0))]), (23, Bo v4)]) (fun v4 => v4 = (((logOk l) && ((logTerm l b) == t)) && decide (t ≥ 0))) ?_ ?_
 ·refine CW.region ?_
  refine RW.v rfl (V.loadAgg rfl rfl rfl rfl rfl (Nat.le_of_ble_eq_true rfl)) ?_
  refine RW.call rfl (impl_LogOk_fn l hok) rfl (.cons (.agg (.cons (.r .r) (.cons (.r .r) (.cons (.r .r) (.nil))))) (.nil)) fun g5 => ?_
  refine RW.v rfl (V.mv (d := Bo (logOk l)) rfl rfl) ?_
  refine RW.gv rfl rfl rfl rfl (fun h6 => V.loadAgg rfl rfl rfl rfl rfl (Nat.le_of_ble_eq_true rfl)) (fun h6 => ?_) (fun h6 => ?_)
  ·skip
   refine RW.gt rfl rfl rfl rfl (V.mv (d := I b) rfl rfl) ?_
   refine RW.gcall rfl rfl rfl rfl (impl_LogTerm_fn l b (logOk_hs h6) hi) rfl (.cons (.agg (.cons (.r .r) (.cons (.r .r) (.cons (.r .r) (.nil))))) (.cons (.one (.r .r)) (.nil))) fun g7 => ?_
   refine RW.gt rfl rfl rfl rfl (V.mv (d := I t) rfl rfl) ?_
   refine RW.gt rfl rfl rfl rfl (V.cmpInt rfl rfl rfl rfl) ?_
   refine RW.v rfl (V.pickT (d := Bo ((logTerm l b) == t)) rfl rfl rfl) ?_
   refine RW.v rfl (V.mv (d := Bo ((logTerm l b) == t)) rfl rfl) ?_
   refine RW.gv rfl rfl rfl rfl (fun h8 => V.mv (d := I t) rfl rfl) (fun h8 => ?_) (fun h8 => ?_)
   ·skip
    refine RW.gt rfl rfl rfl rfl (V.cmpInt rfl rfl rfl rfl) ?_
    refine RW.v rfl (V.pickT (d := Bo (decide (t ≥ 0))) rfl rfl rfl) ?_
    refine RW.nil ?_
    exact ⟨_, by first | rfl | (simp_all; done) | (simp_all; omega) | grind, rfl, Le.c rfl <| Le.c rfl <| Le.c rfl <| Le.c rfl <| Le.c rfl <| Le.e⟩
   ·skip
    refine RW.guardF rfl rfl rfl rfl ?_
    refine RW.v rfl (V.pickF (d := Bo false) rfl rfl rfl) ?_
    refine RW.nil ?_
    exact ⟨_, by first | rfl | (simp_all; done) | (simp_all; omega) | grind, rfl, Le.c rfl <| Le.c rfl <| Le.c rfl <| Le.c rfl <| Le.c rfl <| Le.e⟩
  ·skip
   refine RW.guardF rfl rfl rfl rfl ?_
   refine RW.guardF rfl rfl rfl rfl ?_
   refine RW.guardF rfl rfl rfl rfl ?_
   refine RW.guardF rfl rfl rfl rfl ?_
   refine RW.v rfl (V.pickF (d := Bo false) rfl rfl rfl) ?_
   refine RW.v rfl (V.mv (d := Bo false) rfl rfl) ?_
   refine RW.guardF rfl rfl rfl rfl ?_
   refine RW.guardF rfl rfl rfl rfl ?_
   refine RW.v rfl (V.pickF (d := Bo false) rfl rfl rfl) ?_
   refine RW.nil ?_
   exact ⟨_, by first | rfl | (simp_all; done) | (simp_all; omega) | grind, rfl, Le.c rfl <| Le.c rfl <| Le.c rfl <| Le.c rfl <| Le.c rfl <| Le.e⟩
 ·intro v4 hv9
  refine CW.cond rfl (fun h10 => ?_) (fun h10 => ?_)
  ·skip
   have hl : logOk l = true := by rw [hv9] at h10; simp at h10; exact h10.1.1
   have hs := logOk_hs hl
   have hr : l.start ≤ b ∧ b ≤ l.start + (l.entries.length : Int) := by rw [hv9, lb_impl2] at h10; simp [inR] at h10; omega
   have ht : (logTerm l b == t) = true := by rw [hv9] at h10; simp at h10; simpa using h10.1.2
   refine CW.anyR 36 (fun (Xo11_9_1 : Value) => [(6, .obj b2 [I 0, I 0, .r (.v (.slice none 0 0))]), (7, .obj b3 [I b, I t, .w (sl 3 Entry.c (([]) ++ (l.entries.drop (b - l.start).toNat))) Xo11_9_1])]) (fun all hall K hK => ?_) ?_
   ·skip
    have ro11_111111111111 : ∀ (Xo11_9_1 : Value), RA E B all 0 #[true, true, true, true, true, true, true, true, true, true, true, true] ⟨36, [(6, .obj b2 [I 0, I 0, .r (.v (.slice none 0 0))]), (7, .obj b3 [I b, I t, .w (sl 3 Entry.c (([]) ++ (l.entries.drop (b - l.start).toNat))) Xo11_9_1])]⟩ K := by
     intro Xo11_9_1
     exact RA.of hall (RA.fin (by kernel_rfl) (hK Xo11_9_1 _ rfl (Le.of rfl)))
    have ro11_111111111110 : ∀ (Xo11_9_1 : Value), RA E B all 1 #[true, true, true, true, true, true, true, true, true, true, true, false] ⟨36, [(6, .obj b2 [I 0, I 0, .r (.v (.slice none 0 0))]), (7, .obj b3 [I b, I t, .r (.v (.slice none 0 0))]), (33, .w (sl 3 Entry.c (([]) ++ (l.entries.drop (b - l.start).toNat))) Xo11_9_1), (34, .pt 7 b3 2)]⟩ K := by
     intro Xo11_9_1
     refine RA.of hall (RA.step (L := [11]) (by kernel_rfl) (by simp) (RA.each ?_ (RA.each0)))
     ·skip
      refine RO.store (d := .al 33 none 3 ((([]) ++ (l.entries.drop (b - l.start).toNat)).length) Xo11_9_1 0) rfl rfl rfl rfl rfl rfl rfl rfl rfl (Nat.le_of_ble_eq_true rfl) rfl rfl ?_
      refine RA.le [(6, .obj b2 [I 0, I 0, .r (.v (.slice none 0 0))]), (7, .obj b3 [I b, I t, .al 33 none 3 ((([]) ++ (l.entries.drop (b - l.start).toNat)).length) Xo11_9_1 0]), (33, .w (sl 3 Entry.c (([]) ++ (l.entries.drop (b - l.start).toNat))) Xo11_9_1)] rfl (Le.of rfl) ?_
      refine RA.pullT (k := 7) (l := 33) (j := 2) 7 33 2 rfl rfl rfl (by decide) rfl rfl rfl ?_
      refine RA.le [(6, .obj b2 [I 0, I 0, .r (.v (.slice none 0 0))]), (7, .obj b3 [I b, I t, .w (sl 3 Entry.c (([]) ++ (l.entries.drop (b - l.start).toNat))) Xo11_9_1])] rfl (Le.of rfl) ?_
      exact RA.to hall (RA.lr (ro11_111111111111 Xo11_9_1) rfl rfl)
    have ro11_111111111100 : ∀ (Xo11_9_1 : Value), RA E B all 2 #[true, true, true, true, true, true, true, true, true, true, false, false] ⟨36, [(6, .obj b2 [I 0, I 0, .r (.v (.slice none 0 0))]), (7, .obj b3 [I b, I t, .r (.v (.slice none 0 0))]), (33, .w (sl 3 Entry.c (([]) ++ (l.entries.drop (b - l.start).toNat))) Xo11_9_1)]⟩ K := by
     intro Xo11_9_1
     refine RA.of hall (RA.step (L := [10]) (by kernel_rfl) (by simp) (RA.each ?_ (RA.each0)))
     ·skip
      refine RO.v rfl rfl (V.field rfl rfl rfl rfl (by decide) rfl) rfl ?_
      exact RA.to hall (RA.lr (ro11_111111111110 Xo11_9_1) rfl rfl)
    have ro11_111111111000 : RA E B all 3 #[true, true, true, true, true, true, true, true, true, false, false, false] ⟨36, [(6, .obj b2 [I 0, I 0, .r (.v (.slice none 0 0))]), (7, .obj b3 [I b, I t, .r (.v (.slice none 0 0))]), (25, .r (.v (.slice none 0 0))), (32, .r (sl 3 Entry.c (l.entries.drop (b - l.start).toNat)))]⟩ K := by
     refine RA.of hall (RA.step (L := [9]) (by kernel_rfl) (by simp) (RA.each ?_ (RA.each0)))
     ·skip
      refine RO.nilOwn 25 3 Entry.c rfl ?_
      refine RO.appendSR (c := Entry.c) (l1 := []) (l2 := (l.entries.drop (b - l.start).toNat)) rfl rfl rfl rfl rfl rfl rfl rfl rfl rfl .r (by decide) (Nat.le_of_ble_eq_true rfl) Entry.len (fun _ => rfl) rfl (by have h9 := hok.1; have h8 : (l.entries.drop (b - l.start).toNat).length ≤ l.entries.length := (by rw [List.length_drop]; omega); simp only [maxLen, List.length_nil]; omega) (by have h9 := hok.1; have h8 : (l.entries.drop (b - l.start).toNat).length ≤ l.entries.length := (by rw [List.length_drop]; omega); simp only [maxLen, List.length_nil]; omega) fun Xo11_9_1 => ?_
      exact RA.to hall (RA.lr (ro11_111111111100 Xo11_9_1) rfl rfl)
    have ro11_101111111000 : RA E B all 4 #[true, false, true, true, true, true, true, true, true, false, false, false] ⟨36, [(6, .obj b2 [I 0, I 0, .r (.v (.slice none 0 0))]), (7, .obj b3 [I b, I t, .r (.v (.slice none 0 0))]), (24, .pt 7 b3 2), (32, .r (sl 3 Entry.c (l.entries.drop (b - l.start).toNat)))]⟩ K := by
     refine RA.of hall (RA.step (L := [1]) (by kernel_rfl) (by simp) (RA.each ?_ (RA.each0)))
     ·skip
      refine RO.v rfl rfl (V.loadPrim (d := .r (.v (.slice none 0 0))) rfl rfl (.inr ⟨_, rfl⟩) rfl rfl rfl) rfl ?_
      exact RA.to hall (RA.lr ro11_111111111000 rfl rfl)
    have ro11_111111110000 : RA E B all 4 #[true, true, true, true, true, true, true, true, false, false, false, false] ⟨36, [(6, .obj b2 [I 0, I 0, .r (.v (.slice none 0 0))]), (7, .obj b3 [I b, I t, .r (.v (.slice none 0 0))]), (25, .r (.v (.slice none 0 0))), (27, .r (sl 3 Entry.c l.entries)), (31, I (IntKind.i64.wrap (b - l.start)))]⟩ K := by
     refine RA.of hall (RA.step (L := [8]) (by kernel_rfl) (by simp) (RA.each ?_ (RA.each0)))
     ·skip
      refine RO.v rfl rfl (V.dropS (m := (b - l.start).toNat) rfl rfl rfl rfl rfl rfl (by rw [IntKind.wrap_i64]; omega) Entry.len (by omega)) rfl ?_
      exact RA.to hall (RA.lr ro11_111111111000 rfl rfl)
    have ro11_001111111000 : RA E B all 5 #[false, false, true, true, true, true, true, true, true, false, false, false] ⟨36, [(6, .obj b2 [I 0, I 0, .r (.v (.slice none 0 0))]), (7, .obj b3 [I b, I t, .r (.v (.slice none 0 0))]), (32, .r (sl 3 Entry.c (l.entries.drop (b - l.start).toNat)))]⟩ K := by
     refine RA.of hall (RA.step (L := [0]) (by kernel_rfl) (by simp) (RA.each ?_ (RA.each0)))
     ·skip
      refine RO.v rfl rfl (V.field rfl rfl rfl rfl (by decide) rfl) rfl ?_
      exact RA.to hall (RA.lr ro11_101111111000 rfl rfl)
    have ro11_101111110000 : RA E B all 5 #[true, false, true, true, true, true, true, true, false, false, false, false] ⟨36, [(6, .obj b2 [I 0, I 0, .r (.v (.slice none 0 0))]), (7, .obj b3 [I b, I t, .r (.v (.slice none 0 0))]), (24, .pt 7 b3 2), (27, .r (sl 3 Entry.c l.entries)), (31, I (IntKind.i64.wrap (b - l.start)))]⟩ K := by
     refine RA.of hall (RA.step (L := [1, 8]) (by kernel_rfl) (by simp) (RA.each ?_ (RA.each ?_ (RA.each0))))
     ·skip
      refine RO.v rfl rfl (V.loadPrim (d := .r (.v (.slice none 0 0))) rfl rfl (.inr ⟨_, rfl⟩) rfl rfl rfl) rfl ?_
      exact RA.to hall (RA.lr ro11_111111110000 rfl rfl)
     ·skip
      refine RO.v rfl rfl (V.dropS (m := (b - l.start).toNat) rfl rfl rfl rfl rfl rfl (by rw [IntKind.wrap_i64]; omega) Entry.len (by omega)) rfl ?_
      exact RA.to hall (RA.lr ro11_101111111000 rfl rfl)
    have ro11_111011110000 : RA E B all 5 #[true, true, true, false, true, true, true, true, false, false, false, false] ⟨36, [(3, .obj b1 ((Log.c l).map .r)), (6, .obj b2 [I 0, I 0, .r (.v (.slice none 0 0))]), (7, .obj b3 [I b, I t, .r (.v (.slice none 0 0))]), (25, .r (.v (.slice none 0 0))), (26, .pt 3 b1 2), (31, I (IntKind.i64.wrap (b - l.start)))]⟩ K := by
     refine RA.of hall (RA.step (L := [3]) (by kernel_rfl) (by simp) (RA.each ?_ (RA.each0)))
     ·skip
      refine RO.v rfl rfl (V.loadPrim (d := .r (sl 3 Entry.c l.entries)) rfl rfl (.inr ⟨_, rfl⟩) rfl rfl rfl) rfl ?_
      exact RA.to hall (RA.lr ro11_111111110000 rfl rfl)
    have ro11_111111100000 : RA E B all 5 #[true, true, true, true, true, true, true, false, false, false, false, false] ⟨36, [(6, .obj b2 [I 0, I 0, .r (.v (.slice none 0 0))]), (7, .obj b3 [I b, I t, .r (.v (.slice none 0 0))]), (25, .r (.v (.slice none 0 0))), (27, .r (sl 3 Entry.c l.entries)), (28, I b), (30, I l.start)]⟩ K := by
     refine RA.of hall (RA.step (L := [7]) (by kernel_rfl) (by simp) (RA.each ?_ (RA.each0)))
     ·skip
      refine RO.v rfl rfl (V.arInt rfl rfl rfl rfl) rfl ?_
      exact RA.to hall (RA.lr ro11_111111110000 rfl rfl)
    have ro11_001111110000 : RA E B all 6 #[false, false, true, true, true, true, true, true, false, false, false, false] ⟨36, [(6, .obj b2 [I 0, I 0, .r (.v (.slice none 0 0))]), (7, .obj b3 [I b, I t, .r (.v (.slice none 0 0))]), (27, .r (sl 3 Entry.c l.entries)), (31, I (IntKind.i64.wrap (b - l.start)))]⟩ K := by
     refine RA.of hall (RA.step (L := [0, 8]) (by kernel_rfl) (by simp) (RA.each ?_ (RA.each ?_ (RA.each0))))
     ·skip
      refine RO.v rfl rfl (V.field rfl rfl rfl rfl (by decide) rfl) rfl ?_
      exact RA.to hall (RA.lr ro11_101111110000 rfl rfl)
     ·skip
      refine RO.v rfl rfl (V.dropS (m := (b - l.start).toNat) rfl rfl rfl rfl rfl rfl (by rw [IntKind.wrap_i64]; omega) Entry.len (by omega)) rfl ?_
      exact RA.to hall (RA.lr ro11_001111111000 rfl rfl)
    have ro11_101011110000 : RA E B all 6 #[true, false, true, false, true, true, true, true, false, false, false, false] ⟨36, [(3, .obj b1 ((Log.c l).map .r)), (6, .obj b2 [I 0, I 0, .r (.v (.slice none 0 0))]), (7, .obj b3 [I b, I t, .r (.v (.slice none 0 0))]), (24, .pt 7 b3 2), (26, .pt 3 b1 2), (31, I (IntKind.i64.wrap (b - l.start)))]⟩ K := by
     refine RA.of hall (RA.step (L := [1, 3]) (by kernel_rfl) (by simp) (RA.each ?_ (RA.each ?_ (RA.each0))))
     ·skip
      refine RO.v rfl rfl (V.loadPrim (d := .r (.v (.slice none 0 0))) rfl rfl (.inr ⟨_, rfl⟩) rfl rfl rfl) rfl ?_
      exact RA.to hall (RA.lr ro11_111011110000 rfl rfl)
     ·skip
      refine RO.v rfl rfl (V.loadPrim (d := .r (sl 3 Entry.c l.entries)) rfl rfl (.inr ⟨_, rfl⟩) rfl rfl rfl) rfl ?_
      exact RA.to hall (RA.lr ro11_101111110000 rfl rfl)
    have ro11_101111100000 : RA E B all 6 #[true, false, true, true, true, true, true, false, false, false, false, false] ⟨36, [(6, .obj b2 [I 0, I 0, .r (.v (.slice none 0 0))]), (7, .obj b3 [I b, I t, .r (.v (.slice none 0 0))]), (24, .pt 7 b3 2), (27, .r (sl 3 Entry.c l.entries)), (28, I b), (30, I l.start)]⟩ K := by
     refine RA.of hall (RA.step (L := [1, 7]) (by kernel_rfl) (by simp) (RA.each ?_ (RA.each ?_ (RA.each0))))
     ·skip
      refine RO.v rfl rfl (V.loadPrim (d := .r (.v (.slice none 0 0))) rfl rfl (.inr ⟨_, rfl⟩) rfl rfl rfl) rfl ?_
      exact RA.to hall (RA.lr ro11_111111100000 rfl rfl)
     ·skip
      refine RO.v rfl rfl (V.arInt rfl rfl rfl rfl) rfl ?_
      exact RA.to hall (RA.lr ro11_101111110000 rfl rfl)
    have ro11_110011110000 : RA E B all 6 #[true, true, false, false, true, true, true, true, false, false, false, false] ⟨36, [(3, .obj b1 ((Log.c l).map .r)), (6, .obj b2 [I 0, I 0, .r (.v (.slice none 0 0))]), (7, .obj b3 [I b, I t, .r (.v (.slice none 0 0))]), (25, .r (.v (.slice none 0 0))), (31, I (IntKind.i64.wrap (b - l.start)))]⟩ K := by
     refine RA.of hall (RA.step (L := [2]) (by kernel_rfl) (by simp) (RA.each ?_ (RA.each0)))
     ·skip
      refine RO.v rfl rfl (V.field rfl rfl rfl rfl (by decide) rfl) rfl ?_
      exact RA.to hall (RA.lr ro11_111011110000 rfl rfl)
    have ro11_111011100000 : RA E B all 6 #[true, true, true, false, true, true, true, false, false, false, false, false] ⟨36, [(3, .obj b1 ((Log.c l).map .r)), (6, .obj b2 [I 0, I 0, .r (.v (.slice none 0 0))]), (7, .obj b3 [I b, I t, .r (.v (.slice none 0 0))]), (25, .r (.v (.slice none 0 0))), (26, .pt 3 b1 2), (28, I b), (30, I l.start)]⟩ K := by
     refine RA.of hall (RA.step (L := [3, 7]) (by kernel_rfl) (by simp) (RA.each ?_ (RA.each ?_ (RA.each0))))
     ·skip
      refine RO.v rfl rfl (V.loadPrim (d := .r (sl 3 Entry.c l.entries)) rfl rfl (.inr ⟨_, rfl⟩) rfl rfl rfl) rfl ?_
      exact RA.to hall (RA.lr ro11_111111100000 rfl rfl)
     ·skip
      refine RO.v rfl rfl (V.arInt rfl rfl rfl rfl) rfl ?_
      exact RA.to hall (RA.lr ro11_111011110000 rfl rfl)
    have ro11_111101100000 : RA E B all 6 #[true, true, true, true, false, true, true, false, false, false, false, false] ⟨36, [(1, I b), (6, .obj b2 [I 0, I 0, .r (.v (.slice none 0 0))]), (7, .obj b3 [I b, I t, .r (.v (.slice none 0 0))]), (25, .r (.v (.slice none 0 0))), (27, .r (sl 3 Entry.c l.entries)), (30, I l.start)]⟩ K := by
     refine RA.of hall (RA.step (L := [4]) (by kernel_rfl) (by simp) (RA.each ?_ (RA.each0)))
     ·skip
      refine RO.v rfl rfl (V.mv (d := I b) rfl rfl) rfl ?_
      exact RA.to hall (RA.lr ro11_111111100000 rfl rfl)
    have ro11_111111000000 : RA E B all 6 #[true, true, true, true, true, true, false, false, false, false, false, false] ⟨36, [(3, .obj b1 ((Log.c l).map .r)), (6, .obj b2 [I 0, I 0, .r (.v (.slice none 0 0))]), (7, .obj b3 [I b, I t, .r (.v (.slice none 0 0))]), (25, .r (.v (.slice none 0 0))), (27, .r (sl 3 Entry.c l.entries)), (28, I b), (29, .pt 3 b1 0)]⟩ K := by
     refine RA.of hall (RA.step (L := [6]) (by kernel_rfl) (by simp) (RA.each ?_ (RA.each0)))
     ·skip
      refine RO.v rfl rfl (V.loadPrim (d := I l.start) rfl rfl (.inl rfl) rfl rfl rfl) rfl ?_
      exact RA.to hall (RA.lr ro11_111111100000 rfl rfl)
    have ro11_001011110000 : RA E B all 7 #[false, false, true, false, true, true, true, true, false, false, false, false] ⟨36, [(3, .obj b1 ((Log.c l).map .r)), (6, .obj b2 [I 0, I 0, .r (.v (.slice none 0 0))]), (7, .obj b3 [I b, I t, .r (.v (.slice none 0 0))]), (26, .pt 3 b1 2), (31, I (IntKind.i64.wrap (b - l.start)))]⟩ K := by
     refine RA.of hall (RA.step (L := [0, 3]) (by kernel_rfl) (by simp) (RA.each ?_ (RA.each ?_ (RA.each0))))
     ·skip
      refine RO.v rfl rfl (V.field rfl rfl rfl rfl (by decide) rfl) rfl ?_
      exact RA.to hall (RA.lr ro11_101011110000 rfl rfl)
     ·skip
      refine RO.v rfl rfl (V.loadPrim (d := .r (sl 3 Entry.c l.entries)) rfl rfl (.inr ⟨_, rfl⟩) rfl rfl rfl) rfl ?_
      exact RA.to hall (RA.lr ro11_001111110000 rfl rfl)
    have ro11_001111100000 : RA E B all 7 #[false, false, true, true, true, true, true, false, false, false, false, false] ⟨36, [(6, .obj b2 [I 0, I 0, .r (.v (.slice none 0 0))]), (7, .obj b3 [I b, I t, .r (.v (.slice none 0 0))]), (27, .r (sl 3 Entry.c l.entries)), (28, I b), (30, I l.start)]⟩ K := by
     refine RA.of hall (RA.step (L := [0, 7]) (by kernel_rfl) (by simp) (RA.each ?_ (RA.each ?_ (RA.each0))))
     ·skip
      refine RO.v rfl rfl (V.field rfl rfl rfl rfl (by decide) rfl) rfl ?_
      exact RA.to hall (RA.lr ro11_101111100000 rfl rfl)
     ·skip
      refine RO.v rfl rfl (V.arInt rfl rfl rfl rfl) rfl ?_
      exact RA.to hall (RA.lr ro11_001111110000 rfl rfl)
    have ro11_100011110000 : RA E B all 7 #[true, false, false, false, true, true, true, true, false, false, false, false] ⟨36, [(3, .obj b1 ((Log.c l).map .r)), (6, .obj b2 [I 0, I 0, .r (.v (.slice none 0 0))]), (7, .obj b3 [I b, I t, .r (.v (.slice none 0 0))]), (24, .pt 7 b3 2), (31, I (IntKind.i64.wrap (b - l.start)))]⟩ K := by
     refine RA.of hall (RA.step (L := [1, 2]) (by kernel_rfl) (by simp) (RA.each ?_ (RA.each ?_ (RA.each0))))
     ·skip
      refine RO.v rfl rfl (V.loadPrim (d := .r (.v (.slice none 0 0))) rfl rfl (.inr ⟨_, rfl⟩) rfl rfl rfl) rfl ?_
      exact RA.to hall (RA.lr ro11_110011110000 rfl rfl)
     ·skip
      refine RO.v rfl rfl (V.field rfl rfl rfl rfl (by decide) rfl) rfl ?_
      exact RA.to hall (RA.lr ro11_101011110000 rfl rfl)
    have ro11_101011100000 : RA E B all 7 #[true, false, true, false, true, true, true, false, false, false, false, false] ⟨36, [(3, .obj b1 ((Log.c l).map .r)), (6, .obj b2 [I 0, I 0, .r (.v (.slice none 0 0))]), (7, .obj b3 [I b, I t, .r (.v (.slice none 0 0))]), (24, .pt 7 b3 2), (26, .pt 3 b1 2), (28, I b), (30, I l.start)]⟩ K := by
     refine RA.of hall (RA.step (L := [1, 3, 7]) (by kernel_rfl) (by simp) (RA.each ?_ (RA.each ?_ (RA.each ?_ (RA.each0)))))
     ·skip
      refine RO.v rfl rfl (V.loadPrim (d := .r (.v (.slice none 0 0))) rfl rfl (.inr ⟨_, rfl⟩) rfl rfl rfl) rfl ?_
      exact RA.to hall (RA.lr ro11_111011100000 rfl rfl)
     ·skip
      refine RO.v rfl rfl (V.loadPrim (d := .r (sl 3 Entry.c l.entries)) rfl rfl (.inr ⟨_, rfl⟩) rfl rfl rfl) rfl ?_
      exact RA.to hall (RA.lr ro11_101111100000 rfl rfl)
     ·skip
      refine RO.v rfl rfl (V.arInt rfl rfl rfl rfl) rfl ?_
      exact RA.to hall (RA.lr ro11_101011110000 rfl rfl)
    have ro11_101101100000 : RA E B all 7 #[true, false, true, true, false, true, true, false, false, false, false, false] ⟨36, [(1, I b), (6, .obj b2 [I 0, I 0, .r (.v (.slice none 0 0))]), (7, .obj b3 [I b, I t, .r (.v (.slice none 0 0))]), (24, .pt 7 b3 2), (27, .r (sl 3 Entry.c l.entries)), (30, I l.start)]⟩ K := by
     refine RA.of hall (RA.step (L := [1, 4]) (by kernel_rfl) (by simp) (RA.each ?_ (RA.each ?_ (RA.each0))))
     ·skip
      refine RO.v rfl rfl (V.loadPrim (d := .r (.v (.slice none 0 0))) rfl rfl (.inr ⟨_, rfl⟩) rfl rfl rfl) rfl ?_
      exact RA.to hall (RA.lr ro11_111101100000 rfl rfl)
     ·skip
      refine RO.v rfl rfl (V.mv (d := I b) rfl rfl) rfl ?_
      exact RA.to hall (RA.lr ro11_101111100000 rfl rfl)
    have ro11_101111000000 : RA E B all 7 #[true, false, true, true, true, true, false, false, false, false, false, false] ⟨36, [(3, .obj b1 ((Log.c l).map .r)), (6, .obj b2 [I 0, I 0, .r (.v (.slice none 0 0))]), (7, .obj b3 [I b, I t, .r (.v (.slice none 0 0))]), (24, .pt 7 b3 2), (27, .r (sl 3 Entry.c l.entries)), (28, I b), (29, .pt 3 b1 0)]⟩ K := by
     refine RA.of hall (RA.step (L := [1, 6]) (by kernel_rfl) (by simp) (RA.each ?_ (RA.each ?_ (RA.each0))))
     ·skip
      refine RO.v rfl rfl (V.loadPrim (d := .r (.v (.slice none 0 0))) rfl rfl (.inr ⟨_, rfl⟩) rfl rfl rfl) rfl ?_
      exact RA.to hall (RA.lr ro11_111111000000 rfl rfl)
     ·skip
      refine RO.v rfl rfl (V.loadPrim (d := I l.start) rfl rfl (.inl rfl) rfl rfl rfl) rfl ?_
      exact RA.to hall (RA.lr ro11_101111100000 rfl rfl)
    have ro11_110011100000 : RA E B all 7 #[true, true, false, false, true, true, true, false, false, false, false, false] ⟨36, [(3, .obj b1 ((Log.c l).map .r)), (6, .obj b2 [I 0, I 0, .r (.v (.slice none 0 0))]), (7, .obj b3 [I b, I t, .r (.v (.slice none 0 0))]), (25, .r (.v (.slice none 0 0))), (28, I b), (30, I l.start)]⟩ K := by
     refine RA.of hall (RA.step (L := [2, 7]) (by kernel_rfl) (by simp) (RA.each ?_ (RA.each ?_ (RA.each0))))
     ·skip
      refine RO.v rfl rfl (V.field rfl rfl rfl rfl (by decide) rfl) rfl ?_
      exact RA.to hall (RA.lr ro11_111011100000 rfl rfl)
     ·skip
      refine RO.v rfl rfl (V.arInt rfl rfl rfl rfl) rfl ?_
      exact RA.to hall (RA.lr ro11_110011110000 rfl rfl)
    have ro11_111001100000 : RA E B all 7 #[true, true, true, false, false, true, true, false, false, false, false, false] ⟨36, [(1, I b), (3, .obj b1 ((Log.c l).map .r)), (6, .obj b2 [I 0, I 0, .r (.v (.slice none 0 0))]), (7, .obj b3 [I b, I t, .r (.v (.slice none 0 0))]), (25, .r (.v (.slice none 0 0))), (26, .pt 3 b1 2), (30, I l.start)]⟩ K := by
     refine RA.of hall (RA.step (L := [3, 4]) (by kernel_rfl) (by simp) (RA.each ?_ (RA.each ?_ (RA.each0))))
     ·skip
      refine RO.v rfl rfl (V.loadPrim (d := .r (sl 3 Entry.c l.entries)) rfl rfl (.inr ⟨_, rfl⟩) rfl rfl rfl) rfl ?_
      exact RA.to hall (RA.lr ro11_111101100000 rfl rfl)
     ·skip
      refine RO.v rfl rfl (V.mv (d := I b) rfl rfl) rfl ?_
      exact RA.to hall (RA.lr ro11_111011100000 rfl rfl)
    have ro11_111011000000 : RA E B all 7 #[true, true, true, false, true, true, false, false, false, false, false, false] ⟨36, [(3, .obj b1 ((Log.c l).map .r)), (6, .obj b2 [I 0, I 0, .r (.v (.slice none 0 0))]), (7, .obj b3 [I b, I t, .r (.v (.slice none 0 0))]), (25, .r (.v (.slice none 0 0))), (26, .pt 3 b1 2), (28, I b), (29, .pt 3 b1 0)]⟩ K := by
     refine RA.of hall (RA.step (L := [3, 6]) (by kernel_rfl) (by simp) (RA.each ?_ (RA.each ?_ (RA.each0))))
     ·skip
      refine RO.v rfl rfl (V.loadPrim (d := .r (sl 3 Entry.c l.entries)) rfl rfl (.inr ⟨_, rfl⟩) rfl rfl rfl) rfl ?_
      exact RA.to hall (RA.lr ro11_111111000000 rfl rfl)
     ·skip
      refine RO.v rfl rfl (V.loadPrim (d := I l.start) rfl rfl (.inl rfl) rfl rfl rfl) rfl ?_
      exact RA.to hall (RA.lr ro11_111011100000 rfl rfl)
    have ro11_111101000000 : RA E B all 7 #[true, true, true, true, false, true, false, false, false, false, false, false] ⟨36, [(1, I b), (3, .obj b1 ((Log.c l).map .r)), (6, .obj b2 [I 0, I 0, .r (.v (.slice none 0 0))]), (7, .obj b3 [I b, I t, .r (.v (.slice none 0 0))]), (25, .r (.v (.slice none 0 0))), (27, .r (sl 3 Entry.c l.entries)), (29, .pt 3 b1 0)]⟩ K := by
     refine RA.of hall (RA.step (L := [4, 6]) (by kernel_rfl) (by simp) (RA.each ?_ (RA.each ?_ (RA.each0))))
     ·skip
      refine RO.v rfl rfl (V.mv (d := I b) rfl rfl) rfl ?_
      exact RA.to hall (RA.lr ro11_111111000000 rfl rfl)
     ·skip
      refine RO.v rfl rfl (V.loadPrim (d := I l.start) rfl rfl (.inl rfl) rfl rfl rfl) rfl ?_
      exact RA.to hall (RA.lr ro11_111101100000 rfl rfl)
    have ro11_111110000000 : RA E B all 7 #[true, true, true, true, true, false, false, false, false, false, false, false] ⟨36, [(3, .obj b1 ((Log.c l).map .r)), (6, .obj b2 [I 0, I 0, .r (.v (.slice none 0 0))]), (7, .obj b3 [I b, I t, .r (.v (.slice none 0 0))]), (25, .r (.v (.slice none 0 0))), (27, .r (sl 3 Entry.c l.entries)), (28, I b)]⟩ K := by
     refine RA.of hall (RA.step (L := [5]) (by kernel_rfl) (by simp) (RA.each ?_ (RA.each0)))
     ·skip
      refine RO.v rfl rfl (V.field rfl rfl rfl rfl (by decide) rfl) rfl ?_
      exact RA.to hall (RA.lr ro11_111111000000 rfl rfl)
    have ro11_000011110000 : RA E B all 8 #[false, false, false, false, true, true, true, true, false, false, false, false] ⟨36, [(3, .obj b1 ((Log.c l).map .r)), (6, .obj b2 [I 0, I 0, .r (.v (.slice none 0 0))]), (7, .obj b3 [I b, I t, .r (.v (.slice none 0 0))]), (31, I (IntKind.i64.wrap (b - l.start)))]⟩ K := by
     refine RA.of hall (RA.step (L := [0, 2]) (by kernel_rfl) (by simp) (RA.each ?_ (RA.each ?_ (RA.each0))))
     ·skip
      refine RO.v rfl rfl (V.field rfl rfl rfl rfl (by decide) rfl) rfl ?_
      exact RA.to hall (RA.lr ro11_100011110000 rfl rfl)
     ·skip
      refine RO.v rfl rfl (V.field rfl rfl rfl rfl (by decide) rfl) rfl ?_
      exact RA.to hall (RA.lr ro11_001011110000 rfl rfl)
    have ro11_001011100000 : RA E B all 8 #[false, false, true, false, true, true, true, false, false, false, false, false] ⟨36, [(3, .obj b1 ((Log.c l).map .r)), (6, .obj b2 [I 0, I 0, .r (.v (.slice none 0 0))]), (7, .obj b3 [I b, I t, .r (.v (.slice none 0 0))]), (26, .pt 3 b1 2), (28, I b), (30, I l.start)]⟩ K := by
     refine RA.of hall (RA.step (L := [0, 3, 7]) (by kernel_rfl) (by simp) (RA.each ?_ (RA.each ?_ (RA.each ?_ (RA.each0)))))
     ·skip
      refine RO.v rfl rfl (V.field rfl rfl rfl rfl (by decide) rfl) rfl ?_
      exact RA.to hall (RA.lr ro11_101011100000 rfl rfl)
     ·skip
      refine RO.v rfl rfl (V.loadPrim (d := .r (sl 3 Entry.c l.entries)) rfl rfl (.inr ⟨_, rfl⟩) rfl rfl rfl) rfl ?_
      exact RA.to hall (RA.lr ro11_001111100000 rfl rfl)
     ·skip
      refine RO.v rfl rfl (V.arInt rfl rfl rfl rfl) rfl ?_
      exact RA.to hall (RA.lr ro11_001011110000 rfl rfl)
    have ro11_001101100000 : RA E B all 8 #[false, false, true, true, false, true, true, false, false, false, false, false] ⟨36, [(1, I b), (6, .obj b2 [I 0, I 0, .r (.v (.slice none 0 0))]), (7, .obj b3 [I b, I t, .r (.v (.slice none 0 0))]), (27, .r (sl 3 Entry.c l.entries)), (30, I l.start)]⟩ K := by
     refine RA.of hall (RA.step (L := [0, 4]) (by kernel_rfl) (by simp) (RA.each ?_ (RA.each ?_ (RA.each0))))
     ·skip
      refine RO.v rfl rfl (V.field rfl rfl rfl rfl (by decide) rfl) rfl ?_
      exact RA.to hall (RA.lr ro11_101101100000 rfl rfl)
     ·skip
      refine RO.v rfl rfl (V.mv (d := I b) rfl rfl) rfl ?_
      exact RA.to hall (RA.lr ro11_001111100000 rfl rfl)
    have ro11_001111000000 : RA E B all 8 #[false, false, true, true, true, true, false, false, false, false, false, false] ⟨36, [(3, .obj b1 ((Log.c l).map .r)), (6, .obj b2 [I 0, I 0, .r (.v (.slice none 0 0))]), (7, .obj b3 [I b, I t, .r (.v (.slice none 0 0))]), (27, .r (sl 3 Entry.c l.entries)), (28, I b), (29, .pt 3 b1 0)]⟩ K := by
     refine RA.of hall (RA.step (L := [0, 6]) (by kernel_rfl) (by simp) (RA.each ?_ (RA.each ?_ (RA.each0))))
     ·skip
      refine RO.v rfl rfl (V.field rfl rfl rfl rfl (by decide) rfl) rfl ?_
      exact RA.to hall (RA.lr ro11_101111000000 rfl rfl)
     ·skip
      refine RO.v rfl rfl (V.loadPrim (d := I l.start) rfl rfl (.inl rfl) rfl rfl rfl) rfl ?_
      exact RA.to hall (RA.lr ro11_001111100000 rfl rfl)
    have ro11_100011100000 : RA E B all 8 #[true, false, false, false, true, true, true, false, false, false, false, false] ⟨36, [(3, .obj b1 ((Log.c l).map .r)), (6, .obj b2 [I 0, I 0, .r (.v (.slice none 0 0))]), (7, .obj b3 [I b, I t, .r (.v (.slice none 0 0))]), (24, .pt 7 b3 2), (28, I b), (30, I l.start)]⟩ K := by
     refine RA.of hall (RA.step (L := [1, 2, 7]) (by kernel_rfl) (by simp) (RA.each ?_ (RA.each ?_ (RA.each ?_ (RA.each0)))))
     ·skip
      refine RO.v rfl rfl (V.loadPrim (d := .r (.v (.slice none 0 0))) rfl rfl (.inr ⟨_, rfl⟩) rfl rfl rfl) rfl ?_
      exact RA.to hall (RA.lr ro11_110011100000 rfl rfl)
     ·skip
      refine RO.v rfl rfl (V.field rfl rfl rfl rfl (by decide) rfl) rfl ?_
      exact RA.to hall (RA.lr ro11_101011100000 rfl rfl)
     ·skip
      refine RO.v rfl rfl (V.arInt rfl rfl rfl rfl) rfl ?_
      exact RA.to hall (RA.lr ro11_100011110000 rfl rfl)
    have ro11_101001100000 : RA E B all 8 #[true, false, true, false, false, true, true, false, false, false, false, false] ⟨36, [(1, I b), (3, .obj b1 ((Log.c l).map .r)), (6, .obj b2 [I 0, I 0, .r (.v (.slice none 0 0))]), (7, .obj b3 [I b, I t, .r (.v (.slice none 0 0))]), (24, .pt 7 b3 2), (26, .pt 3 b1 2), (30, I l.start)]⟩ K := by
     refine RA.of hall (RA.step (L := [1, 3, 4]) (by kernel_rfl) (by simp) (RA.each ?_ (RA.each ?_ (RA.each ?_ (RA.each0)))))
     ·skip
      refine RO.v rfl rfl (V.loadPrim (d := .r (.v (.slice none 0 0))) rfl rfl (.inr ⟨_, rfl⟩) rfl rfl rfl) rfl ?_
      exact RA.to hall (RA.lr ro11_111001100000 rfl rfl)
     ·skip
      refine RO.v rfl rfl (V.loadPrim (d := .r (sl 3 Entry.c l.entries)) rfl rfl (.inr ⟨_, rfl⟩) rfl rfl rfl) rfl ?_
      exact RA.to hall (RA.lr ro11_101101100000 rfl rfl)
     ·skip
      refine RO.v rfl rfl (V.mv (d := I b) rfl rfl) rfl ?_
      exact RA.to hall (RA.lr ro11_101011100000 rfl rfl)
    have ro11_101011000000 : RA E B all 8 #[true, false, true, false, true, true, false, false, false, false, false, false] ⟨36, [(3, .obj b1 ((Log.c l).map .r)), (6, .obj b2 [I 0, I 0, .r (.v (.slice none 0 0))]), (7, .obj b3 [I b, I t, .r (.v (.slice none 0 0))]), (24, .pt 7 b3 2), (26, .pt 3 b1 2), (28, I b), (29, .pt 3 b1 0)]⟩ K := by
     refine RA.of hall (RA.step (L := [1, 3, 6]) (by kernel_rfl) (by simp) (RA.each ?_ (RA.each ?_ (RA.each ?_ (RA.each0)))))
     ·skip
      refine RO.v rfl rfl (V.loadPrim (d := .r (.v (.slice none 0 0))) rfl rfl (.inr ⟨_, rfl⟩) rfl rfl rfl) rfl ?_
      exact RA.to hall (RA.lr ro11_111011000000 rfl rfl)
     ·skip
      refine RO.v rfl rfl (V.loadPrim (d := .r (sl 3 Entry.c l.entries)) rfl rfl (.inr ⟨_, rfl⟩) rfl rfl rfl) rfl ?_
      exact RA.to hall (RA.lr ro11_101111000000 rfl rfl)
     ·skip
      refine RO.v rfl rfl (V.loadPrim (d := I l.start) rfl rfl (.inl rfl) rfl rfl rfl) rfl ?_
      exact RA.to hall (RA.lr ro11_101011100000 rfl rfl)
    have ro11_101101000000 : RA E B all 8 #[true, false, true, true, false, true, false, false, false, false, false, false] ⟨36, [(1, I b), (3, .obj b1 ((Log.c l).map .r)), (6, .obj b2 [I 0, I 0, .r (.v (.slice none 0 0))]), (7, .obj b3 [I b, I t, .r (.v (.slice none 0 0))]), (24, .pt 7 b3 2), (27, .r (sl 3 Entry.c l.entries)), (29, .pt 3 b1 0)]⟩ K := by
     refine RA.of hall (RA.step (L := [1, 4, 6]) (by kernel_rfl) (by simp) (RA.each ?_ (RA.each ?_ (RA.each ?_ (RA.each0)))))
     ·skip
      refine RO.v rfl rfl (V.loadPrim (d := .r (.v (.slice none 0 0))) rfl rfl (.inr ⟨_, rfl⟩) rfl rfl rfl) rfl ?_
      exact RA.to hall (RA.lr ro11_111101000000 rfl rfl)
     ·skip
      refine RO.v rfl rfl (V.mv (d := I b) rfl rfl) rfl ?_
      exact RA.to hall (RA.lr ro11_101111000000 rfl rfl)
     ·skip
      refine RO.v rfl rfl (V.loadPrim (d := I l.start) rfl rfl (.inl rfl) rfl rfl rfl) rfl ?_
      exact RA.to hall (RA.lr ro11_101101100000 rfl rfl)
    have ro11_101110000000 : RA E B all 8 #[true, false, true, true, true, false, false, false, false, false, false, false] ⟨36, [(3, .obj b1 ((Log.c l).map .r)), (6, .obj b2 [I 0, I 0, .r (.v (.slice none 0 0))]), (7, .obj b3 [I b, I t, .r (.v (.slice none 0 0))]), (24, .pt 7 b3 2), (27, .r (sl 3 Entry.c l.entries)), (28, I b)]⟩ K := by
     refine RA.of hall (RA.step (L := [1, 5]) (by kernel_rfl) (by simp) (RA.each ?_ (RA.each ?_ (RA.each0))))
     ·skip
      refine RO.v rfl rfl (V.loadPrim (d := .r (.v (.slice none 0 0))) rfl rfl (.inr ⟨_, rfl⟩) rfl rfl rfl) rfl ?_
      exact RA.to hall (RA.lr ro11_111110000000 rfl rfl)
     ·skip
      refine RO.v rfl rfl (V.field rfl rfl rfl rfl (by decide) rfl) rfl ?_
      exact RA.to hall (RA.lr ro11_101111000000 rfl rfl)
    have ro11_110001100000 : RA E B all 8 #[true, true, false, false, false, true, true, false, false, false, false, false] ⟨36, [(1, I b), (3, .obj b1 ((Log.c l).map .r)), (6, .obj b2 [I 0, I 0, .r (.v (.slice none 0 0))]), (7, .obj b3 [I b, I t, .r (.v (.slice none 0 0))]), (25, .r (.v (.slice none 0 0))), (30, I l.start)]⟩ K := by
     refine RA.of hall (RA.step (L := [2, 4]) (by kernel_rfl) (by simp) (RA.each ?_ (RA.each ?_ (RA.each0))))
     ·skip
      refine RO.v rfl rfl (V.field rfl rfl rfl rfl (by decide) rfl) rfl ?_
      exact RA.to hall (RA.lr ro11_111001100000 rfl rfl)
     ·skip
      refine RO.v rfl rfl (V.mv (d := I b) rfl rfl) rfl ?_
      exact RA.to hall (RA.lr ro11_110011100000 rfl rfl)
    have ro11_110011000000 : RA E B all 8 #[true, true, false, false, true, true, false, false, false, false, false, false] ⟨36, [(3, .obj b1 ((Log.c l).map .r)), (6, .obj b2 [I 0, I 0, .r (.v (.slice none 0 0))]), (7, .obj b3 [I b, I t, .r (.v (.slice none 0 0))]), (25, .r (.v (.slice none 0 0))), (28, I b), (29, .pt 3 b1 0)]⟩ K := by
     refine RA.of hall (RA.step (L := [2, 6]) (by kernel_rfl) (by simp) (RA.each ?_ (RA.each ?_ (RA.each0))))
     ·skip
      refine RO.v rfl rfl (V.field rfl rfl rfl rfl (by decide) rfl) rfl ?_
      exact RA.to hall (RA.lr ro11_111011000000 rfl rfl)
     ·skip
      refine RO.v rfl rfl (V.loadPrim (d := I l.start) rfl rfl (.inl rfl) rfl rfl rfl) rfl ?_
      exact RA.to hall (RA.lr ro11_110011100000 rfl rfl)
    have ro11_111001000000 : RA E B all 8 #[true, true, true, false, false, true, false, false, false, false, false, false] ⟨36, [(1, I b), (3, .obj b1 ((Log.c l).map .r)), (6, .obj b2 [I 0, I 0, .r (.v (.slice none 0 0))]), (7, .obj b3 [I b, I t, .r (.v (.slice none 0 0))]), (25, .r (.v (.slice none 0 0))), (26, .pt 3 b1 2), (29, .pt 3 b1 0)]⟩ K := by
     refine RA.of hall (RA.step (L := [3, 4, 6]) (by kernel_rfl) (by simp) (RA.each ?_ (RA.each ?_ (RA.each ?_ (RA.each0)))))
     ·skip
      refine RO.v rfl rfl (V.loadPrim (d := .r (sl 3 Entry.c l.entries)) rfl rfl (.inr ⟨_, rfl⟩) rfl rfl rfl) rfl ?_
      exact RA.to hall (RA.lr ro11_111101000000 rfl rfl)
     ·skip
      refine RO.v rfl rfl (V.mv (d := I b) rfl rfl) rfl ?_
      exact RA.to hall (RA.lr ro11_111011000000 rfl rfl)
     ·skip
      refine RO.v rfl rfl (V.loadPrim (d := I l.start) rfl rfl (.inl rfl) rfl rfl rfl) rfl ?_
      exact RA.to hall (RA.lr ro11_111001100000 rfl rfl)
    have ro11_111010000000 : RA E B all 8 #[true, true, true, false, true, false, false, false, false, false, false, false] ⟨36, [(3, .obj b1 ((Log.c l).map .r)), (6, .obj b2 [I 0, I 0, .r (.v (.slice none 0 0))]), (7, .obj b3 [I b, I t, .r (.v (.slice none 0 0))]), (25, .r (.v (.slice none 0 0))), (26, .pt 3 b1 2), (28, I b)]⟩ K := by
     refine RA.of hall (RA.step (L := [3, 5]) (by kernel_rfl) (by simp) (RA.each ?_ (RA.each ?_ (RA.each0))))
     ·skip
      refine RO.v rfl rfl (V.loadPrim (d := .r (sl 3 Entry.c l.entries)) rfl rfl (.inr ⟨_, rfl⟩) rfl rfl rfl) rfl ?_
      exact RA.to hall (RA.lr ro11_111110000000 rfl rfl)
     ·skip
      refine RO.v rfl rfl (V.field rfl rfl rfl rfl (by decide) rfl) rfl ?_
      exact RA.to hall (RA.lr ro11_111011000000 rfl rfl)
    have ro11_111100000000 : RA E B all 8 #[true, true, true, true, false, false, false, false, false, false, false, false] ⟨36, [(1, I b), (3, .obj b1 ((Log.c l).map .r)), (6, .obj b2 [I 0, I 0, .r (.v (.slice none 0 0))]), (7, .obj b3 [I b, I t, .r (.v (.slice none 0 0))]), (25, .r (.v (.slice none 0 0))), (27, .r (sl 3 Entry.c l.entries))]⟩ K := by
     refine RA.of hall (RA.step (L := [4, 5]) (by kernel_rfl) (by simp) (RA.each ?_ (RA.each ?_ (RA.each0))))
     ·skip
      refine RO.v rfl rfl (V.mv (d := I b) rfl rfl) rfl ?_
      exact RA.to hall (RA.lr ro11_111110000000 rfl rfl)
     ·skip
      refine RO.v rfl rfl (V.field rfl rfl rfl rfl (by decide) rfl) rfl ?_
      exact RA.to hall (RA.lr ro11_111101000000 rfl rfl)
    have ro11_000011100000 : RA E B all 9 #[false, false, false, false, true, true, true, false, false, false, false, false] ⟨36, [(3, .obj b1 ((Log.c l).map .r)), (6, .obj b2 [I 0, I 0, .r (.v (.slice none 0 0))]), (7, .obj b3 [I b, I t, .r (.v (.slice none 0 0))]), (28, I b), (30, I l.start)]⟩ K := by
     refine RA.of hall (RA.step (L := [0, 2, 7]) (by kernel_rfl) (by simp) (RA.each ?_ (RA.each ?_ (RA.each ?_ (RA.each0)))))
     ·skip
      refine RO.v rfl rfl (V.field rfl rfl rfl rfl (by decide) rfl) rfl ?_
      exact RA.to hall (RA.lr ro11_100011100000 rfl rfl)
     ·skip
      refine RO.v rfl rfl (V.field rfl rfl rfl rfl (by decide) rfl) rfl ?_
      exact RA.to hall (RA.lr ro11_001011100000 rfl rfl)
     ·skip
      refine RO.v rfl rfl (V.arInt rfl rfl rfl rfl) rfl ?_
      exact RA.to hall (RA.lr ro11_000011110000 rfl rfl)
    have ro11_001001100000 : RA E B all 9 #[false, false, true, false, false, true, true, false, false, false, false, false] ⟨36, [(1, I b), (3, .obj b1 ((Log.c l).map .r)), (6, .obj b2 [I 0, I 0, .r (.v (.slice none 0 0))]), (7, .obj b3 [I b, I t, .r (.v (.slice none 0 0))]), (26, .pt 3 b1 2), (30, I l.start)]⟩ K := by
     refine RA.of hall (RA.step (L := [0, 3, 4]) (by kernel_rfl) (by simp) (RA.each ?_ (RA.each ?_ (RA.each ?_ (RA.each0)))))
     ·skip
      refine RO.v rfl rfl (V.field rfl rfl rfl rfl (by decide) rfl) rfl ?_
      exact RA.to hall (RA.lr ro11_101001100000 rfl rfl)
     ·skip
      refine RO.v rfl rfl (V.loadPrim (d := .r (sl 3 Entry.c l.entries)) rfl rfl (.inr ⟨_, rfl⟩) rfl rfl rfl) rfl ?_
      exact RA.to hall (RA.lr ro11_001101100000 rfl rfl)
     ·skip
      refine RO.v rfl rfl (V.mv (d := I b) rfl rfl) rfl ?_
      exact RA.to hall (RA.lr ro11_001011100000 rfl rfl)
    have ro11_001011000000 : RA E B all 9 #[false, false, true, false, true, true, false, false, false, false, false, false] ⟨36, [(3, .obj b1 ((Log.c l).map .r)), (6, .obj b2 [I 0, I 0, .r (.v (.slice none 0 0))]), (7, .obj b3 [I b, I t, .r (.v (.slice none 0 0))]), (26, .pt 3 b1 2), (28, I b), (29, .pt 3 b1 0)]⟩ K := by
     refine RA.of hall (RA.step (L := [0, 3, 6]) (by kernel_rfl) (by simp) (RA.each ?_ (RA.each ?_ (RA.each ?_ (RA.each0)))))
     ·skip
      refine RO.v rfl rfl (V.field rfl rfl rfl rfl (by decide) rfl) rfl ?_
      exact RA.to hall (RA.lr ro11_101011000000 rfl rfl)
     ·skip
      refine RO.v rfl rfl (V.loadPrim (d := .r (sl 3 Entry.c l.entries)) rfl rfl (.inr ⟨_, rfl⟩) rfl rfl rfl) rfl ?_
      exact RA.to hall (RA.lr ro11_001111000000 rfl rfl)
     ·skip
      refine RO.v rfl rfl (V.loadPrim (d := I l.start) rfl rfl (.inl rfl) rfl rfl rfl) rfl ?_
      exact RA.to hall (RA.lr ro11_001011100000 rfl rfl)
    have ro11_001101000000 : RA E B all 9 #[false, false, true, true, false, true, false, false, false, false, false, false] ⟨36, [(1, I b), (3, .obj b1 ((Log.c l).map .r)), (6, .obj b2 [I 0, I 0, .r (.v (.slice none 0 0))]), (7, .obj b3 [I b, I t, .r (.v (.slice none 0 0))]), (27, .r (sl 3 Entry.c l.entries)), (29, .pt 3 b1 0)]⟩ K := by
     refine RA.of hall (RA.step (L := [0, 4, 6]) (by kernel_rfl) (by simp) (RA.each ?_ (RA.each ?_ (RA.each ?_ (RA.each0)))))
     ·skip
      refine RO.v rfl rfl (V.field rfl rfl rfl rfl (by decide) rfl) rfl ?_
      exact RA.to hall (RA.lr ro11_101101000000 rfl rfl)
     ·skip
      refine RO.v rfl rfl (V.mv (d := I b) rfl rfl) rfl ?_
      exact RA.to hall (RA.lr ro11_001111000000 rfl rfl)
     ·skip
      refine RO.v rfl rfl (V.loadPrim (d := I l.start) rfl rfl (.inl rfl) rfl rfl rfl) rfl ?_
      exact RA.to hall (RA.lr ro11_001101100000 rfl rfl)
    have ro11_001110000000 : RA E B all 9 #[false, false, true, true, true, false, false, false, false, false, false, false] ⟨36, [(3, .obj b1 ((Log.c l).map .r)), (6, .obj b2 [I 0, I 0, .r (.v (.slice none 0 0))]), (7, .obj b3 [I b, I t, .r (.v (.slice none 0 0))]), (27, .r (sl 3 Entry.c l.entries)), (28, I b)]⟩ K := by
     refine RA.of hall (RA.step (L := [0, 5]) (by kernel_rfl) (by simp) (RA.each ?_ (RA.each ?_ (RA.each0))))
     ·skip
      refine RO.v rfl rfl (V.field rfl rfl rfl rfl (by decide) rfl) rfl ?_
      exact RA.to hall (RA.lr ro11_101110000000 rfl rfl)
     ·skip
      refine RO.v rfl rfl (V.field rfl rfl rfl rfl (by decide) rfl) rfl ?_
      exact RA.to hall (RA.lr ro11_001111000000 rfl rfl)
    have ro11_100001100000 : RA E B all 9 #[true, false, false, false, false, true, true, false, false, false, false, false] ⟨36, [(1, I b), (3, .obj b1 ((Log.c l).map .r)), (6, .obj b2 [I 0, I 0, .r (.v (.slice none 0 0))]), (7, .obj b3 [I b, I t, .r (.v (.slice none 0 0))]), (24, .pt 7 b3 2), (30, I l.start)]⟩ K := by
     refine RA.of hall (RA.step (L := [1, 2, 4]) (by kernel_rfl) (by simp) (RA.each ?_ (RA.each ?_ (RA.each ?_ (RA.each0)))))
     ·skip
      refine RO.v rfl rfl (V.loadPrim (d := .r (.v (.slice none 0 0))) rfl rfl (.inr ⟨_, rfl⟩) rfl rfl rfl) rfl ?_
      exact RA.to hall (RA.lr ro11_110001100000 rfl rfl)
     ·skip
      refine RO.v rfl rfl (V.field rfl rfl rfl rfl (by decide) rfl) rfl ?_
      exact RA.to hall (RA.lr ro11_101001100000 rfl rfl)
     ·skip
      refine RO.v rfl rfl (V.mv (d := I b) rfl rfl) rfl ?_
      exact RA.to hall (RA.lr ro11_100011100000 rfl rfl)
    have ro11_100011000000 : RA E B all 9 #[true, false, false, false, true, true, false, false, false, false, false, false] ⟨36, [(3, .obj b1 ((Log.c l).map .r)), (6, .obj b2 [I 0, I 0, .r (.v (.slice none 0 0))]), (7, .obj b3 [I b, I t, .r (.v (.slice none 0 0))]), (24, .pt 7 b3 2), (28, I b), (29, .pt 3 b1 0)]⟩ K := by
     refine RA.of hall (RA.step (L := [1, 2, 6]) (by kernel_rfl) (by simp) (RA.each ?_ (RA.each ?_ (RA.each ?_ (RA.each0)))))
     ·skip
      refine RO.v rfl rfl (V.loadPrim (d := .r (.v (.slice none 0 0))) rfl rfl (.inr ⟨_, rfl⟩) rfl rfl rfl) rfl ?_
      exact RA.to hall (RA.lr ro11_110011000000 rfl rfl)
     ·skip
      refine RO.v rfl rfl (V.field rfl rfl rfl rfl (by decide) rfl) rfl ?_
      exact RA.to hall (RA.lr ro11_101011000000 rfl rfl)
     ·skip
      refine RO.v rfl rfl (V.loadPrim (d := I l.start) rfl rfl (.inl rfl) rfl rfl rfl) rfl ?_
      exact RA.to hall (RA.lr ro11_100011100000 rfl rfl)
    have ro11_101001000000 : RA E B all 9 #[true, false, true, false, false, true, false, false, false, false, false, false] ⟨36, [(1, I b), (3, .obj b1 ((Log.c l).map .r)), (6, .obj b2 [I 0, I 0, .r (.v (.slice none 0 0))]), (7, .obj b3 [I b, I t, .r (.v (.slice none 0 0))]), (24, .pt 7 b3 2), (26, .pt 3 b1 2), (29, .pt 3 b1 0)]⟩ K := by
     refine RA.of hall (RA.step (L := [1, 3, 4, 6]) (by kernel_rfl) (by simp) (RA.each ?_ (RA.each ?_ (RA.each ?_ (RA.each ?_ (RA.each0))))))
     ·skip
      refine RO.v rfl rfl (V.loadPrim (d := .r (.v (.slice none 0 0))) rfl rfl (.inr ⟨_, rfl⟩) rfl rfl rfl) rfl ?_
      exact RA.to hall (RA.lr ro11_111001000000 rfl rfl)
     ·skip
      refine RO.v rfl rfl (V.loadPrim (d := .r (sl 3 Entry.c l.entries)) rfl rfl (.inr ⟨_, rfl⟩) rfl rfl rfl) rfl ?_
      exact RA.to hall (RA.lr ro11_101101000000 rfl rfl)
     ·skip
      refine RO.v rfl rfl (V.mv (d := I b) rfl rfl) rfl ?_
      exact RA.to hall (RA.lr ro11_101011000000 rfl rfl)
     ·skip
      refine RO.v rfl rfl (V.loadPrim (d := I l.start) rfl rfl (.inl rfl) rfl rfl rfl) rfl ?_
      exact RA.to hall (RA.lr ro11_101001100000 rfl rfl)
    have ro11_101010000000 : RA E B all 9 #[true, false, true, false, true, false, false, false, false, false, false, false] ⟨36, [(3, .obj b1 ((Log.c l).map .r)), (6, .obj b2 [I 0, I 0, .r (.v (.slice none 0 0))]), (7, .obj b3 [I b, I t, .r (.v (.slice none 0 0))]), (24, .pt 7 b3 2), (26, .pt 3 b1 2), (28, I b)]⟩ K := by
     refine RA.of hall (RA.step (L := [1, 3, 5]) (by kernel_rfl) (by simp) (RA.each ?_ (RA.each ?_ (RA.each ?_ (RA.each0)))))
     ·skip
      refine RO.v rfl rfl (V.loadPrim (d := .r (.v (.slice none 0 0))) rfl rfl (.inr ⟨_, rfl⟩) rfl rfl rfl) rfl ?_
      exact RA.to hall (RA.lr ro11_111010000000 rfl rfl)
     ·skip
      refine RO.v rfl rfl (V.loadPrim (d := .r (sl 3 Entry.c l.entries)) rfl rfl (.inr ⟨_, rfl⟩) rfl rfl rfl) rfl ?_
      exact RA.to hall (RA.lr ro11_101110000000 rfl rfl)
     ·skip
      refine RO.v rfl rfl (V.field rfl rfl rfl rfl (by decide) rfl) rfl ?_
      exact RA.to hall (RA.lr ro11_101011000000 rfl rfl)
    have ro11_101100000000 : RA E B all 9 #[true, false, true, true, false, false, false, false, false, false, false, false] ⟨36, [(1, I b), (3, .obj b1 ((Log.c l).map .r)), (6, .obj b2 [I 0, I 0, .r (.v (.slice none 0 0))]), (7, .obj b3 [I b, I t, .r (.v (.slice none 0 0))]), (24, .pt 7 b3 2), (27, .r (sl 3 Entry.c l.entries))]⟩ K := by
     refine RA.of hall (RA.step (L := [1, 4, 5]) (by kernel_rfl) (by simp) (RA.each ?_ (RA.each ?_ (RA.each ?_ (RA.each0)))))
     ·skip
      refine RO.v rfl rfl (V.loadPrim (d := .r (.v (.slice none 0 0))) rfl rfl (.inr ⟨_, rfl⟩) rfl rfl rfl) rfl ?_
      exact RA.to hall (RA.lr ro11_111100000000 rfl rfl)
     ·skip
      refine RO.v rfl rfl (V.mv (d := I b) rfl rfl) rfl ?_
      exact RA.to hall (RA.lr ro11_101110000000 rfl rfl)
     ·skip
      refine RO.v rfl rfl (V.field rfl rfl rfl rfl (by decide) rfl) rfl ?_
      exact RA.to hall (RA.lr ro11_101101000000 rfl rfl)
    have ro11_110001000000 : RA E B all 9 #[true, true, false, false, false, true, false, false, false, false, false, false] ⟨36, [(1, I b), (3, .obj b1 ((Log.c l).map .r)), (6, .obj b2 [I 0, I 0, .r (.v (.slice none 0 0))]), (7, .obj b3 [I b, I t, .r (.v (.slice none 0 0))]), (25, .r (.v (.slice none 0 0))), (29, .pt 3 b1 0)]⟩ K := by
     refine RA.of hall (RA.step (L := [2, 4, 6]) (by kernel_rfl) (by simp) (RA.each ?_ (RA.each ?_ (RA.each ?_ (RA.each0)))))
     ·skip
      refine RO.v rfl rfl (V.field rfl rfl rfl rfl (by decide) rfl) rfl ?_
      exact RA.to hall (RA.lr ro11_111001000000 rfl rfl)
     ·skip
      refine RO.v rfl rfl (V.mv (d := I b) rfl rfl) rfl ?_
      exact RA.to hall (RA.lr ro11_110011000000 rfl rfl)
     ·skip
      refine RO.v rfl rfl (V.loadPrim (d := I l.start) rfl rfl (.inl rfl) rfl rfl rfl) rfl ?_
      exact RA.to hall (RA.lr ro11_110001100000 rfl rfl)
    have ro11_110010000000 : RA E B all 9 #[true, true, false, false, true, false, false, false, false, false, false, false] ⟨36, [(3, .obj b1 ((Log.c l).map .r)), (6, .obj b2 [I 0, I 0, .r (.v (.slice none 0 0))]), (7, .obj b3 [I b, I t, .r (.v (.slice none 0 0))]), (25, .r (.v (.slice none 0 0))), (28, I b)]⟩ K := by
     refine RA.of hall (RA.step (L := [2, 5]) (by kernel_rfl) (by simp) (RA.each ?_ (RA.each ?_ (RA.each0))))
     ·skip
      refine RO.v rfl rfl (V.field rfl rfl rfl rfl (by decide) rfl) rfl ?_
      exact RA.to hall (RA.lr ro11_111010000000 rfl rfl)
     ·skip
      refine RO.v rfl rfl (V.field rfl rfl rfl rfl (by decide) rfl) rfl ?_
      exact RA.to hall (RA.lr ro11_110011000000 rfl rfl)
    have ro11_111000000000 : RA E B all 9 #[true, true, true, false, false, false, false, false, false, false, false, false] ⟨36, [(1, I b), (3, .obj b1 ((Log.c l).map .r)), (6, .obj b2 [I 0, I 0, .r (.v (.slice none 0 0))]), (7, .obj b3 [I b, I t, .r (.v (.slice none 0 0))]), (25, .r (.v (.slice none 0 0))), (26, .pt 3 b1 2)]⟩ K := by
     refine RA.of hall (RA.step (L := [3, 4, 5]) (by kernel_rfl) (by simp) (RA.each ?_ (RA.each ?_ (RA.each ?_ (RA.each0)))))
     ·skip
      refine RO.v rfl rfl (V.loadPrim (d := .r (sl 3 Entry.c l.entries)) rfl rfl (.inr ⟨_, rfl⟩) rfl rfl rfl) rfl ?_
      exact RA.to hall (RA.lr ro11_111100000000 rfl rfl)
     ·skip
      refine RO.v rfl rfl (V.mv (d := I b) rfl rfl) rfl ?_
      exact RA.to hall (RA.lr ro11_111010000000 rfl rfl)
     ·skip
      refine RO.v rfl rfl (V.field rfl rfl rfl rfl (by decide) rfl) rfl ?_
      exact RA.to hall (RA.lr ro11_111001000000 rfl rfl)
    have ro11_000001100000 : RA E B all 10 #[false, false, false, false, false, true, true, false, false, false, false, false] ⟨36, [(1, I b), (3, .obj b1 ((Log.c l).map .r)), (6, .obj b2 [I 0, I 0, .r (.v (.slice none 0 0))]), (7, .obj b3 [I b, I t, .r (.v (.slice none 0 0))]), (30, I l.start)]⟩ K := by
     refine RA.of hall (RA.step (L := [0, 2, 4]) (by kernel_rfl) (by simp) (RA.each ?_ (RA.each ?_ (RA.each ?_ (RA.each0)))))
     ·skip
      refine RO.v rfl rfl (V.field rfl rfl rfl rfl (by decide) rfl) rfl ?_
      exact RA.to hall (RA.lr ro11_100001100000 rfl rfl)
     ·skip
      refine RO.v rfl rfl (V.field rfl rfl rfl rfl (by decide) rfl) rfl ?_
      exact RA.to hall (RA.lr ro11_001001100000 rfl rfl)
     ·skip
      refine RO.v rfl rfl (V.mv (d := I b) rfl rfl) rfl ?_
      exact RA.to hall (RA.lr ro11_000011100000 rfl rfl)
    have ro11_000011000000 : RA E B all 10 #[false, false, false, false, true, true, false, false, false, false, false, false] ⟨36, [(3, .obj b1 ((Log.c l).map .r)), (6, .obj b2 [I 0, I 0, .r (.v (.slice none 0 0))]), (7, .obj b3 [I b, I t, .r (.v (.slice none 0 0))]), (28, I b), (29, .pt 3 b1 0)]⟩ K := by
     refine RA.of hall (RA.step (L := [0, 2, 6]) (by kernel_rfl) (by simp) (RA.each ?_ (RA.each ?_ (RA.each ?_ (RA.each0)))))
     ·skip
      refine RO.v rfl rfl (V.field rfl rfl rfl rfl (by decide) rfl) rfl ?_
      exact RA.to hall (RA.lr ro11_100011000000 rfl rfl)
     ·skip
      refine RO.v rfl rfl (V.field rfl rfl rfl rfl (by decide) rfl) rfl ?_
      exact RA.to hall (RA.lr ro11_001011000000 rfl rfl)
     ·skip
      refine RO.v rfl rfl (V.loadPrim (d := I l.start) rfl rfl (.inl rfl) rfl rfl rfl) rfl ?_
      exact RA.to hall (RA.lr ro11_000011100000 rfl rfl)
    have ro11_001001000000 : RA E B all 10 #[false, false, true, false, false, true, false, false, false, false, false, false] ⟨36, [(1, I b), (3, .obj b1 ((Log.c l).map .r)), (6, .obj b2 [I 0, I 0, .r (.v (.slice none 0 0))]), (7, .obj b3 [I b, I t, .r (.v (.slice none 0 0))]), (26, .pt 3 b1 2), (29, .pt 3 b1 0)]⟩ K := by
     refine RA.of hall (RA.step (L := [0, 3, 4, 6]) (by kernel_rfl) (by simp) (RA.each ?_ (RA.each ?_ (RA.each ?_ (RA.each ?_ (RA.each0))))))
     ·skip
      refine RO.v rfl rfl (V.field rfl rfl rfl rfl (by decide) rfl) rfl ?_
      exact RA.to hall (RA.lr ro11_101001000000 rfl rfl)
     ·skip
      refine RO.v rfl rfl (V.loadPrim (d := .r (sl 3 Entry.c l.entries)) rfl rfl (.inr ⟨_, rfl⟩) rfl rfl rfl) rfl ?_
      exact RA.to hall (RA.lr ro11_001101000000 rfl rfl)
     ·skip
      refine RO.v rfl rfl (V.mv (d := I b) rfl rfl) rfl ?_
      exact RA.to hall (RA.lr ro11_001011000000 rfl rfl)
     ·skip
      refine RO.v rfl rfl (V.loadPrim (d := I l.start) rfl rfl (.inl rfl) rfl rfl rfl) rfl ?_
      exact RA.to hall (RA.lr ro11_001001100000 rfl rfl)
    have ro11_001010000000 : RA E B all 10 #[false, false, true, false, true, false, false, false, false, false, false, false] ⟨36, [(3, .obj b1 ((Log.c l).map .r)), (6, .obj b2 [I 0, I 0, .r (.v (.slice none 0 0))]), (7, .obj b3 [I b, I t, .r (.v (.slice none 0 0))]), (26, .pt 3 b1 2), (28, I b)]⟩ K := by
     refine RA.of hall (RA.step (L := [0, 3, 5]) (by kernel_rfl) (by simp) (RA.each ?_ (RA.each ?_ (RA.each ?_ (RA.each0)))))
     ·skip
      refine RO.v rfl rfl (V.field rfl rfl rfl rfl (by decide) rfl) rfl ?_
      exact RA.to hall (RA.lr ro11_101010000000 rfl rfl)
     ·skip
      refine RO.v rfl rfl (V.loadPrim (d := .r (sl 3 Entry.c l.entries)) rfl rfl (.inr ⟨_, rfl⟩) rfl rfl rfl) rfl ?_
      exact RA.to hall (RA.lr ro11_001110000000 rfl rfl)
     ·skip
      refine RO.v rfl rfl (V.field rfl rfl rfl rfl (by decide) rfl) rfl ?_
      exact RA.to hall (RA.lr ro11_001011000000 rfl rfl)
    have ro11_001100000000 : RA E B all 10 #[false, false, true, true, false, false, false, false, false, false, false, false] ⟨36, [(1, I b), (3, .obj b1 ((Log.c l).map .r)), (6, .obj b2 [I 0, I 0, .r (.v (.slice none 0 0))]), (7, .obj b3 [I b, I t, .r (.v (.slice none 0 0))]), (27, .r (sl 3 Entry.c l.entries))]⟩ K := by
     refine RA.of hall (RA.step (L := [0, 4, 5]) (by kernel_rfl) (by simp) (RA.each ?_ (RA.each ?_ (RA.each ?_ (RA.each0)))))
     ·skip
      refine RO.v rfl rfl (V.field rfl rfl rfl rfl (by decide) rfl) rfl ?_
      exact RA.to hall (RA.lr ro11_101100000000 rfl rfl)
     ·skip
      refine RO.v rfl rfl (V.mv (d := I b) rfl rfl) rfl ?_
      exact RA.to hall (RA.lr ro11_001110000000 rfl rfl)
     ·skip
      refine RO.v rfl rfl (V.field rfl rfl rfl rfl (by decide) rfl) rfl ?_
      exact RA.to hall (RA.lr ro11_001101000000 rfl rfl)
    have ro11_100001000000 : RA E B all 10 #[true, false, false, false, false, true, false, false, false, false, false, false] ⟨36, [(1, I b), (3, .obj b1 ((Log.c l).map .r)), (6, .obj b2 [I 0, I 0, .r (.v (.slice none 0 0))]), (7, .obj b3 [I b, I t, .r (.v (.slice none 0 0))]), (24, .pt 7 b3 2), (29, .pt 3 b1 0)]⟩ K := by
     refine RA.of hall (RA.step (L := [1, 2, 4, 6]) (by kernel_rfl) (by simp) (RA.each ?_ (RA.each ?_ (RA.each ?_ (RA.each ?_ (RA.each0))))))
     ·skip
      refine RO.v rfl rfl (V.loadPrim (d := .r (.v (.slice none 0 0))) rfl rfl (.inr ⟨_, rfl⟩) rfl rfl rfl) rfl ?_
      exact RA.to hall (RA.lr ro11_110001000000 rfl rfl)
     ·skip
      refine RO.v rfl rfl (V.field rfl rfl rfl rfl (by decide) rfl) rfl ?_
      exact RA.to hall (RA.lr ro11_101001000000 rfl rfl)
     ·skip
      refine RO.v rfl rfl (V.mv (d := I b) rfl rfl) rfl ?_
      exact RA.to hall (RA.lr ro11_100011000000 rfl rfl)
     ·skip
      refine RO.v rfl rfl (V.loadPrim (d := I l.start) rfl rfl (.inl rfl) rfl rfl rfl) rfl ?_
      exact RA.to hall (RA.lr ro11_100001100000 rfl rfl)
    have ro11_100010000000 : RA E B all 10 #[true, false, false, false, true, false, false, false, false, false, false, false] ⟨36, [(3, .obj b1 ((Log.c l).map .r)), (6, .obj b2 [I 0, I 0, .r (.v (.slice none 0 0))]), (7, .obj b3 [I b, I t, .r (.v (.slice none 0 0))]), (24, .pt 7 b3 2), (28, I b)]⟩ K := by
     refine RA.of hall (RA.step (L := [1, 2, 5]) (by kernel_rfl) (by simp) (RA.each ?_ (RA.each ?_ (RA.each ?_ (RA.each0)))))
     ·skip
      refine RO.v rfl rfl (V.loadPrim (d := .r (.v (.slice none 0 0))) rfl rfl (.inr ⟨_, rfl⟩) rfl rfl rfl) rfl ?_
      exact RA.to hall (RA.lr ro11_110010000000 rfl rfl)
     ·skip
      refine RO.v rfl rfl (V.field rfl rfl rfl rfl (by decide) rfl) rfl ?_
      exact RA.to hall (RA.lr ro11_101010000000 rfl rfl)
     ·skip
      refine RO.v rfl rfl (V.field rfl rfl rfl rfl (by decide) rfl) rfl ?_
      exact RA.to hall (RA.lr ro11_100011000000 rfl rfl)
    have ro11_101000000000 : RA E B all 10 #[true, false, true, false, false, false, false, false, false, false, false, false] ⟨36, [(1, I b), (3, .obj b1 ((Log.c l).map .r)), (6, .obj b2 [I 0, I 0, .r (.v (.slice none 0 0))]), (7, .obj b3 [I b, I t, .r (.v (.slice none 0 0))]), (24, .pt 7 b3 2), (26, .pt 3 b1 2)]⟩ K := by
     refine RA.of hall (RA.step (L := [1, 3, 4, 5]) (by kernel_rfl) (by simp) (RA.each ?_ (RA.each ?_ (RA.each ?_ (RA.each ?_ (RA.each0))))))
     ·skip
      refine RO.v rfl rfl (V.loadPrim (d := .r (.v (.slice none 0 0))) rfl rfl (.inr ⟨_, rfl⟩) rfl rfl rfl) rfl ?_
      exact RA.to hall (RA.lr ro11_111000000000 rfl rfl)
     ·skip
      refine RO.v rfl rfl (V.loadPrim (d := .r (sl 3 Entry.c l.entries)) rfl rfl (.inr ⟨_, rfl⟩) rfl rfl rfl) rfl ?_
      exact RA.to hall (RA.lr ro11_101100000000 rfl rfl)
     ·skip
      refine RO.v rfl rfl (V.mv (d := I b) rfl rfl) rfl ?_
      exact RA.to hall (RA.lr ro11_101010000000 rfl rfl)
     ·skip
      refine RO.v rfl rfl (V.field rfl rfl rfl rfl (by decide) rfl) rfl ?_
      exact RA.to hall (RA.lr ro11_101001000000 rfl rfl)
    have ro11_110000000000 : RA E B all 10 #[true, true, false, false, false, false, false, false, false, false, false, false] ⟨36, [(1, I b), (3, .obj b1 ((Log.c l).map .r)), (6, .obj b2 [I 0, I 0, .r (.v (.slice none 0 0))]), (7, .obj b3 [I b, I t, .r (.v (.slice none 0 0))]), (25, .r (.v (.slice none 0 0)))]⟩ K := by
     refine RA.of hall (RA.step (L := [2, 4, 5]) (by kernel_rfl) (by simp) (RA.each ?_ (RA.each ?_ (RA.each ?_ (RA.each0)))))
     ·skip
      refine RO.v rfl rfl (V.field rfl rfl rfl rfl (by decide) rfl) rfl ?_
      exact RA.to hall (RA.lr ro11_111000000000 rfl rfl)
     ·skip
      refine RO.v rfl rfl (V.mv (d := I b) rfl rfl) rfl ?_
      exact RA.to hall (RA.lr ro11_110010000000 rfl rfl)
     ·skip
      refine RO.v rfl rfl (V.field rfl rfl rfl rfl (by decide) rfl) rfl ?_
      exact RA.to hall (RA.lr ro11_110001000000 rfl rfl)
    have ro11_000001000000 : RA E B all 11 #[false, false, false, false, false, true, false, false, false, false, false, false] ⟨36, [(1, I b), (3, .obj b1 ((Log.c l).map .r)), (6, .obj b2 [I 0, I 0, .r (.v (.slice none 0 0))]), (7, .obj b3 [I b, I t, .r (.v (.slice none 0 0))]), (29, .pt 3 b1 0)]⟩ K := by
     refine RA.of hall (RA.step (L := [0, 2, 4, 6]) (by kernel_rfl) (by simp) (RA.each ?_ (RA.each ?_ (RA.each ?_ (RA.each ?_ (RA.each0))))))
     ·skip
      refine RO.v rfl rfl (V.field rfl rfl rfl rfl (by decide) rfl) rfl ?_
      exact RA.to hall (RA.lr ro11_100001000000 rfl rfl)
     ·skip
      refine RO.v rfl rfl (V.field rfl rfl rfl rfl (by decide) rfl) rfl ?_
      exact RA.to hall (RA.lr ro11_001001000000 rfl rfl)
     ·skip
      refine RO.v rfl rfl (V.mv (d := I b) rfl rfl) rfl ?_
      exact RA.to hall (RA.lr ro11_000011000000 rfl rfl)
     ·skip
      refine RO.v rfl rfl (V.loadPrim (d := I l.start) rfl rfl (.inl rfl) rfl rfl rfl) rfl ?_
      exact RA.to hall (RA.lr ro11_000001100000 rfl rfl)
    have ro11_000010000000 : RA E B all 11 #[false, false, false, false, true, false, false, false, false, false, false, false] ⟨36, [(3, .obj b1 ((Log.c l).map .r)), (6, .obj b2 [I 0, I 0, .r (.v (.slice none 0 0))]), (7, .obj b3 [I b, I t, .r (.v (.slice none 0 0))]), (28, I b)]⟩ K := by
     refine RA.of hall (RA.step (L := [0, 2, 5]) (by kernel_rfl) (by simp) (RA.each ?_ (RA.each ?_ (RA.each ?_ (RA.each0)))))
     ·skip
      refine RO.v rfl rfl (V.field rfl rfl rfl rfl (by decide) rfl) rfl ?_
      exact RA.to hall (RA.lr ro11_100010000000 rfl rfl)
     ·skip
      refine RO.v rfl rfl (V.field rfl rfl rfl rfl (by decide) rfl) rfl ?_
      exact RA.to hall (RA.lr ro11_001010000000 rfl rfl)
     ·skip
      refine RO.v rfl rfl (V.field rfl rfl rfl rfl (by decide) rfl) rfl ?_
      exact RA.to hall (RA.lr ro11_000011000000 rfl rfl)
    have ro11_001000000000 : RA E B all 11 #[false, false, true, false, false, false, false, false, false, false, false, false] ⟨36, [(1, I b), (3, .obj b1 ((Log.c l).map .r)), (6, .obj b2 [I 0, I 0, .r (.v (.slice none 0 0))]), (7, .obj b3 [I b, I t, .r (.v (.slice none 0 0))]), (26, .pt 3 b1 2)]⟩ K := by
     refine RA.of hall (RA.step (L := [0, 3, 4, 5]) (by kernel_rfl) (by simp) (RA.each ?_ (RA.each ?_ (RA.each ?_ (RA.each ?_ (RA.each0))))))
     ·skip
      refine RO.v rfl rfl (V.field rfl rfl rfl rfl (by decide) rfl) rfl ?_
      exact RA.to hall (RA.lr ro11_101000000000 rfl rfl)
     ·skip
      refine RO.v rfl rfl (V.loadPrim (d := .r (sl 3 Entry.c l.entries)) rfl rfl (.inr ⟨_, rfl⟩) rfl rfl rfl) rfl ?_
      exact RA.to hall (RA.lr ro11_001100000000 rfl rfl)
     ·skip
      refine RO.v rfl rfl (V.mv (d := I b) rfl rfl) rfl ?_
      exact RA.to hall (RA.lr ro11_001010000000 rfl rfl)
     ·skip
      refine RO.v rfl rfl (V.field rfl rfl rfl rfl (by decide) rfl) rfl ?_
      exact RA.to hall (RA.lr ro11_001001000000 rfl rfl)
    have ro11_100000000000 : RA E B all 11 #[true, false, false, false, false, false, false, false, false, false, false, false] ⟨36, [(1, I b), (3, .obj b1 ((Log.c l).map .r)), (6, .obj b2 [I 0, I 0, .r (.v (.slice none 0 0))]), (7, .obj b3 [I b, I t, .r (.v (.slice none 0 0))]), (24, .pt 7 b3 2)]⟩ K := by
     refine RA.of hall (RA.step (L := [1, 2, 4, 5]) (by kernel_rfl) (by simp) (RA.each ?_ (RA.each ?_ (RA.each ?_ (RA.each ?_ (RA.each0))))))
     ·skip
      refine RO.v rfl rfl (V.loadPrim (d := .r (.v (.slice none 0 0))) rfl rfl (.inr ⟨_, rfl⟩) rfl rfl rfl) rfl ?_
      exact RA.to hall (RA.lr ro11_110000000000 rfl rfl)
     ·skip
      refine RO.v rfl rfl (V.field rfl rfl rfl rfl (by decide) rfl) rfl ?_
      exact RA.to hall (RA.lr ro11_101000000000 rfl rfl)
     ·skip
      refine RO.v rfl rfl (V.mv (d := I b) rfl rfl) rfl ?_
      exact RA.to hall (RA.lr ro11_100010000000 rfl rfl)
     ·skip
      refine RO.v rfl rfl (V.field rfl rfl rfl rfl (by decide) rfl) rfl ?_
      exact RA.to hall (RA.lr ro11_100001000000 rfl rfl)
    have ro11_000000000000 : RA E B all 12 #[false, false, false, false, false, false, false, false, false, false, false, false] ⟨36, [(1, I b), (3, .obj b1 ((Log.c l).map .r)), (6, .obj b2 [I 0, I 0, .r (.v (.slice none 0 0))]), (7, .obj b3 [I b, I t, .r (.v (.slice none 0 0))]), (23, Bo v4)]⟩ K := by
     refine RA.of hall (RA.step (L := [0, 2, 4, 5]) (by kernel_rfl) (by simp) (RA.each ?_ (RA.each ?_ (RA.each ?_ (RA.each ?_ (RA.each0))))))
     ·skip
      refine RO.v rfl rfl (V.field rfl rfl rfl rfl (by decide) rfl) rfl ?_
      exact RA.to hall (RA.lr ro11_100000000000 rfl rfl)
     ·skip
      refine RO.v rfl rfl (V.field rfl rfl rfl rfl (by decide) rfl) rfl ?_
      exact RA.to hall (RA.lr ro11_001000000000 rfl rfl)
     ·skip
      refine RO.v rfl rfl (V.mv (d := I b) rfl rfl) rfl ?_
      exact RA.to hall (RA.lr ro11_000010000000 rfl rfl)
     ·skip
      refine RO.v rfl rfl (V.field rfl rfl rfl rfl (by decide) rfl) rfl ?_
      exact RA.to hall (RA.lr ro11_000001000000 rfl rfl)
    exact RA.start (by kernel_rfl) (by kernel_rfl) (RA.lr ro11_000000000000 rfl rfl)
   ·rintro Xo11_9_1
    refine CW.le [(6, .obj b2 [I 0, I 0, .r (.v (.slice none 0 0))]), (7, .obj b3 [I b, I t, .w (sl 3 Entry.c (([]) ++ (l.entries.drop (b - l.start).toNat))) Xo11_9_1])] rfl (Le.of rfl) ?_
    refine CW.seq ?_
    refine CW.region ?_
    refine RW.v rfl (V.loadAgg rfl rfl rfl rfl rfl (Nat.le_of_ble_eq_true rfl)) ?_
    refine RW.storeAgg (es := [I b, I t, .al 7 (some 2) 3 ((([]) ++ (l.entries.drop (b - l.start).toNat)).length) Xo11_9_1 0]) rfl rfl rfl rfl rfl rfl rfl rfl (Nat.le_of_ble_eq_true rfl) rfl ?_
    refine RW.le [(6, .obj b2 [I b, I t, .al 7 (some 2) 3 ((([]) ++ (l.entries.drop (b - l.start).toNat)).length) Xo11_9_1 0]), (7, .obj b3 [I b, I t, .w (sl 3 Entry.c (([]) ++ (l.entries.drop (b - l.start).toNat))) Xo11_9_1])] rfl (Le.of rfl) ?_
    refine RW.pullO (k := 6) (l := 7) (j := 2) 6 7 2 rfl rfl rfl (by decide) rfl rfl rfl rfl ?_
    refine RW.le [(6, .obj b2 [I b, I t, .w (sl 3 Entry.c (([]) ++ (l.entries.drop (b - l.start).toNat))) Xo11_9_1])] rfl (Le.of rfl) ?_
    refine RW.nil ?_
    refine CW.le [(6, .obj b2 [I b, I t, .w (sl 3 Entry.c (([]) ++ (l.entries.drop (b - l.start).toNat))) Xo11_9_1])] rfl (Le.of rfl) ?_
    refine CW.ret ?_
    exact Post.one (RV.c (f := fun e => (Log.c e).map .w) (e' := (⟨b, t, (([]) ++ (l.entries.drop (b - l.start).toNat))⟩ : Log)) rfl rfl rfl rfl (DT.v (DT.v (DT.w DT.e))) (by rw [lb_yes hl hr ht]; rfl)) (AOs.a rfl (AOs.r (AOs.r AOs.e)))
  ·skip
   refine CW.skip ?_
   refine CW.le [(6, .obj b2 [I 0, I 0, .r (.v (.slice none 0 0))]), (7, .obj b3 [I b, I t, .r (.v (.slice none 0 0))])] rfl (Le.of rfl) ?_
   refine CW.seq ?_
   refine CW.region ?_
   refine RW.v rfl (V.loadAgg rfl rfl rfl rfl rfl (Nat.le_of_ble_eq_true rfl)) ?_
   refine RW.storeAgg (es := [I b, I t, .r (.v (.slice none 0 0))]) rfl rfl rfl rfl rfl rfl rfl rfl (Nat.le_of_ble_eq_true rfl) rfl ?_
   refine RW.nil ?_
   refine CW.le [(6, .obj b2 [I b, I t, .r (.v (.slice none 0 0))])] rfl (Le.of rfl) ?_
   refine CW.ret ?_
   exact Post.one (RV.c (f := fun e => (Log.c e).map .w) (e' := (⟨b, t, []⟩ : Log)) rfl rfl rfl rfl (DT.v (DT.v (DT.n DT.e))) (by rw [lb_no (by rw [← lb_impl2, ← hv9]; exact h10)])) (AOs.a rfl (AOs.r (AOs.r AOs.e)))
set_option maxHeartbeats 4000000 in
theorem impl_copyLog_fn (l : Log) (hok : okToLog l) : Eng.Fn E.P 123 [.agg ((Log.c l).map .r)] (.one (.agg ((Log.c l).map .w))) [.agg ((Log.c l).map .r)] := by
 refine Eng.Fn.intro (E := E) (rvs := [.cell 2 44]) Try.func123 rfl rfl rfl (by simp [outSlots, moved, rvSlot, sl]) ?_
 intro B g bo
 refine CW.le [(0, .agg ((Log.c l).map .r))] rfl (Le.of rfl) ?_
 refine CW.seq ?_
 refine CW.region ?_
 refine RW.box (ds := ((Log.c l).map .r)) rfl rfl rfl fun b1 => ?_
 refine RW.alloc (ds := [I 0, I 0, .r (.v (.slice none 0 0))]) rfl rfl rfl rfl fun b2 => ?_
 refine RW.nil ?_
 refine CW.le [(1, .obj b1 ((Log.c l).map .r)), (2, .obj b2 [I 0, I 0, .r (.v (.slice none 0 0))])] rfl (Le.of rfl) ?_
 refine CW.anyJ 12 (fun (x : Value × Value) => match x with | (Xo3_4_1, Xo3_7_1) => [(2, .obj b2 [I l.start, I l.startTerm, .w (sl 3 Entry.c (([] : List Entry) ++ l.entries)) Xo3_7_1])]) (fun all hall K hK => ?_) ?_
 ·skip
  have ro3_1111111111 : ∀ (Xo3_4_1 : Value), ∀ (Xo3_7_1 : Value), RA E B all 0 #[true, true, true, true, true, true, true, true, true, true] ⟨12, [(2, .obj b2 [I l.start, I l.startTerm, .w (sl 3 Entry.c (([] : List Entry) ++ l.entries)) Xo3_7_1])]⟩ K := by
   intro Xo3_4_1 Xo3_7_1
   exact RA.of hall (RA.fin (by kernel_rfl) (hK (Xo3_4_1, Xo3_7_1) _ rfl (Le.of rfl)))
  have ro3_1111111110 : ∀ (Xo3_4_1 : Value), ∀ (Xo3_7_1 : Value), RA E B all 1 #[true, true, true, true, true, true, true, true, true, false] ⟨12, [(2, .obj b2 [I 0, I 0, .r (.v (.slice none 0 0))]), (10, .w (sl 3 Entry.c (([] : List Entry) ++ l.entries)) Xo3_7_1), (11, .agg [I l.start, I l.startTerm, .al 10 none 3 ((([] : List Entry) ++ l.entries).length) Xo3_7_1 0])]⟩ K := by
   intro Xo3_4_1 Xo3_7_1
   refine RA.of hall (RA.step (L := [9]) (by kernel_rfl) (by simp) (RA.each ?_ (RA.each0)))
   ·skip
    refine RO.storeAgg (es := [I l.start, I l.startTerm, .al 10 none 3 ((([] : List Entry) ++ l.entries).length) Xo3_7_1 0]) rfl rfl rfl rfl rfl rfl rfl rfl rfl rfl (Nat.le_of_ble_eq_true rfl) rfl ?_
    refine RA.le [(2, .obj b2 [I l.start, I l.startTerm, .al 10 none 3 ((([] : List Entry) ++ l.entries).length) Xo3_7_1 0]), (10, .w (sl 3 Entry.c (([] : List Entry) ++ l.entries)) Xo3_7_1)] rfl (Le.of rfl) ?_
    refine RA.pullT (k := 2) (l := 10) (j := 2) 2 10 2 rfl rfl rfl (by decide) rfl rfl rfl ?_
    refine RA.le [(2, .obj b2 [I l.start, I l.startTerm, .w (sl 3 Entry.c (([] : List Entry) ++ l.entries)) Xo3_7_1])] rfl (Le.of rfl) ?_
    exact RA.to hall (RA.lr (ro3_1111111111 Xo3_4_1 Xo3_7_1) rfl rfl)
  have ro3_1111111100 : ∀ (Xo3_4_1 : Value), ∀ (Xo3_7_1 : Value), RA E B all 2 #[true, true, true, true, true, true, true, true, false, false] ⟨12, [(2, .obj b2 [I 0, I 0, .r (.v (.slice none 0 0))]), (4, I l.start), (6, I l.startTerm), (10, .w (sl 3 Entry.c (([] : List Entry) ++ l.entries)) Xo3_7_1)]⟩ K := by
   intro Xo3_4_1 Xo3_7_1
   refine RA.of hall (RA.step (L := [8]) (by kernel_rfl) (by simp) (RA.each ?_ (RA.each0)))
   ·skip
    refine RO.v rfl rfl (V.build (ds := [I l.start, I l.startTerm, .al 10 none 3 ((([] : List Entry) ++ l.entries).length) Xo3_7_1 0]) rfl rfl rfl rfl (.one rfl rfl rfl (Nat.le_of_ble_eq_true rfl) (.one rfl rfl rfl (Nat.le_of_ble_eq_true rfl) (.one rfl rfl rfl (Nat.le_of_ble_eq_true rfl) (.nil))))) rfl ?_
    exact RA.to hall (RA.lr (ro3_1111111110 Xo3_4_1 Xo3_7_1) rfl rfl)
  have ro3_1011111100 : ∀ (Xo3_4_1 : Value), ∀ (Xo3_7_1 : Value), RA E B all 3 #[true, false, true, true, true, true, true, true, false, false] ⟨12, [(1, .obj b1 ((Log.c l).map .r)), (2, .obj b2 [I 0, I 0, .r (.v (.slice none 0 0))]), (3, .pt 1 b1 0), (6, I l.startTerm), (10, .w (sl 3 Entry.c (([] : List Entry) ++ l.entries)) Xo3_7_1)]⟩ K := by
   intro Xo3_4_1 Xo3_7_1
   refine RA.of hall (RA.step (L := [1]) (by kernel_rfl) (by simp) (RA.each ?_ (RA.each0)))
   ·skip
    refine RO.v rfl rfl (V.loadPrim (d := I l.start) rfl rfl (.inl rfl) rfl rfl rfl) rfl ?_
    exact RA.to hall (RA.lr (ro3_1111111100 Xo3_4_1 Xo3_7_1) rfl rfl)
  have ro3_1110111100 : ∀ (Xo3_4_1 : Value), ∀ (Xo3_7_1 : Value), RA E B all 3 #[true, true, true, false, true, true, true, true, false, false] ⟨12, [(1, .obj b1 ((Log.c l).map .r)), (2, .obj b2 [I 0, I 0, .r (.v (.slice none 0 0))]), (4, I l.start), (5, .pt 1 b1 1), (10, .w (sl 3 Entry.c (([] : List Entry) ++ l.entries)) Xo3_7_1)]⟩ K := by
   intro Xo3_4_1 Xo3_7_1
   refine RA.of hall (RA.step (L := [3]) (by kernel_rfl) (by simp) (RA.each ?_ (RA.each0)))
   ·skip
    refine RO.v rfl rfl (V.loadPrim (d := I l.startTerm) rfl rfl (.inl rfl) rfl rfl rfl) rfl ?_
    exact RA.to hall (RA.lr (ro3_1111111100 Xo3_4_1 Xo3_7_1) rfl rfl)
  have ro3_1111111000 : ∀ (Xo3_4_1 : Value), RA E B all 3 #[true, true, true, true, true, true, true, false, false, false] ⟨12, [(2, .obj b2 [I 0, I 0, .r (.v (.slice none 0 0))]), (4, I l.start), (6, I l.startTerm), (7, .w (sl 3 Entry.c ([] : List Entry)) Xo3_4_1), (9, .r (sl 3 Entry.c l.entries))]⟩ K := by
   intro Xo3_4_1
   refine RA.of hall (RA.step (L := [7]) (by kernel_rfl) (by simp) (RA.each ?_ (RA.each0)))
   ·skip
    refine RO.appendSR (c := Entry.c) (l1 := ([] : List Entry)) (l2 := l.entries) rfl rfl rfl rfl rfl rfl rfl rfl rfl rfl .r (by decide) (Nat.le_of_ble_eq_true rfl) Entry.len (fun _ => rfl) rfl (by have h1 := hok.1; simp only [maxLen, List.length_nil]; omega) (by have h1 := hok.1; simp only [maxLen, List.length_nil]; omega) fun Xo3_7_1 => ?_
    exact RA.to hall (RA.lr (ro3_1111111100 Xo3_4_1 Xo3_7_1) rfl rfl)
  have ro3_0011111100 : ∀ (Xo3_4_1 : Value), ∀ (Xo3_7_1 : Value), RA E B all 4 #[false, false, true, true, true, true, true, true, false, false] ⟨12, [(1, .obj b1 ((Log.c l).map .r)), (2, .obj b2 [I 0, I 0, .r (.v (.slice none 0 0))]), (6, I l.startTerm), (10, .w (sl 3 Entry.c (([] : List Entry) ++ l.entries)) Xo3_7_1)]⟩ K := by
   intro Xo3_4_1 Xo3_7_1
   refine RA.of hall (RA.step (L := [0]) (by kernel_rfl) (by simp) (RA.each ?_ (RA.each0)))
   ·skip
    refine RO.v rfl rfl (V.field rfl rfl rfl rfl (by decide) rfl) rfl ?_
    exact RA.to hall (RA.lr (ro3_1011111100 Xo3_4_1 Xo3_7_1) rfl rfl)
  have ro3_1010111100 : ∀ (Xo3_4_1 : Value), ∀ (Xo3_7_1 : Value), RA E B all 4 #[true, false, true, false, true, true, true, true, false, false] ⟨12, [(1, .obj b1 ((Log.c l).map .r)), (2, .obj b2 [I 0, I 0, .r (.v (.slice none 0 0))]), (3, .pt 1 b1 0), (5, .pt 1 b1 1), (10, .w (sl 3 Entry.c (([] : List Entry) ++ l.entries)) Xo3_7_1)]⟩ K := by
   intro Xo3_4_1 Xo3_7_1
   refine RA.of hall (RA.step (L := [1, 3]) (by kernel_rfl) (by simp) (RA.each ?_ (RA.each ?_ (RA.each0))))
   ·skip
    refine RO.v rfl rfl (V.loadPrim (d := I l.start) rfl rfl (.inl rfl) rfl rfl rfl) rfl ?_
    exact RA.to hall (RA.lr (ro3_1110111100 Xo3_4_1 Xo3_7_1) rfl rfl)
   ·skip
    refine RO.v rfl rfl (V.loadPrim (d := I l.startTerm) rfl rfl (.inl rfl) rfl rfl rfl) rfl ?_
    exact RA.to hall (RA.lr (ro3_1011111100 Xo3_4_1 Xo3_7_1) rfl rfl)
  have ro3_1011111000 : ∀ (Xo3_4_1 : Value), RA E B all 4 #[true, false, true, true, true, true, true, false, false, false] ⟨12, [(1, .obj b1 ((Log.c l).map .r)), (2, .obj b2 [I 0, I 0, .r (.v (.slice none 0 0))]), (3, .pt 1 b1 0), (6, I l.startTerm), (7, .w (sl 3 Entry.c ([] : List Entry)) Xo3_4_1), (9, .r (sl 3 Entry.c l.entries))]⟩ K := by
   intro Xo3_4_1
   refine RA.of hall (RA.step (L := [1, 7]) (by kernel_rfl) (by simp) (RA.each ?_ (RA.each ?_ (RA.each0))))
   ·skip
    refine RO.v rfl rfl (V.loadPrim (d := I l.start) rfl rfl (.inl rfl) rfl rfl rfl) rfl ?_
    exact RA.to hall (RA.lr (ro3_1111111000 Xo3_4_1) rfl rfl)
   ·skip
    refine RO.appendSR (c := Entry.c) (l1 := ([] : List Entry)) (l2 := l.entries) rfl rfl rfl rfl rfl rfl rfl rfl rfl rfl .r (by decide) (Nat.le_of_ble_eq_true rfl) Entry.len (fun _ => rfl) rfl (by have h1 := hok.1; simp only [maxLen, List.length_nil]; omega) (by have h1 := hok.1; simp only [maxLen, List.length_nil]; omega) fun Xo3_7_1 => ?_
    exact RA.to hall (RA.lr (ro3_1011111100 Xo3_4_1 Xo3_7_1) rfl rfl)
  have ro3_1100111100 : ∀ (Xo3_4_1 : Value), ∀ (Xo3_7_1 : Value), RA E B all 4 #[true, true, false, false, true, true, true, true, false, false] ⟨12, [(1, .obj b1 ((Log.c l).map .r)), (2, .obj b2 [I 0, I 0, .r (.v (.slice none 0 0))]), (4, I l.start), (10, .w (sl 3 Entry.c (([] : List Entry) ++ l.entries)) Xo3_7_1)]⟩ K := by
   intro Xo3_4_1 Xo3_7_1
   refine RA.of hall (RA.step (L := [2]) (by kernel_rfl) (by simp) (RA.each ?_ (RA.each0)))
   ·skip
    refine RO.v rfl rfl (V.field rfl rfl rfl rfl (by decide) rfl) rfl ?_
    exact RA.to hall (RA.lr (ro3_1110111100 Xo3_4_1 Xo3_7_1) rfl rfl)
  have ro3_1110111000 : ∀ (Xo3_4_1 : Value), RA E B all 4 #[true, true, true, false, true, true, true, false, false, false] ⟨12, [(1, .obj b1 ((Log.c l).map .r)), (2, .obj b2 [I 0, I 0, .r (.v (.slice none 0 0))]), (4, I l.start), (5, .pt 1 b1 1), (7, .w (sl 3 Entry.c ([] : List Entry)) Xo3_4_1), (9, .r (sl 3 Entry.c l.entries))]⟩ K := by
   intro Xo3_4_1
   refine RA.of hall (RA.step (L := [3, 7]) (by kernel_rfl) (by simp) (RA.each ?_ (RA.each ?_ (RA.each0))))
   ·skip
    refine RO.v rfl rfl (V.loadPrim (d := I l.startTerm) rfl rfl (.inl rfl) rfl rfl rfl) rfl ?_
    exact RA.to hall (RA.lr (ro3_1111111000 Xo3_4_1) rfl rfl)
   ·skip
    refine RO.appendSR (c := Entry.c) (l1 := ([] : List Entry)) (l2 := l.entries) rfl rfl rfl rfl rfl rfl rfl rfl rfl rfl .r (by decide) (Nat.le_of_ble_eq_true rfl) Entry.len (fun _ => rfl) rfl (by have h1 := hok.1; simp only [maxLen, List.length_nil]; omega) (by have h1 := hok.1; simp only [maxLen, List.length_nil]; omega) fun Xo3_7_1 => ?_
    exact RA.to hall (RA.lr (ro3_1110111100 Xo3_4_1 Xo3_7_1) rfl rfl)
  have ro3_1111011000 : RA E B all 4 #[true, true, true, true, false, true, true, false, false, false] ⟨12, [(2, .obj b2 [I 0, I 0, .r (.v (.slice none 0 0))]), (4, I l.start), (6, I l.startTerm), (9, .r (sl 3 Entry.c l.entries))]⟩ K := by
   refine RA.of hall (RA.step (L := [4]) (by kernel_rfl) (by simp) (RA.each ?_ (RA.each0)))
   ·skip
    refine RO.build0 Entry.c rfl rfl rfl rfl rfl rfl rfl fun Xo3_4_1 => ?_
    exact RA.to hall (RA.lr (ro3_1111111000 Xo3_4_1) rfl rfl)
  have ro3_1111110000 : ∀ (Xo3_4_1 : Value), RA E B all 4 #[true, true, true, true, true, true, false, false, false, false] ⟨12, [(1, .obj b1 ((Log.c l).map .r)), (2, .obj b2 [I 0, I 0, .r (.v (.slice none 0 0))]), (4, I l.start), (6, I l.startTerm), (7, .w (sl 3 Entry.c ([] : List Entry)) Xo3_4_1), (8, .pt 1 b1 2)]⟩ K := by
   intro Xo3_4_1
   refine RA.of hall (RA.step (L := [6]) (by kernel_rfl) (by simp) (RA.each ?_ (RA.each0)))
   ·skip
    refine RO.v rfl rfl (V.loadPrim (d := .r (sl 3 Entry.c l.entries)) rfl rfl (.inr ⟨_, rfl⟩) rfl rfl rfl) rfl ?_
    exact RA.to hall (RA.lr (ro3_1111111000 Xo3_4_1) rfl rfl)
  have ro3_0010111100 : ∀ (Xo3_4_1 : Value), ∀ (Xo3_7_1 : Value), RA E B all 5 #[false, false, true, false, true, true, true, true, false, false] ⟨12, [(1, .obj b1 ((Log.c l).map .r)), (2, .obj b2 [I 0, I 0, .r (.v (.slice none 0 0))]), (5, .pt 1 b1 1), (10, .w (sl 3 Entry.c (([] : List Entry) ++ l.entries)) Xo3_7_1)]⟩ K := by
   intro Xo3_4_1 Xo3_7_1
   refine RA.of hall (RA.step (L := [0, 3]) (by kernel_rfl) (by simp) (RA.each ?_ (RA.each ?_ (RA.each0))))
   ·skip
    refine RO.v rfl rfl (V.field rfl rfl rfl rfl (by decide) rfl) rfl ?_
    exact RA.to hall (RA.lr (ro3_1010111100 Xo3_4_1 Xo3_7_1) rfl rfl)
   ·skip
    refine RO.v rfl rfl (V.loadPrim (d := I l.startTerm) rfl rfl (.inl rfl) rfl rfl rfl) rfl ?_
    exact RA.to hall (RA.lr (ro3_0011111100 Xo3_4_1 Xo3_7_1) rfl rfl)
  have ro3_0011111000 : ∀ (Xo3_4_1 : Value), RA E B all 5 #[false, false, true, true, true, true, true, false, false, false] ⟨12, [(1, .obj b1 ((Log.c l).map .r)), (2, .obj b2 [I 0, I 0, .r (.v (.slice none 0 0))]), (6, I l.startTerm), (7, .w (sl 3 Entry.c ([] : List Entry)) Xo3_4_1), (9, .r (sl 3 Entry.c l.entries))]⟩ K := by
   intro Xo3_4_1
   refine RA.of hall (RA.step (L := [0, 7]) (by kernel_rfl) (by simp) (RA.each ?_ (RA.each ?_ (RA.each0))))
   ·skip
    refine RO.v rfl rfl (V.field rfl rfl rfl rfl (by decide) rfl) rfl ?_
    exact RA.to hall (RA.lr (ro3_1011111000 Xo3_4_1) rfl rfl)
   ·skip
    refine RO.appendSR (c := Entry.c) (l1 := ([] : List Entry)) (l2 := l.entries) rfl rfl rfl rfl rfl rfl rfl rfl rfl rfl .r (by decide) (Nat.le_of_ble_eq_true rfl) Entry.len (fun _ => rfl) rfl (by have h1 := hok.1; simp only [maxLen, List.length_nil]; omega) (by have h1 := hok.1; simp only [maxLen, List.length_nil]; omega) fun Xo3_7_1 => ?_
    exact RA.to hall (RA.lr (ro3_0011111100 Xo3_4_1 Xo3_7_1) rfl rfl)
  have ro3_1000111100 : ∀ (Xo3_4_1 : Value), ∀ (Xo3_7_1 : Value), RA E B all 5 #[true, false, false, false, true, true, true, true, false, false] ⟨12, [(1, .obj b1 ((Log.c l).map .r)), (2, .obj b2 [I 0, I 0, .r (.v (.slice none 0 0))]), (3, .pt 1 b1 0), (10, .w (sl 3 Entry.c (([] : List Entry) ++ l.entries)) Xo3_7_1)]⟩ K := by
   intro Xo3_4_1 Xo3_7_1
   refine RA.of hall (RA.step (L := [1, 2]) (by kernel_rfl) (by simp) (RA.each ?_ (RA.each ?_ (RA.each0))))
   ·skip
    refine RO.v rfl rfl (V.loadPrim (d := I l.start) rfl rfl (.inl rfl) rfl rfl rfl) rfl ?_
    exact RA.to hall (RA.lr (ro3_1100111100 Xo3_4_1 Xo3_7_1) rfl rfl)
   ·skip
    refine RO.v rfl rfl (V.field rfl rfl rfl rfl (by decide) rfl) rfl ?_
    exact RA.to hall (RA.lr (ro3_1010111100 Xo3_4_1 Xo3_7_1) rfl rfl)
  have ro3_1010111000 : ∀ (Xo3_4_1 : Value), RA E B all 5 #[true, false, true, false, true, true, true, false, false, false] ⟨12, [(1, .obj b1 ((Log.c l).map .r)), (2, .obj b2 [I 0, I 0, .r (.v (.slice none 0 0))]), (3, .pt 1 b1 0), (5, .pt 1 b1 1), (7, .w (sl 3 Entry.c ([] : List Entry)) Xo3_4_1), (9, .r (sl 3 Entry.c l.entries))]⟩ K := by
   intro Xo3_4_1
   refine RA.of hall (RA.step (L := [1, 3, 7]) (by kernel_rfl) (by simp) (RA.each ?_ (RA.each ?_ (RA.each ?_ (RA.each0)))))
   ·skip
    refine RO.v rfl rfl (V.loadPrim (d := I l.start) rfl rfl (.inl rfl) rfl rfl rfl) rfl ?_
    exact RA.to hall (RA.lr (ro3_1110111000 Xo3_4_1) rfl rfl)
   ·skip
    refine RO.v rfl rfl (V.loadPrim (d := I l.startTerm) rfl rfl (.inl rfl) rfl rfl rfl) rfl ?_
    exact RA.to hall (RA.lr (ro3_1011111000 Xo3_4_1) rfl rfl)
   ·skip
    refine RO.appendSR (c := Entry.c) (l1 := ([] : List Entry)) (l2 := l.entries) rfl rfl rfl rfl rfl rfl rfl rfl rfl rfl .r (by decide) (Nat.le_of_ble_eq_true rfl) Entry.len (fun _ => rfl) rfl (by have h1 := hok.1; simp only [maxLen, List.length_nil]; omega) (by have h1 := hok.1; simp only [maxLen, List.length_nil]; omega) fun Xo3_7_1 => ?_
    exact RA.to hall (RA.lr (ro3_1010111100 Xo3_4_1 Xo3_7_1) rfl rfl)
  have ro3_1011011000 : RA E B all 5 #[true, false, true, true, false, true, true, false, false, false] ⟨12, [(1, .obj b1 ((Log.c l).map .r)), (2, .obj b2 [I 0, I 0, .r (.v (.slice none 0 0))]), (3, .pt 1 b1 0), (6, I l.startTerm), (9, .r (sl 3 Entry.c l.entries))]⟩ K := by
   refine RA.of hall (RA.step (L := [1, 4]) (by kernel_rfl) (by simp) (RA.each ?_ (RA.each ?_ (RA.each0))))
   ·skip
    refine RO.v rfl rfl (V.loadPrim (d := I l.start) rfl rfl (.inl rfl) rfl rfl rfl) rfl ?_
    exact RA.to hall (RA.lr ro3_1111011000 rfl rfl)
   ·skip
    refine RO.build0 Entry.c rfl rfl rfl rfl rfl rfl rfl fun Xo3_4_1 => ?_
    exact RA.to hall (RA.lr (ro3_1011111000 Xo3_4_1) rfl rfl)
  have ro3_1011110000 : ∀ (Xo3_4_1 : Value), RA E B all 5 #[true, false, true, true, true, true, false, false, false, false] ⟨12, [(1, .obj b1 ((Log.c l).map .r)), (2, .obj b2 [I 0, I 0, .r (.v (.slice none 0 0))]), (3, .pt 1 b1 0), (6, I l.startTerm), (7, .w (sl 3 Entry.c ([] : List Entry)) Xo3_4_1), (8, .pt 1 b1 2)]⟩ K := by
   intro Xo3_4_1
   refine RA.of hall (RA.step (L := [1, 6]) (by kernel_rfl) (by simp) (RA.each ?_ (RA.each ?_ (RA.each0))))
   ·skip
    refine RO.v rfl rfl (V.loadPrim (d := I l.start) rfl rfl (.inl rfl) rfl rfl rfl) rfl ?_
    exact RA.to hall (RA.lr (ro3_1111110000 Xo3_4_1) rfl rfl)
   ·skip
    refine RO.v rfl rfl (V.loadPrim (d := .r (sl 3 Entry.c l.entries)) rfl rfl (.inr ⟨_, rfl⟩) rfl rfl rfl) rfl ?_
    exact RA.to hall (RA.lr (ro3_1011111000 Xo3_4_1) rfl rfl)
  have ro3_1100111000 : ∀ (Xo3_4_1 : Value), RA E B all 5 #[true, true, false, false, true, true, true, false, false, false] ⟨12, [(1, .obj b1 ((Log.c l).map .r)), (2, .obj b2 [I 0, I 0, .r (.v (.slice none 0 0))]), (4, I l.start), (7, .w (sl 3 Entry.c ([] : List Entry)) Xo3_4_1), (9, .r (sl 3 Entry.c l.entries))]⟩ K := by
   intro Xo3_4_1
   refine RA.of hall (RA.step (L := [2, 7]) (by kernel_rfl) (by simp) (RA.each ?_ (RA.each ?_ (RA.each0))))
   ·skip
    refine RO.v rfl rfl (V.field rfl rfl rfl rfl (by decide) rfl) rfl ?_
    exact RA.to hall (RA.lr (ro3_1110111000 Xo3_4_1) rfl rfl)
   ·skip
    refine RO.appendSR (c := Entry.c) (l1 := ([] : List Entry)) (l2 := l.entries) rfl rfl rfl rfl rfl rfl rfl rfl rfl rfl .r (by decide) (Nat.le_of_ble_eq_true rfl) Entry.len (fun _ => rfl) rfl (by have h1 := hok.1; simp only [maxLen, List.length_nil]; omega) (by have h1 := hok.1; simp only [maxLen, List.length_nil]; omega) fun Xo3_7_1 => ?_
    exact RA.to hall (RA.lr (ro3_1100111100 Xo3_4_1 Xo3_7_1) rfl rfl)
  have ro3_1110011000 : RA E B all 5 #[true, true, true, false, false, true, true, false, false, false] ⟨12, [(1, .obj b1 ((Log.c l).map .r)), (2, .obj b2 [I 0, I 0, .r (.v (.slice none 0 0))]), (4, I l.start), (5, .pt 1 b1 1), (9, .r (sl 3 Entry.c l.entries))]⟩ K := by
   refine RA.of hall (RA.step (L := [3, 4]) (by kernel_rfl) (by simp) (RA.each ?_ (RA.each ?_ (RA.each0))))
   ·skip
    refine RO.v rfl rfl (V.loadPrim (d := I l.startTerm) rfl rfl (.inl rfl) rfl rfl rfl) rfl ?_
    exact RA.to hall (RA.lr ro3_1111011000 rfl rfl)
   ·skip
    refine RO.build0 Entry.c rfl rfl rfl rfl rfl rfl rfl fun Xo3_4_1 => ?_
    exact RA.to hall (RA.lr (ro3_1110111000 Xo3_4_1) rfl rfl)
  have ro3_1110110000 : ∀ (Xo3_4_1 : Value), RA E B all 5 #[true, true, true, false, true, true, false, false, false, false] ⟨12, [(1, .obj b1 ((Log.c l).map .r)), (2, .obj b2 [I 0, I 0, .r (.v (.slice none 0 0))]), (4, I l.start), (5, .pt 1 b1 1), (7, .w (sl 3 Entry.c ([] : List Entry)) Xo3_4_1), (8, .pt 1 b1 2)]⟩ K := by
   intro Xo3_4_1
   refine RA.of hall (RA.step (L := [3, 6]) (by kernel_rfl) (by simp) (RA.each ?_ (RA.each ?_ (RA.each0))))
   ·skip
    refine RO.v rfl rfl (V.loadPrim (d := I l.startTerm) rfl rfl (.inl rfl) rfl rfl rfl) rfl ?_
    exact RA.to hall (RA.lr (ro3_1111110000 Xo3_4_1) rfl rfl)
   ·skip
    refine RO.v rfl rfl (V.loadPrim (d := .r (sl 3 Entry.c l.entries)) rfl rfl (.inr ⟨_, rfl⟩) rfl rfl rfl) rfl ?_
    exact RA.to hall (RA.lr (ro3_1110111000 Xo3_4_1) rfl rfl)
  have ro3_1111010000 : RA E B all 5 #[true, true, true, true, false, true, false, false, false, false] ⟨12, [(1, .obj b1 ((Log.c l).map .r)), (2, .obj b2 [I 0, I 0, .r (.v (.slice none 0 0))]), (4, I l.start), (6, I l.startTerm), (8, .pt 1 b1 2)]⟩ K := by
   refine RA.of hall (RA.step (L := [4, 6]) (by kernel_rfl) (by simp) (RA.each ?_ (RA.each ?_ (RA.each0))))
   ·skip
    refine RO.build0 Entry.c rfl rfl rfl rfl rfl rfl rfl fun Xo3_4_1 => ?_
    exact RA.to hall (RA.lr (ro3_1111110000 Xo3_4_1) rfl rfl)
   ·skip
    refine RO.v rfl rfl (V.loadPrim (d := .r (sl 3 Entry.c l.entries)) rfl rfl (.inr ⟨_, rfl⟩) rfl rfl rfl) rfl ?_
    exact RA.to hall (RA.lr ro3_1111011000 rfl rfl)
  have ro3_1111100000 : ∀ (Xo3_4_1 : Value), RA E B all 5 #[true, true, true, true, true, false, false, false, false, false] ⟨12, [(1, .obj b1 ((Log.c l).map .r)), (2, .obj b2 [I 0, I 0, .r (.v (.slice none 0 0))]), (4, I l.start), (6, I l.startTerm), (7, .w (sl 3 Entry.c ([] : List Entry)) Xo3_4_1)]⟩ K := by
   intro Xo3_4_1
   refine RA.of hall (RA.step (L := [5]) (by kernel_rfl) (by simp) (RA.each ?_ (RA.each0)))
   ·skip
    refine RO.v rfl rfl (V.field rfl rfl rfl rfl (by decide) rfl) rfl ?_
    exact RA.to hall (RA.lr (ro3_1111110000 Xo3_4_1) rfl rfl)
  have ro3_0000111100 : ∀ (Xo3_4_1 : Value), ∀ (Xo3_7_1 : Value), RA E B all 6 #[false, false, false, false, true, true, true, true, false, false] ⟨12, [(1, .obj b1 ((Log.c l).map .r)), (2, .obj b2 [I 0, I 0, .r (.v (.slice none 0 0))]), (10, .w (sl 3 Entry.c (([] : List Entry) ++ l.entries)) Xo3_7_1)]⟩ K := by
   intro Xo3_4_1 Xo3_7_1
   refine RA.of hall (RA.step (L := [0, 2]) (by kernel_rfl) (by simp) (RA.each ?_ (RA.each ?_ (RA.each0))))
   ·skip
    refine RO.v rfl rfl (V.field rfl rfl rfl rfl (by decide) rfl) rfl ?_
    exact RA.to hall (RA.lr (ro3_1000111100 Xo3_4_1 Xo3_7_1) rfl rfl)
   ·skip
    refine RO.v rfl rfl (V.field rfl rfl rfl rfl (by decide) rfl) rfl ?_
    exact RA.to hall (RA.lr (ro3_0010111100 Xo3_4_1 Xo3_7_1) rfl rfl)
  have ro3_0010111000 : ∀ (Xo3_4_1 : Value), RA E B all 6 #[false, false, true, false, true, true, true, false, false, false] ⟨12, [(1, .obj b1 ((Log.c l).map .r)), (2, .obj b2 [I 0, I 0, .r (.v (.slice none 0 0))]), (5, .pt 1 b1 1), (7, .w (sl 3 Entry.c ([] : List Entry)) Xo3_4_1), (9, .r (sl 3 Entry.c l.entries))]⟩ K := by
   intro Xo3_4_1
   refine RA.of hall (RA.step (L := [0, 3, 7]) (by kernel_rfl) (by simp) (RA.each ?_ (RA.each ?_ (RA.each ?_ (RA.each0)))))
   ·skip
    refine RO.v rfl rfl (V.field rfl rfl rfl rfl (by decide) rfl) rfl ?_
    exact RA.to hall (RA.lr (ro3_1010111000 Xo3_4_1) rfl rfl)
   ·skip
    refine RO.v rfl rfl (V.loadPrim (d := I l.startTerm) rfl rfl (.inl rfl) rfl rfl rfl) rfl ?_
    exact RA.to hall (RA.lr (ro3_0011111000 Xo3_4_1) rfl rfl)
   ·skip
    refine RO.appendSR (c := Entry.c) (l1 := ([] : List Entry)) (l2 := l.entries) rfl rfl rfl rfl rfl rfl rfl rfl rfl rfl .r (by decide) (Nat.le_of_ble_eq_true rfl) Entry.len (fun _ => rfl) rfl (by have h1 := hok.1; simp only [maxLen, List.length_nil]; omega) (by have h1 := hok.1; simp only [maxLen, List.length_nil]; omega) fun Xo3_7_1 => ?_
    exact RA.to hall (RA.lr (ro3_0010111100 Xo3_4_1 Xo3_7_1) rfl rfl)
  have ro3_0011011000 : RA E B all 6 #[false, false, true, true, false, true, true, false, false, false] ⟨12, [(1, .obj b1 ((Log.c l).map .r)), (2, .obj b2 [I 0, I 0, .r (.v (.slice none 0 0))]), (6, I l.startTerm), (9, .r (sl 3 Entry.c l.entries))]⟩ K := by
   refine RA.of hall (RA.step (L := [0, 4]) (by kernel_rfl) (by simp) (RA.each ?_ (RA.each ?_ (RA.each0))))
   ·skip
    refine RO.v rfl rfl (V.field rfl rfl rfl rfl (by decide) rfl) rfl ?_
    exact RA.to hall (RA.lr ro3_1011011000 rfl rfl)
   ·skip
    refine RO.build0 Entry.c rfl rfl rfl rfl rfl rfl rfl fun Xo3_4_1 => ?_
    exact RA.to hall (RA.lr (ro3_0011111000 Xo3_4_1) rfl rfl)
  have ro3_0011110000 : ∀ (Xo3_4_1 : Value), RA E B all 6 #[false, false, true, true, true, true, false, false, false, false] ⟨12, [(1, .obj b1 ((Log.c l).map .r)), (2, .obj b2 [I 0, I 0, .r (.v (.slice none 0 0))]), (6, I l.startTerm), (7, .w (sl 3 Entry.c ([] : List Entry)) Xo3_4_1), (8, .pt 1 b1 2)]⟩ K := by
   intro Xo3_4_1
   refine RA.of hall (RA.step (L := [0, 6]) (by kernel_rfl) (by simp) (RA.each ?_ (RA.each ?_ (RA.each0))))
   ·skip
    refine RO.v rfl rfl (V.field rfl rfl rfl rfl (by decide) rfl) rfl ?_
    exact RA.to hall (RA.lr (ro3_1011110000 Xo3_4_1) rfl rfl)
   ·skip
    refine RO.v rfl rfl (V.loadPrim (d := .r (sl 3 Entry.c l.entries)) rfl rfl (.inr ⟨_, rfl⟩) rfl rfl rfl) rfl ?_
    exact RA.to hall (RA.lr (ro3_0011111000 Xo3_4_1) rfl rfl)
  have ro3_1000111000 : ∀ (Xo3_4_1 : Value), RA E B all 6 #[true, false, false, false, true, true, true, false, false, false] ⟨12, [(1, .obj b1 ((Log.c l).map .r)), (2, .obj b2 [I 0, I 0, .r (.v (.slice none 0 0))]), (3, .pt 1 b1 0), (7, .w (sl 3 Entry.c ([] : List Entry)) Xo3_4_1), (9, .r (sl 3 Entry.c l.entries))]⟩ K := by
   intro Xo3_4_1
   refine RA.of hall (RA.step (L := [1, 2, 7]) (by kernel_rfl) (by simp) (RA.each ?_ (RA.each ?_ (RA.each ?_ (RA.each0)))))
   ·skip
    refine RO.v rfl rfl (V.loadPrim (d := I l.start) rfl rfl (.inl rfl) rfl rfl rfl) rfl ?_
    exact RA.to hall (RA.lr (ro3_1100111000 Xo3_4_1) rfl rfl)
   ·skip
    refine RO.v rfl rfl (V.field rfl rfl rfl rfl (by decide) rfl) rfl ?_
    exact RA.to hall (RA.lr (ro3_1010111000 Xo3_4_1) rfl rfl)
   ·skip
    refine RO.appendSR (c := Entry.c) (l1 := ([] : List Entry)) (l2 := l.entries) rfl rfl rfl rfl rfl rfl rfl rfl rfl rfl .r (by decide) (Nat.le_of_ble_eq_true rfl) Entry.len (fun _ => rfl) rfl (by have h1 := hok.1; simp only [maxLen, List.length_nil]; omega) (by have h1 := hok.1; simp only [maxLen, List.length_nil]; omega) fun Xo3_7_1 => ?_
    exact RA.to hall (RA.lr (ro3_1000111100 Xo3_4_1 Xo3_7_1) rfl rfl)
  have ro3_1010011000 : RA E B all 6 #[true, false, true, false, false, true, true, false, false, false] ⟨12, [(1, .obj b1 ((Log.c l).map .r)), (2, .obj b2 [I 0, I 0, .r (.v (.slice none 0 0))]), (3, .pt 1 b1 0), (5, .pt 1 b1 1), (9, .r (sl 3 Entry.c l.entries))]⟩ K := by
   refine RA.of hall (RA.step (L := [1, 3, 4]) (by kernel_rfl) (by simp) (RA.each ?_ (RA.each ?_ (RA.each ?_ (RA.each0)))))
   ·skip
    refine RO.v rfl rfl (V.loadPrim (d := I l.start) rfl rfl (.inl rfl) rfl rfl rfl) rfl ?_
    exact RA.to hall (RA.lr ro3_1110011000 rfl rfl)
   ·skip
    refine RO.v rfl rfl (V.loadPrim (d := I l.startTerm) rfl rfl (.inl rfl) rfl rfl rfl) rfl ?_
    exact RA.to hall (RA.lr ro3_1011011000 rfl rfl)
   ·skip
    refine RO.build0 Entry.c rfl rfl rfl rfl rfl rfl rfl fun Xo3_4_1 => ?_
    exact RA.to hall (RA.lr (ro3_1010111000 Xo3_4_1) rfl rfl)
  have ro3_1010110000 : ∀ (Xo3_4_1 : Value), RA E B all 6 #[true, false, true, false, true, true, false, false, false, false] ⟨12, [(1, .obj b1 ((Log.c l).map .r)), (2, .obj b2 [I 0, I 0, .r (.v (.slice none 0 0))]), (3, .pt 1 b1 0), (5, .pt 1 b1 1), (7, .w (sl 3 Entry.c ([] : List Entry)) Xo3_4_1), (8, .pt 1 b1 2)]⟩ K := by
   intro Xo3_4_1
   refine RA.of hall (RA.step (L := [1, 3, 6]) (by kernel_rfl) (by simp) (RA.each ?_ (RA.each ?_ (RA.each ?_ (RA.each0)))))
   ·skip
    refine RO.v rfl rfl (V.loadPrim (d := I l.start) rfl rfl (.inl rfl) rfl rfl rfl) rfl ?_
    exact RA.to hall (RA.lr (ro3_1110110000 Xo3_4_1) rfl rfl)
   ·skip
    refine RO.v rfl rfl (V.loadPrim (d := I l.startTerm) rfl rfl (.inl rfl) rfl rfl rfl) rfl ?_
    exact RA.to hall (RA.lr (ro3_1011110000 Xo3_4_1) rfl rfl)
   ·skip
    refine RO.v rfl rfl (V.loadPrim (d := .r (sl 3 Entry.c l.entries)) rfl rfl (.inr ⟨_, rfl⟩) rfl rfl rfl) rfl ?_
    exact RA.to hall (RA.lr (ro3_1010111000 Xo3_4_1) rfl rfl)
  have ro3_1011010000 : RA E B all 6 #[true, false, true, true, false, true, false, false, false, false] ⟨12, [(1, .obj b1 ((Log.c l).map .r)), (2, .obj b2 [I 0, I 0, .r (.v (.slice none 0 0))]), (3, .pt 1 b1 0), (6, I l.startTerm), (8, .pt 1 b1 2)]⟩ K := by
   refine RA.of hall (RA.step (L := [1, 4, 6]) (by kernel_rfl) (by simp) (RA.each ?_ (RA.each ?_ (RA.each ?_ (RA.each0)))))
   ·skip
    refine RO.v rfl rfl (V.loadPrim (d := I l.start) rfl rfl (.inl rfl) rfl rfl rfl) rfl ?_
    exact RA.to hall (RA.lr ro3_1111010000 rfl rfl)
   ·skip
    refine RO.build0 Entry.c rfl rfl rfl rfl rfl rfl rfl fun Xo3_4_1 => ?_
    exact RA.to hall (RA.lr (ro3_1011110000 Xo3_4_1) rfl rfl)
   ·skip
    refine RO.v rfl rfl (V.loadPrim (d := .r (sl 3 Entry.c l.entries)) rfl rfl (.inr ⟨_, rfl⟩) rfl rfl rfl) rfl ?_
    exact RA.to hall (RA.lr ro3_1011011000 rfl rfl)
  have ro3_1011100000 : ∀ (Xo3_4_1 : Value), RA E B all 6 #[true, false, true, true, true, false, false, false, false, false] ⟨12, [(1, .obj b1 ((Log.c l).map .r)), (2, .obj b2 [I 0, I 0, .r (.v (.slice none 0 0))]), (3, .pt 1 b1 0), (6, I l.startTerm), (7, .w (sl 3 Entry.c ([] : List Entry)) Xo3_4_1)]⟩ K := by
   intro Xo3_4_1
   refine RA.of hall (RA.step (L := [1, 5]) (by kernel_rfl) (by simp) (RA.each ?_ (RA.each ?_ (RA.each0))))
   ·skip
    refine RO.v rfl rfl (V.loadPrim (d := I l.start) rfl rfl (.inl rfl) rfl rfl rfl) rfl ?_
    exact RA.to hall (RA.lr (ro3_1111100000 Xo3_4_1) rfl rfl)
   ·skip
    refine RO.v rfl rfl (V.field rfl rfl rfl rfl (by decide) rfl) rfl ?_
    exact RA.to hall (RA.lr (ro3_1011110000 Xo3_4_1) rfl rfl)
  have ro3_1100011000 : RA E B all 6 #[true, true, false, false, false, true, true, false, false, false] ⟨12, [(1, .obj b1 ((Log.c l).map .r)), (2, .obj b2 [I 0, I 0, .r (.v (.slice none 0 0))]), (4, I l.start), (9, .r (sl 3 Entry.c l.entries))]⟩ K := by
   refine RA.of hall (RA.step (L := [2, 4]) (by kernel_rfl) (by simp) (RA.each ?_ (RA.each ?_ (RA.each0))))
   ·skip
    refine RO.v rfl rfl (V.field rfl rfl rfl rfl (by decide) rfl) rfl ?_
    exact RA.to hall (RA.lr ro3_1110011000 rfl rfl)
   ·skip
    refine RO.build0 Entry.c rfl rfl rfl rfl rfl rfl rfl fun Xo3_4_1 => ?_
    exact RA.to hall (RA.lr (ro3_1100111000 Xo3_4_1) rfl rfl)
  have ro3_1100110000 : ∀ (Xo3_4_1 : Value), RA E B all 6 #[true, true, false, false, true, true, false, false, false, false] ⟨12, [(1, .obj b1 ((Log.c l).map .r)), (2, .obj b2 [I 0, I 0, .r (.v (.slice none 0 0))]), (4, I l.start), (7, .w (sl 3 Entry.c ([] : List Entry)) Xo3_4_1), (8, .pt 1 b1 2)]⟩ K := by
   intro Xo3_4_1
   refine RA.of hall (RA.step (L := [2, 6]) (by kernel_rfl) (by simp) (RA.each ?_ (RA.each ?_ (RA.each0))))
   ·skip
    refine RO.v rfl rfl (V.field rfl rfl rfl rfl (by decide) rfl) rfl ?_
    exact RA.to hall (RA.lr (ro3_1110110000 Xo3_4_1) rfl rfl)
   ·skip
    refine RO.v rfl rfl (V.loadPrim (d := .r (sl 3 Entry.c l.entries)) rfl rfl (.inr ⟨_, rfl⟩) rfl rfl rfl) rfl ?_
    exact RA.to hall (RA.lr (ro3_1100111000 Xo3_4_1) rfl rfl)
  have ro3_1110010000 : RA E B all 6 #[true, true, true, false, false, true, false, false, false, false] ⟨12, [(1, .obj b1 ((Log.c l).map .r)), (2, .obj b2 [I 0, I 0, .r (.v (.slice none 0 0))]), (4, I l.start), (5, .pt 1 b1 1), (8, .pt 1 b1 2)]⟩ K := by
   refine RA.of hall (RA.step (L := [3, 4, 6]) (by kernel_rfl) (by simp) (RA.each ?_ (RA.each ?_ (RA.each ?_ (RA.each0)))))
   ·skip
    refine RO.v rfl rfl (V.loadPrim (d := I l.startTerm) rfl rfl (.inl rfl) rfl rfl rfl) rfl ?_
    exact RA.to hall (RA.lr ro3_1111010000 rfl rfl)
   ·skip
    refine RO.build0 Entry.c rfl rfl rfl rfl rfl rfl rfl fun Xo3_4_1 => ?_
    exact RA.to hall (RA.lr (ro3_1110110000 Xo3_4_1) rfl rfl)
   ·skip
    refine RO.v rfl rfl (V.loadPrim (d := .r (sl 3 Entry.c l.entries)) rfl rfl (.inr ⟨_, rfl⟩) rfl rfl rfl) rfl ?_
    exact RA.to hall (RA.lr ro3_1110011000 rfl rfl)
  have ro3_1110100000 : ∀ (Xo3_4_1 : Value), RA E B all 6 #[true, true, true, false, true, false, false, false, false, false] ⟨12, [(1, .obj b1 ((Log.c l).map .r)), (2, .obj b2 [I 0, I 0, .r (.v (.slice none 0 0))]), (4, I l.start), (5, .pt 1 b1 1), (7, .w (sl 3 Entry.c ([] : List Entry)) Xo3_4_1)]⟩ K := by
   intro Xo3_4_1
   refine RA.of hall (RA.step (L := [3, 5]) (by kernel_rfl) (by simp) (RA.each ?_ (RA.each ?_ (RA.each0))))
   ·skip
    refine RO.v rfl rfl (V.loadPrim (d := I l.startTerm) rfl rfl (.inl rfl) rfl rfl rfl) rfl ?_
    exact RA.to hall (RA.lr (ro3_1111100000 Xo3_4_1) rfl rfl)
   ·skip
    refine RO.v rfl rfl (V.field rfl rfl rfl rfl (by decide) rfl) rfl ?_
    exact RA.to hall (RA.lr (ro3_1110110000 Xo3_4_1) rfl rfl)
  have ro3_1111000000 : RA E B all 6 #[true, true, true, true, false, false, false, false, false, false] ⟨12, [(1, .obj b1 ((Log.c l).map .r)), (2, .obj b2 [I 0, I 0, .r (.v (.slice none 0 0))]), (4, I l.start), (6, I l.startTerm)]⟩ K := by
   refine RA.of hall (RA.step (L := [4, 5]) (by kernel_rfl) (by simp) (RA.each ?_ (RA.each ?_ (RA.each0))))
   ·skip
    refine RO.build0 Entry.c rfl rfl rfl rfl rfl rfl rfl fun Xo3_4_1 => ?_
    exact RA.to hall (RA.lr (ro3_1111100000 Xo3_4_1) rfl rfl)
   ·skip
    refine RO.v rfl rfl (V.field rfl rfl rfl rfl (by decide) rfl) rfl ?_
    exact RA.to hall (RA.lr ro3_1111010000 rfl rfl)
  have ro3_0000111000 : ∀ (Xo3_4_1 : Value), RA E B all 7 #[false, false, false, false, true, true, true, false, false, false] ⟨12, [(1, .obj b1 ((Log.c l).map .r)), (2, .obj b2 [I 0, I 0, .r (.v (.slice none 0 0))]), (7, .w (sl 3 Entry.c ([] : List Entry)) Xo3_4_1), (9, .r (sl 3 Entry.c l.entries))]⟩ K := by
   intro Xo3_4_1
   refine RA.of hall (RA.step (L := [0, 2, 7]) (by kernel_rfl) (by simp) (RA.each ?_ (RA.each ?_ (RA.each ?_ (RA.each0)))))
   ·skip
    refine RO.v rfl rfl (V.field rfl rfl rfl rfl (by decide) rfl) rfl ?_
    exact RA.to hall (RA.lr (ro3_1000111000 Xo3_4_1) rfl rfl)
   ·skip
    refine RO.v rfl rfl (V.field rfl rfl rfl rfl (by decide) rfl) rfl ?_
    exact RA.to hall (RA.lr (ro3_0010111000 Xo3_4_1) rfl rfl)
   ·skip
    refine RO.appendSR (c := Entry.c) (l1 := ([] : List Entry)) (l2 := l.entries) rfl rfl rfl rfl rfl rfl rfl rfl rfl rfl .r (by decide) (Nat.le_of_ble_eq_true rfl) Entry.len (fun _ => rfl) rfl (by have h1 := hok.1; simp only [maxLen, List.length_nil]; omega) (by have h1 := hok.1; simp only [maxLen, List.length_nil]; omega) fun Xo3_7_1 => ?_
    exact RA.to hall (RA.lr (ro3_0000111100 Xo3_4_1 Xo3_7_1) rfl rfl)
  have ro3_0010011000 : RA E B all 7 #[false, false, true, false, false, true, true, false, false, false] ⟨12, [(1, .obj b1 ((Log.c l).map .r)), (2, .obj b2 [I 0, I 0, .r (.v (.slice none 0 0))]), (5, .pt 1 b1 1), (9, .r (sl 3 Entry.c l.entries))]⟩ K := by
   refine RA.of hall (RA.step (L := [0, 3, 4]) (by kernel_rfl) (by simp) (RA.each ?_ (RA.each ?_ (RA.each ?_ (RA.each0)))))
   ·skip
    refine RO.v rfl rfl (V.field rfl rfl rfl rfl (by decide) rfl) rfl ?_
    exact RA.to hall (RA.lr ro3_1010011000 rfl rfl)
   ·skip
    refine RO.v rfl rfl (V.loadPrim (d := I l.startTerm) rfl rfl (.inl rfl) rfl rfl rfl) rfl ?_
    exact RA.to hall (RA.lr ro3_0011011000 rfl rfl)
   ·skip
    refine RO.build0 Entry.c rfl rfl rfl rfl rfl rfl rfl fun Xo3_4_1 => ?_
    exact RA.to hall (RA.lr (ro3_0010111000 Xo3_4_1) rfl rfl)
  have ro3_0010110000 : ∀ (Xo3_4_1 : Value), RA E B all 7 #[false, false, true, false, true, true, false, false, false, false] ⟨12, [(1, .obj b1 ((Log.c l).map .r)), (2, .obj b2 [I 0, I 0, .r (.v (.slice none 0 0))]), (5, .pt 1 b1 1), (7, .w (sl 3 Entry.c ([] : List Entry)) Xo3_4_1), (8, .pt 1 b1 2)]⟩ K := by
   intro Xo3_4_1
   refine RA.of hall (RA.step (L := [0, 3, 6]) (by kernel_rfl) (by simp) (RA.each ?_ (RA.each ?_ (RA.each ?_ (RA.each0)))))
   ·skip
    refine RO.v rfl rfl (V.field rfl rfl rfl rfl (by decide) rfl) rfl ?_
    exact RA.to hall (RA.lr (ro3_1010110000 Xo3_4_1) rfl rfl)
   ·skip
    refine RO.v rfl rfl (V.loadPrim (d := I l.startTerm) rfl rfl (.inl rfl) rfl rfl rfl) rfl ?_
    exact RA.to hall (RA.lr (ro3_0011110000 Xo3_4_1) rfl rfl)
   ·skip
    refine RO.v rfl rfl (V.loadPrim (d := .r (sl 3 Entry.c l.entries)) rfl rfl (.inr ⟨_, rfl⟩) rfl rfl rfl) rfl ?_
    exact RA.to hall (RA.lr (ro3_0010111000 Xo3_4_1) rfl rfl)
  have ro3_0011010000 : RA E B all 7 #[false, false, true, true, false, true, false, false, false, false] ⟨12, [(1, .obj b1 ((Log.c l).map .r)), (2, .obj b2 [I 0, I 0, .r (.v (.slice none 0 0))]), (6, I l.startTerm), (8, .pt 1 b1 2)]⟩ K := by
   refine RA.of hall (RA.step (L := [0, 4, 6]) (by kernel_rfl) (by simp) (RA.each ?_ (RA.each ?_ (RA.each ?_ (RA.each0)))))
   ·skip
    refine RO.v rfl rfl (V.field rfl rfl rfl rfl (by decide) rfl) rfl ?_
    exact RA.to hall (RA.lr ro3_1011010000 rfl rfl)
   ·skip
    refine RO.build0 Entry.c rfl rfl rfl rfl rfl rfl rfl fun Xo3_4_1 => ?_
    exact RA.to hall (RA.lr (ro3_0011110000 Xo3_4_1) rfl rfl)
   ·skip
    refine RO.v rfl rfl (V.loadPrim (d := .r (sl 3 Entry.c l.entries)) rfl rfl (.inr ⟨_, rfl⟩) rfl rfl rfl) rfl ?_
    exact RA.to hall (RA.lr ro3_0011011000 rfl rfl)
  have ro3_0011100000 : ∀ (Xo3_4_1 : Value), RA E B all 7 #[false, false, true, true, true, false, false, false, false, false] ⟨12, [(1, .obj b1 ((Log.c l).map .r)), (2, .obj b2 [I 0, I 0, .r (.v (.slice none 0 0))]), (6, I l.startTerm), (7, .w (sl 3 Entry.c ([] : List Entry)) Xo3_4_1)]⟩ K := by
   intro Xo3_4_1
   refine RA.of hall (RA.step (L := [0, 5]) (by kernel_rfl) (by simp) (RA.each ?_ (RA.each ?_ (RA.each0))))
   ·skip
    refine RO.v rfl rfl (V.field rfl rfl rfl rfl (by decide) rfl) rfl ?_
    exact RA.to hall (RA.lr (ro3_1011100000 Xo3_4_1) rfl rfl)
   ·skip
    refine RO.v rfl rfl (V.field rfl rfl rfl rfl (by decide) rfl) rfl ?_
    exact RA.to hall (RA.lr (ro3_0011110000 Xo3_4_1) rfl rfl)
  have ro3_1000011000 : RA E B all 7 #[true, false, false, false, false, true, true, false, false, false] ⟨12, [(1, .obj b1 ((Log.c l).map .r)), (2, .obj b2 [I 0, I 0, .r (.v (.slice none 0 0))]), (3, .pt 1 b1 0), (9, .r (sl 3 Entry.c l.entries))]⟩ K := by
   refine RA.of hall (RA.step (L := [1, 2, 4]) (by kernel_rfl) (by simp) (RA.each ?_ (RA.each ?_ (RA.each ?_ (RA.each0)))))
   ·skip
    refine RO.v rfl rfl (V.loadPrim (d := I l.start) rfl rfl (.inl rfl) rfl rfl rfl) rfl ?_
    exact RA.to hall (RA.lr ro3_1100011000 rfl rfl)
   ·skip
    refine RO.v rfl rfl (V.field rfl rfl rfl rfl (by decide) rfl) rfl ?_
    exact RA.to hall (RA.lr ro3_1010011000 rfl rfl)
   ·skip
    refine RO.build0 Entry.c rfl rfl rfl rfl rfl rfl rfl fun Xo3_4_1 => ?_
    exact RA.to hall (RA.lr (ro3_1000111000 Xo3_4_1) rfl rfl)
  have ro3_1000110000 : ∀ (Xo3_4_1 : Value), RA E B all 7 #[true, false, false, false, true, true, false, false, false, false] ⟨12, [(1, .obj b1 ((Log.c l).map .r)), (2, .obj b2 [I 0, I 0, .r (.v (.slice none 0 0))]), (3, .pt 1 b1 0), (7, .w (sl 3 Entry.c ([] : List Entry)) Xo3_4_1), (8, .pt 1 b1 2)]⟩ K := by
   intro Xo3_4_1
   refine RA.of hall (RA.step (L := [1, 2, 6]) (by kernel_rfl) (by simp) (RA.each ?_ (RA.each ?_ (RA.each ?_ (RA.each0)))))
   ·skip
    refine RO.v rfl rfl (V.loadPrim (d := I l.start) rfl rfl (.inl rfl) rfl rfl rfl) rfl ?_
    exact RA.to hall (RA.lr (ro3_1100110000 Xo3_4_1) rfl rfl)
   ·skip
    refine RO.v rfl rfl (V.field rfl rfl rfl rfl (by decide) rfl) rfl ?_
    exact RA.to hall (RA.lr (ro3_1010110000 Xo3_4_1) rfl rfl)
   ·skip
    refine RO.v rfl rfl (V.loadPrim (d := .r (sl 3 Entry.c l.entries)) rfl rfl (.inr ⟨_, rfl⟩) rfl rfl rfl) rfl ?_
    exact RA.to hall (RA.lr (ro3_1000111000 Xo3_4_1) rfl rfl)
  have ro3_1010010000 : RA E B all 7 #[true, false, true, false, false, true, false, false, false, false] ⟨12, [(1, .obj b1 ((Log.c l).map .r)), (2, .obj b2 [I 0, I 0, .r (.v (.slice none 0 0))]), (3, .pt 1 b1 0), (5, .pt 1 b1 1), (8, .pt 1 b1 2)]⟩ K := by
   refine RA.of hall (RA.step (L := [1, 3, 4, 6]) (by kernel_rfl) (by simp) (RA.each ?_ (RA.each ?_ (RA.each ?_ (RA.each ?_ (RA.each0))))))
   ·skip
    refine RO.v rfl rfl (V.loadPrim (d := I l.start) rfl rfl (.inl rfl) rfl rfl rfl) rfl ?_
    exact RA.to hall (RA.lr ro3_1110010000 rfl rfl)
   ·skip
    refine RO.v rfl rfl (V.loadPrim (d := I l.startTerm) rfl rfl (.inl rfl) rfl rfl rfl) rfl ?_
    exact RA.to hall (RA.lr ro3_1011010000 rfl rfl)
   ·skip
    refine RO.build0 Entry.c rfl rfl rfl rfl rfl rfl rfl fun Xo3_4_1 => ?_
    exact RA.to hall (RA.lr (ro3_1010110000 Xo3_4_1) rfl rfl)
   ·skip
    refine RO.v rfl rfl (V.loadPrim (d := .r (sl 3 Entry.c l.entries)) rfl rfl (.inr ⟨_, rfl⟩) rfl rfl rfl) rfl ?_
    exact RA.to hall (RA.lr ro3_1010011000 rfl rfl)
  have ro3_1010100000 : ∀ (Xo3_4_1 : Value), RA E B all 7 #[true, false, true, false, true, false, false, false, false, false] ⟨12, [(1, .obj b1 ((Log.c l).map .r)), (2, .obj b2 [I 0, I 0, .r (.v (.slice none 0 0))]), (3, .pt 1 b1 0), (5, .pt 1 b1 1), (7, .w (sl 3 Entry.c ([] : List Entry)) Xo3_4_1)]⟩ K := by
   intro Xo3_4_1
   refine RA.of hall (RA.step (L := [1, 3, 5]) (by kernel_rfl) (by simp) (RA.each ?_ (RA.each ?_ (RA.each ?_ (RA.each0)))))
   ·skip
    refine RO.v rfl rfl (V.loadPrim (d := I l.start) rfl rfl (.inl rfl) rfl rfl rfl) rfl ?_
    exact RA.to hall (RA.lr (ro3_1110100000 Xo3_4_1) rfl rfl)
   ·skip
    refine RO.v rfl rfl (V.loadPrim (d := I l.startTerm) rfl rfl (.inl rfl) rfl rfl rfl) rfl ?_
    exact RA.to hall (RA.lr (ro3_1011100000 Xo3_4_1) rfl rfl)
   ·skip
    refine RO.v rfl rfl (V.field rfl rfl rfl rfl (by decide) rfl) rfl ?_
    exact RA.to hall (RA.lr (ro3_1010110000 Xo3_4_1) rfl rfl)
  have ro3_1011000000 : RA E B all 7 #[true, false, true, true, false, false, false, false, false, false] ⟨12, [(1, .obj b1 ((Log.c l).map .r)), (2, .obj b2 [I 0, I 0, .r (.v (.slice none 0 0))]), (3, .pt 1 b1 0), (6, I l.startTerm)]⟩ K := by
   refine RA.of hall (RA.step (L := [1, 4, 5]) (by kernel_rfl) (by simp) (RA.each ?_ (RA.each ?_ (RA.each ?_ (RA.each0)))))
   ·skip
    refine RO.v rfl rfl (V.loadPrim (d := I l.start) rfl rfl (.inl rfl) rfl rfl rfl) rfl ?_
    exact RA.to hall (RA.lr ro3_1111000000 rfl rfl)
   ·skip
    refine RO.build0 Entry.c rfl rfl rfl rfl rfl rfl rfl fun Xo3_4_1 => ?_
    exact RA.to hall (RA.lr (ro3_1011100000 Xo3_4_1) rfl rfl)
   ·skip
    refine RO.v rfl rfl (V.field rfl rfl rfl rfl (by decide) rfl) rfl ?_
    exact RA.to hall (RA.lr ro3_1011010000 rfl rfl)
  have ro3_1100010000 : RA E B all 7 #[true, true, false, false, false, true, false, false, false, false] ⟨12, [(1, .obj b1 ((Log.c l).map .r)), (2, .obj b2 [I 0, I 0, .r (.v (.slice none 0 0))]), (4, I l.start), (8, .pt 1 b1 2)]⟩ K := by
   refine RA.of hall (RA.step (L := [2, 4, 6]) (by kernel_rfl) (by simp) (RA.each ?_ (RA.each ?_ (RA.each ?_ (RA.each0)))))
   ·skip
    refine RO.v rfl rfl (V.field rfl rfl rfl rfl (by decide) rfl) rfl ?_
    exact RA.to hall (RA.lr ro3_1110010000 rfl rfl)
   ·skip
    refine RO.build0 Entry.c rfl rfl rfl rfl rfl rfl rfl fun Xo3_4_1 => ?_
    exact RA.to hall (RA.lr (ro3_1100110000 Xo3_4_1) rfl rfl)
   ·skip
    refine RO.v rfl rfl (V.loadPrim (d := .r (sl 3 Entry.c l.entries)) rfl rfl (.inr ⟨_, rfl⟩) rfl rfl rfl) rfl ?_
    exact RA.to hall (RA.lr ro3_1100011000 rfl rfl)
  have ro3_1100100000 : ∀ (Xo3_4_1 : Value), RA E B all 7 #[true, true, false, false, true, false, false, false, false, false] ⟨12, [(1, .obj b1 ((Log.c l).map .r)), (2, .obj b2 [I 0, I 0, .r (.v (.slice none 0 0))]), (4, I l.start), (7, .w (sl 3 Entry.c ([] : List Entry)) Xo3_4_1)]⟩ K := by
   intro Xo3_4_1
   refine RA.of hall (RA.step (L := [2, 5]) (by kernel_rfl) (by simp) (RA.each ?_ (RA.each ?_ (RA.each0))))
   ·skip
    refine RO.v rfl rfl (V.field rfl rfl rfl rfl (by decide) rfl) rfl ?_
    exact RA.to hall (RA.lr (ro3_1110100000 Xo3_4_1) rfl rfl)
   ·skip
    refine RO.v rfl rfl (V.field rfl rfl rfl rfl (by decide) rfl) rfl ?_
    exact RA.to hall (RA.lr (ro3_1100110000 Xo3_4_1) rfl rfl)
  have ro3_1110000000 : RA E B all 7 #[true, true, true, false, false, false, false, false, false, false] ⟨12, [(1, .obj b1 ((Log.c l).map .r)), (2, .obj b2 [I 0, I 0, .r (.v (.slice none 0 0))]), (4, I l.start), (5, .pt 1 b1 1)]⟩ K := by
   refine RA.of hall (RA.step (L := [3, 4, 5]) (by kernel_rfl) (by simp) (RA.each ?_ (RA.each ?_ (RA.each ?_ (RA.each0)))))
   ·skip
    refine RO.v rfl rfl (V.loadPrim (d := I l.startTerm) rfl rfl (.inl rfl) rfl rfl rfl) rfl ?_
    exact RA.to hall (RA.lr ro3_1111000000 rfl rfl)
   ·skip
    refine RO.build0 Entry.c rfl rfl rfl rfl rfl rfl rfl fun Xo3_4_1 => ?_
    exact RA.to hall (RA.lr (ro3_1110100000 Xo3_4_1) rfl rfl)
   ·skip
    refine RO.v rfl rfl (V.field rfl rfl rfl rfl (by decide) rfl) rfl ?_
    exact RA.to hall (RA.lr ro3_1110010000 rfl rfl)
  have ro3_0000011000 : RA E B all 8 #[false, false, false, false, false, true, true, false, false, false] ⟨12, [(1, .obj b1 ((Log.c l).map .r)), (2, .obj b2 [I 0, I 0, .r (.v (.slice none 0 0))]), (9, .r (sl 3 Entry.c l.entries))]⟩ K := by
   refine RA.of hall (RA.step (L := [0, 2, 4]) (by kernel_rfl) (by simp) (RA.each ?_ (RA.each ?_ (RA.each ?_ (RA.each0)))))
   ·skip
    refine RO.v rfl rfl (V.field rfl rfl rfl rfl (by decide) rfl) rfl ?_
    exact RA.to hall (RA.lr ro3_1000011000 rfl rfl)
   ·skip
    refine RO.v rfl rfl (V.field rfl rfl rfl rfl (by decide) rfl) rfl ?_
    exact RA.to hall (RA.lr ro3_0010011000 rfl rfl)
   ·skip
    refine RO.build0 Entry.c rfl rfl rfl rfl rfl rfl rfl fun Xo3_4_1 => ?_
    exact RA.to hall (RA.lr (ro3_0000111000 Xo3_4_1) rfl rfl)
  have ro3_0000110000 : ∀ (Xo3_4_1 : Value), RA E B all 8 #[false, false, false, false, true, true, false, false, false, false] ⟨12, [(1, .obj b1 ((Log.c l).map .r)), (2, .obj b2 [I 0, I 0, .r (.v (.slice none 0 0))]), (7, .w (sl 3 Entry.c ([] : List Entry)) Xo3_4_1), (8, .pt 1 b1 2)]⟩ K := by
   intro Xo3_4_1
   refine RA.of hall (RA.step (L := [0, 2, 6]) (by kernel_rfl) (by simp) (RA.each ?_ (RA.each ?_ (RA.each ?_ (RA.each0)))))
   ·skip
    refine RO.v rfl rfl (V.field rfl rfl rfl rfl (by decide) rfl) rfl ?_
    exact RA.to hall (RA.lr (ro3_1000110000 Xo3_4_1) rfl rfl)
   ·skip
    refine RO.v rfl rfl (V.field rfl rfl rfl rfl (by decide) rfl) rfl ?_
    exact RA.to hall (RA.lr (ro3_0010110000 Xo3_4_1) rfl rfl)
   ·skip
    refine RO.v rfl rfl (V.loadPrim (d := .r (sl 3 Entry.c l.entries)) rfl rfl (.inr ⟨_, rfl⟩) rfl rfl rfl) rfl ?_
    exact RA.to hall (RA.lr (ro3_0000111000 Xo3_4_1) rfl rfl)
  have ro3_0010010000 : RA E B all 8 #[false, false, true, false, false, true, false, false, false, false] ⟨12, [(1, .obj b1 ((Log.c l).map .r)), (2, .obj b2 [I 0, I 0, .r (.v (.slice none 0 0))]), (5, .pt 1 b1 1), (8, .pt 1 b1 2)]⟩ K := by
   refine RA.of hall (RA.step (L := [0, 3, 4, 6]) (by kernel_rfl) (by simp) (RA.each ?_ (RA.each ?_ (RA.each ?_ (RA.each ?_ (RA.each0))))))
   ·skip
    refine RO.v rfl rfl (V.field rfl rfl rfl rfl (by decide) rfl) rfl ?_
    exact RA.to hall (RA.lr ro3_1010010000 rfl rfl)
   ·skip
    refine RO.v rfl rfl (V.loadPrim (d := I l.startTerm) rfl rfl (.inl rfl) rfl rfl rfl) rfl ?_
    exact RA.to hall (RA.lr ro3_0011010000 rfl rfl)
   ·skip
    refine RO.build0 Entry.c rfl rfl rfl rfl rfl rfl rfl fun Xo3_4_1 => ?_
    exact RA.to hall (RA.lr (ro3_0010110000 Xo3_4_1) rfl rfl)
   ·skip
    refine RO.v rfl rfl (V.loadPrim (d := .r (sl 3 Entry.c l.entries)) rfl rfl (.inr ⟨_, rfl⟩) rfl rfl rfl) rfl ?_
    exact RA.to hall (RA.lr ro3_0010011000 rfl rfl)
  have ro3_0010100000 : ∀ (Xo3_4_1 : Value), RA E B all 8 #[false, false, true, false, true, false, false, false, false, false] ⟨12, [(1, .obj b1 ((Log.c l).map .r)), (2, .obj b2 [I 0, I 0, .r (.v (.slice none 0 0))]), (5, .pt 1 b1 1), (7, .w (sl 3 Entry.c ([] : List Entry)) Xo3_4_1)]⟩ K := by
   intro Xo3_4_1
   refine RA.of hall (RA.step (L := [0, 3, 5]) (by kernel_rfl) (by simp) (RA.each ?_ (RA.each ?_ (RA.each ?_ (RA.each0)))))
   ·skip
    refine RO.v rfl rfl (V.field rfl rfl rfl rfl (by decide) rfl) rfl ?_
    exact RA.to hall (RA.lr (ro3_1010100000 Xo3_4_1) rfl rfl)
   ·skip
    refine RO.v rfl rfl (V.loadPrim (d := I l.startTerm) rfl rfl (.inl rfl) rfl rfl rfl) rfl ?_
    exact RA.to hall (RA.lr (ro3_0011100000 Xo3_4_1) rfl rfl)
   ·skip
    refine RO.v rfl rfl (V.field rfl rfl rfl rfl (by decide) rfl) rfl ?_
    exact RA.to hall (RA.lr (ro3_0010110000 Xo3_4_1) rfl rfl)
  have ro3_0011000000 : RA E B all 8 #[false, false, true, true, false, false, false, false, false, false] ⟨12, [(1, .obj b1 ((Log.c l).map .r)), (2, .obj b2 [I 0, I 0, .r (.v (.slice none 0 0))]), (6, I l.startTerm)]⟩ K := by
   refine RA.of hall (RA.step (L := [0, 4, 5]) (by kernel_rfl) (by simp) (RA.each ?_ (RA.each ?_ (RA.each ?_ (RA.each0)))))
   ·skip
    refine RO.v rfl rfl (V.field rfl rfl rfl rfl (by decide) rfl) rfl ?_
    exact RA.to hall (RA.lr ro3_1011000000 rfl rfl)
   ·skip
    refine RO.build0 Entry.c rfl rfl rfl rfl rfl rfl rfl fun Xo3_4_1 => ?_
    exact RA.to hall (RA.lr (ro3_0011100000 Xo3_4_1) rfl rfl)
   ·skip
    refine RO.v rfl rfl (V.field rfl rfl rfl rfl (by decide) rfl) rfl ?_
    exact RA.to hall (RA.lr ro3_0011010000 rfl rfl)
  have ro3_1000010000 : RA E B all 8 #[true, false, false, false, false, true, false, false, false, false] ⟨12, [(1, .obj b1 ((Log.c l).map .r)), (2, .obj b2 [I 0, I 0, .r (.v (.slice none 0 0))]), (3, .pt 1 b1 0), (8, .pt 1 b1 2)]⟩ K := by
   refine RA.of hall (RA.step (L := [1, 2, 4, 6]) (by kernel_rfl) (by simp) (RA.each ?_ (RA.each ?_ (RA.each ?_ (RA.each ?_ (RA.each0))))))
   ·skip
    refine RO.v rfl rfl (V.loadPrim (d := I l.start) rfl rfl (.inl rfl) rfl rfl rfl) rfl ?_
    exact RA.to hall (RA.lr ro3_1100010000 rfl rfl)
   ·skip
    refine RO.v rfl rfl (V.field rfl rfl rfl rfl (by decide) rfl) rfl ?_
    exact RA.to hall (RA.lr ro3_1010010000 rfl rfl)
   ·skip
    refine RO.build0 Entry.c rfl rfl rfl rfl rfl rfl rfl fun Xo3_4_1 => ?_
    exact RA.to hall (RA.lr (ro3_1000110000 Xo3_4_1) rfl rfl)
   ·skip
    refine RO.v rfl rfl (V.loadPrim (d := .r (sl 3 Entry.c l.entries)) rfl rfl (.inr ⟨_, rfl⟩) rfl rfl rfl) rfl ?_
    exact RA.to hall (RA.lr ro3_1000011000 rfl rfl)
  have ro3_1000100000 : ∀ (Xo3_4_1 : Value), RA E B all 8 #[true, false, false, false, true, false, false, false, false, false] ⟨12, [(1, .obj b1 ((Log.c l).map .r)), (2, .obj b2 [I 0, I 0, .r (.v (.slice none 0 0))]), (3, .pt 1 b1 0), (7, .w (sl 3 Entry.c ([] : List Entry)) Xo3_4_1)]⟩ K := by
   intro Xo3_4_1
   refine RA.of hall (RA.step (L := [1, 2, 5]) (by kernel_rfl) (by simp) (RA.each ?_ (RA.each ?_ (RA.each ?_ (RA.each0)))))
   ·skip
    refine RO.v rfl rfl (V.loadPrim (d := I l.start) rfl rfl (.inl rfl) rfl rfl rfl) rfl ?_
    exact RA.to hall (RA.lr (ro3_1100100000 Xo3_4_1) rfl rfl)
   ·skip
    refine RO.v rfl rfl (V.field rfl rfl rfl rfl (by decide) rfl) rfl ?_
    exact RA.to hall (RA.lr (ro3_1010100000 Xo3_4_1) rfl rfl)
   ·skip
    refine RO.v rfl rfl (V.field rfl rfl rfl rfl (by decide) rfl) rfl ?_
    exact RA.to hall (RA.lr (ro3_1000110000 Xo3_4_1) rfl rfl)
  have ro3_1010000000 : RA E B all 8 #[true, false, true, false, false, false, false, false, false, false] ⟨12, [(1, .obj b1 ((Log.c l).map .r)), (2, .obj b2 [I 0, I 0, .r (.v (.slice none 0 0))]), (3, .pt 1 b1 0), (5, .pt 1 b1 1)]⟩ K := by
   refine RA.of hall (RA.step (L := [1, 3, 4, 5]) (by kernel_rfl) (by simp) (RA.each ?_ (RA.each ?_ (RA.each ?_ (RA.each ?_ (RA.each0))))))
   ·skip
    refine RO.v rfl rfl (V.loadPrim (d := I l.start) rfl rfl (.inl rfl) rfl rfl rfl) rfl ?_
    exact RA.to hall (RA.lr ro3_1110000000 rfl rfl)
   ·skip
    refine RO.v rfl rfl (V.loadPrim (d := I l.startTerm) rfl rfl (.inl rfl) rfl rfl rfl) rfl ?_
    exact RA.to hall (RA.lr ro3_1011000000 rfl rfl)
   ·skip
    refine RO.build0 Entry.c rfl rfl rfl rfl rfl rfl rfl fun Xo3_4_1 => ?_
    exact RA.to hall (RA.lr (ro3_1010100000 Xo3_4_1) rfl rfl)
   ·skip
    refine RO.v rfl rfl (V.field rfl rfl rfl rfl (by decide) rfl) rfl ?_
    exact RA.to hall (RA.lr ro3_1010010000 rfl rfl)
  have ro3_1100000000 : RA E B all 8 #[true, true, false, false, false, false, false, false, false, false] ⟨12, [(1, .obj b1 ((Log.c l).map .r)), (2, .obj b2 [I 0, I 0, .r (.v (.slice none 0 0))]), (4, I l.start)]⟩ K := by
   refine RA.of hall (RA.step (L := [2, 4, 5]) (by kernel_rfl) (by simp) (RA.each ?_ (RA.each ?_ (RA.each ?_ (RA.each0)))))
   ·skip
    refine RO.v rfl rfl (V.field rfl rfl rfl rfl (by decide) rfl) rfl ?_
    exact RA.to hall (RA.lr ro3_1110000000 rfl rfl)
   ·skip
    refine RO.build0 Entry.c rfl rfl rfl rfl rfl rfl rfl fun Xo3_4_1 => ?_
    exact RA.to hall (RA.lr (ro3_1100100000 Xo3_4_1) rfl rfl)
   ·skip
    refine RO.v rfl rfl (V.field rfl rfl rfl rfl (by decide) rfl) rfl ?_
    exact RA.to hall (RA.lr ro3_1100010000 rfl rfl)
  have ro3_0000010000 : RA E B all 9 #[false, false, false, false, false, true, false, false, false, false] ⟨12, [(1, .obj b1 ((Log.c l).map .r)), (2, .obj b2 [I 0, I 0, .r (.v (.slice none 0 0))]), (8, .pt 1 b1 2)]⟩ K := by
   refine RA.of hall (RA.step (L := [0, 2, 4, 6]) (by kernel_rfl) (by simp) (RA.each ?_ (RA.each ?_ (RA.each ?_ (RA.each ?_ (RA.each0))))))
   ·skip
    refine RO.v rfl rfl (V.field rfl rfl rfl rfl (by decide) rfl) rfl ?_
    exact RA.to hall (RA.lr ro3_1000010000 rfl rfl)
   ·skip
    refine RO.v rfl rfl (V.field rfl rfl rfl rfl (by decide) rfl) rfl ?_
    exact RA.to hall (RA.lr ro3_0010010000 rfl rfl)
   ·skip
    refine RO.build0 Entry.c rfl rfl rfl rfl rfl rfl rfl fun Xo3_4_1 => ?_
    exact RA.to hall (RA.lr (ro3_0000110000 Xo3_4_1) rfl rfl)
   ·skip
    refine RO.v rfl rfl (V.loadPrim (d := .r (sl 3 Entry.c l.entries)) rfl rfl (.inr ⟨_, rfl⟩) rfl rfl rfl) rfl ?_
    exact RA.to hall (RA.lr ro3_0000011000 rfl rfl)
  have ro3_0000100000 : ∀ (Xo3_4_1 : Value), RA E B all 9 #[false, false, false, false, true, false, false, false, false, false] ⟨12, [(1, .obj b1 ((Log.c l).map .r)), (2, .obj b2 [I 0, I 0, .r (.v (.slice none 0 0))]), (7, .w (sl 3 Entry.c ([] : List Entry)) Xo3_4_1)]⟩ K := by
   intro Xo3_4_1
   refine RA.of hall (RA.step (L := [0, 2, 5]) (by kernel_rfl) (by simp) (RA.each ?_ (RA.each ?_ (RA.each ?_ (RA.each0)))))
   ·skip
    refine RO.v rfl rfl (V.field rfl rfl rfl rfl (by decide) rfl) rfl ?_
    exact RA.to hall (RA.lr (ro3_1000100000 Xo3_4_1) rfl rfl)
   ·skip
    refine RO.v rfl rfl (V.field rfl rfl rfl rfl (by decide) rfl) rfl ?_
    exact RA.to hall (RA.lr (ro3_0010100000 Xo3_4_1) rfl rfl)
   ·skip
    refine RO.v rfl rfl (V.field rfl rfl rfl rfl (by decide) rfl) rfl ?_
    exact RA.to hall (RA.lr (ro3_0000110000 Xo3_4_1) rfl rfl)
  have ro3_0010000000 : RA E B all 9 #[false, false, true, false, false, false, false, false, false, false] ⟨12, [(1, .obj b1 ((Log.c l).map .r)), (2, .obj b2 [I 0, I 0, .r (.v (.slice none 0 0))]), (5, .pt 1 b1 1)]⟩ K := by
   refine RA.of hall (RA.step (L := [0, 3, 4, 5]) (by kernel_rfl) (by simp) (RA.each ?_ (RA.each ?_ (RA.each ?_ (RA.each ?_ (RA.each0))))))
   ·skip
    refine RO.v rfl rfl (V.field rfl rfl rfl rfl (by decide) rfl) rfl ?_
    exact RA.to hall (RA.lr ro3_1010000000 rfl rfl)
   ·skip
    refine RO.v rfl rfl (V.loadPrim (d := I l.startTerm) rfl rfl (.inl rfl) rfl rfl rfl) rfl ?_
    exact RA.to hall (RA.lr ro3_0011000000 rfl rfl)
   ·skip
    refine RO.build0 Entry.c rfl rfl rfl rfl rfl rfl rfl fun Xo3_4_1 => ?_
    exact RA.to hall (RA.lr (ro3_0010100000 Xo3_4_1) rfl rfl)
   ·skip
    refine RO.v rfl rfl (V.field rfl rfl rfl rfl (by decide) rfl) rfl ?_
    exact RA.to hall (RA.lr ro3_0010010000 rfl rfl)
  have ro3_1000000000 : RA E B all 9 #[true, false, false, false, false, false, false, false, false, false] ⟨12, [(1, .obj b1 ((Log.c l).map .r)), (2, .obj b2 [I 0, I 0, .r (.v (.slice none 0 0))]), (3, .pt 1 b1 0)]⟩ K := by
   refine RA.of hall (RA.step (L := [1, 2, 4, 5]) (by kernel_rfl) (by simp) (RA.each ?_ (RA.each ?_ (RA.each ?_ (RA.each ?_ (RA.each0))))))
   ·skip
    refine RO.v rfl rfl (V.loadPrim (d := I l.start) rfl rfl (.inl rfl) rfl rfl rfl) rfl ?_
    exact RA.to hall (RA.lr ro3_1100000000 rfl rfl)
   ·skip
    refine RO.v rfl rfl (V.field rfl rfl rfl rfl (by decide) rfl) rfl ?_
    exact RA.to hall (RA.lr ro3_1010000000 rfl rfl)
   ·skip
    refine RO.build0 Entry.c rfl rfl rfl rfl rfl rfl rfl fun Xo3_4_1 => ?_
    exact RA.to hall (RA.lr (ro3_1000100000 Xo3_4_1) rfl rfl)
   ·skip
    refine RO.v rfl rfl (V.field rfl rfl rfl rfl (by decide) rfl) rfl ?_
    exact RA.to hall (RA.lr ro3_1000010000 rfl rfl)
  have ro3_0000000000 : RA E B all 10 #[false, false, false, false, false, false, false, false, false, false] ⟨12, [(1, .obj b1 ((Log.c l).map .r)), (2, .obj b2 [I 0, I 0, .r (.v (.slice none 0 0))])]⟩ K := by
   refine RA.of hall (RA.step (L := [0, 2, 4, 5]) (by kernel_rfl) (by simp) (RA.each ?_ (RA.each ?_ (RA.each ?_ (RA.each ?_ (RA.each0))))))
   ·skip
    refine RO.v rfl rfl (V.field rfl rfl rfl rfl (by decide) rfl) rfl ?_
    exact RA.to hall (RA.lr ro3_1000000000 rfl rfl)
   ·skip
    refine RO.v rfl rfl (V.field rfl rfl rfl rfl (by decide) rfl) rfl ?_
    exact RA.to hall (RA.lr ro3_0010000000 rfl rfl)
   ·skip
    refine RO.build0 Entry.c rfl rfl rfl rfl rfl rfl rfl fun Xo3_4_1 => ?_
    exact RA.to hall (RA.lr (ro3_0000100000 Xo3_4_1) rfl rfl)
   ·skip
    refine RO.v rfl rfl (V.field rfl rfl rfl rfl (by decide) rfl) rfl ?_
    exact RA.to hall (RA.lr ro3_0000010000 rfl rfl)
  exact RA.start (by kernel_rfl) (by kernel_rfl) (RA.lr ro3_0000000000 rfl rfl)
 ·rintro ⟨Xo3_4_1, Xo3_7_1⟩
  refine CW.ret ?_
  exact Post.one (RV.c (f := fun e => (Log.c e).map .w) (e' := (⟨l.start, l.startTerm, (([] : List Entry) ++ l.entries)⟩ : Log)) rfl rfl rfl rfl (DT.v (DT.v (DT.w DT.e))) (by rfl)) (AOs.a rfl AOs.e)
set_option maxHeartbeats 4000000 in
theorem impl_copyNode_fn (n : Node) (hok : okToNode n) : Eng.Fn E.P 85 [.agg ((Node.c n).map .r)] (.one (.agg ((Node.c n).map .w))) [.agg ((Node.c n).map .r)] := by
 refine Eng.Fn.intro (E := E) (rvs := [.cell 2 47]) Try.func85 rfl rfl rfl (by simp [outSlots, moved, rvSlot, sl]) ?_
 intro B g bo
 refine CW.le [(0, .agg ((Node.c n).map .r))] rfl (Le.of rfl) ?_
 refine CW.seq ?_
 refine CW.region ?_
 refine RW.box (ds := ((Node.c n).map .r)) rfl rfl rfl fun b1 => ?_
 refine RW.alloc (ds := [I 0, I 0, I 0, I 0, I 0, .r (.v (.slice none 0 0)), I 0, I 0, .r (.v (.slice none 0 0)), I 0, I 0, I 0, .r (.v (.slice none 0 0)), .r (.v (.slice none 0 0))]) rfl rfl rfl rfl fun b2 => ?_
 refine RW.nil ?_
 refine CW.le [(1, .obj b1 ((Node.c n).map .r)), (2, .obj b2 [I 0, I 0, I 0, I 0, I 0, .r (.v (.slice none 0 0)), I 0, I 0, .r (.v (.slice none 0 0)), I 0, I 0, I 0, .r (.v (.slice none 0 0)), .r (.v (.slice none 0 0))])] rfl (Le.of rfl) ?_
 refine CW.anyJ 21 (fun (x : (Nat → Nat → Value) × (Nat → Nat → Value) × (Nat → Nat → Value)) => match x with | (go3_2_1, go3_5_1, go3_8_1) => [(1, .obj b1 [I n.id, I n.term_, I n.vote, I n.role, I n.lead, .w (sl 1 cI n.conf) (go3_2_1 0 0), I n.log.start, I n.log.startTerm, .w (sl 3 Entry.c n.log.entries) (go3_5_1 0 2), I n.commit, I n.clock, I n.limit, .w (sl 1 cI n.votes) (go3_8_1 0 0), .r (sl 4 Peer.c n.peers)]), (2, .obj b2 [I 0, I 0, I 0, I 0, I 0, .r (.v (.slice none 0 0)), I 0, I 0, .r (.v (.slice none 0 0)), I 0, I 0, I 0, .r (.v (.slice none 0 0)), .r (.v (.slice none 0 0))])]) (fun all hall K hK => ?_) ?_
 ·skip
  have ro3_111111111111111 : ∀ (go3_2_1 : Nat → Nat → Value), ∀ (go3_5_1 : Nat → Nat → Value), ∀ (go3_8_1 : Nat → Nat → Value), RA E B all 0 #[true, true, true, true, true, true, true, true, true, true, true, true, true, true, true] ⟨21, [(1, .obj b1 [I n.id, I n.term_, I n.vote, I n.role, I n.lead, .w (sl 1 cI n.conf) (go3_2_1 0 0), I n.log.start, I n.log.startTerm, .w (sl 3 Entry.c n.log.entries) (go3_5_1 0 2), I n.commit, I n.clock, I n.limit, .w (sl 1 cI n.votes) (go3_8_1 0 0), .r (sl 4 Peer.c n.peers)]), (2, .obj b2 [I 0, I 0, I 0, I 0, I 0, .r (.v (.slice none 0 0)), I 0, I 0, .r (.v (.slice none 0 0)), I 0, I 0, I 0, .r (.v (.slice none 0 0)), .r (.v (.slice none 0 0))])]⟩ K := by
   intro go3_2_1 go3_5_1 go3_8_1
   exact RA.of hall (RA.fin (by kernel_rfl) (hK (go3_2_1, go3_5_1, go3_8_1) _ rfl (Le.of rfl)))
  have ro3_111111111111110 : ∀ (go3_2_1 : Nat → Nat → Value), ∀ (go3_5_1 : Nat → Nat → Value), ∀ (go3_8_1 : Nat → Nat → Value), RA E B all 1 #[true, true, true, true, true, true, true, true, true, true, true, true, true, true, false] ⟨21, [(1, .obj b1 [I n.id, I n.term_, I n.vote, I n.role, I n.lead, .w (sl 1 cI n.conf) (go3_2_1 0 0), I n.log.start, I n.log.startTerm, .w (sl 3 Entry.c n.log.entries) (go3_5_1 0 2), I n.commit, I n.clock, I n.limit, .r (sl 1 cI n.votes), .r (sl 4 Peer.c n.peers)]), (2, .obj b2 [I 0, I 0, I 0, I 0, I 0, .r (.v (.slice none 0 0)), I 0, I 0, .r (.v (.slice none 0 0)), I 0, I 0, I 0, .r (.v (.slice none 0 0)), .r (.v (.slice none 0 0))]), (11, .w (sl 1 cI n.votes) (go3_8_1 0 0)), (14, .pt 1 b1 12)]⟩ K := by
   intro go3_2_1 go3_5_1 go3_8_1
   refine RA.of hall (RA.step (L := [14]) (by kernel_rfl) (by simp) (RA.each ?_ (RA.each0)))
   ·skip
    refine RO.store (d := .al 11 none 1 n.votes.length (go3_8_1 0 0) 0) rfl rfl rfl rfl rfl rfl rfl rfl rfl (Nat.le_of_ble_eq_true rfl) rfl rfl ?_
    refine RA.le [(1, .obj b1 [I n.id, I n.term_, I n.vote, I n.role, I n.lead, .w (sl 1 cI n.conf) (go3_2_1 0 0), I n.log.start, I n.log.startTerm, .w (sl 3 Entry.c n.log.entries) (go3_5_1 0 2), I n.commit, I n.clock, I n.limit, .al 11 none 1 n.votes.length (go3_8_1 0 0) 0, .r (sl 4 Peer.c n.peers)]), (2, .obj b2 [I 0, I 0, I 0, I 0, I 0, .r (.v (.slice none 0 0)), I 0, I 0, .r (.v (.slice none 0 0)), I 0, I 0, I 0, .r (.v (.slice none 0 0)), .r (.v (.slice none 0 0))]), (11, .w (sl 1 cI n.votes) (go3_8_1 0 0))] rfl (Le.of rfl) ?_
    refine RA.pullT (k := 1) (l := 11) (j := 12) 1 11 12 rfl rfl rfl (by decide) rfl rfl rfl ?_
    refine RA.le [(1, .obj b1 [I n.id, I n.term_, I n.vote, I n.role, I n.lead, .w (sl 1 cI n.conf) (go3_2_1 0 0), I n.log.start, I n.log.startTerm, .w (sl 3 Entry.c n.log.entries) (go3_5_1 0 2), I n.commit, I n.clock, I n.limit, .w (sl 1 cI n.votes) (go3_8_1 0 0), .r (sl 4 Peer.c n.peers)]), (2, .obj b2 [I 0, I 0, I 0, I 0, I 0, .r (.v (.slice none 0 0)), I 0, I 0, .r (.v (.slice none 0 0)), I 0, I 0, I 0, .r (.v (.slice none 0 0)), .r (.v (.slice none 0 0))])] rfl (Le.of rfl) ?_
    exact RA.to hall (RA.lr (ro3_111111111111111 go3_2_1 go3_5_1 go3_8_1) rfl rfl)
  have ro3_111111111111100 : ∀ (go3_2_1 : Nat → Nat → Value), ∀ (go3_5_1 : Nat → Nat → Value), ∀ (go3_8_1 : Nat → Nat → Value), RA E B all 2 #[true, true, true, true, true, true, true, true, true, true, true, true, true, false, false] ⟨21, [(1, .obj b1 [I n.id, I n.term_, I n.vote, I n.role, I n.lead, .w (sl 1 cI n.conf) (go3_2_1 0 0), I n.log.start, I n.log.startTerm, .w (sl 3 Entry.c n.log.entries) (go3_5_1 0 2), I n.commit, I n.clock, I n.limit, .r (sl 1 cI n.votes), .r (sl 4 Peer.c n.peers)]), (2, .obj b2 [I 0, I 0, I 0, I 0, I 0, .r (.v (.slice none 0 0)), I 0, I 0, .r (.v (.slice none 0 0)), I 0, I 0, I 0, .r (.v (.slice none 0 0)), .r (.v (.slice none 0 0))]), (11, .w (sl 1 cI n.votes) (go3_8_1 0 0))]⟩ K := by
   intro go3_2_1 go3_5_1 go3_8_1
   refine RA.of hall (RA.step (L := [13]) (by kernel_rfl) (by simp) (RA.each ?_ (RA.each0)))
   ·skip
    refine RO.v rfl rfl (V.field rfl rfl rfl rfl (by decide) rfl) rfl ?_
    exact RA.to hall (RA.lr (ro3_111111111111110 go3_2_1 go3_5_1 go3_8_1) rfl rfl)
  have ro3_111111111111000 : ∀ (go3_2_1 : Nat → Nat → Value), ∀ (go3_5_1 : Nat → Nat → Value), ∀ (go3_8_1 : Nat → Nat → Value), RA E B all 3 #[true, true, true, true, true, true, true, true, true, true, true, true, false, false, false] ⟨21, [(1, .obj b1 [I n.id, I n.term_, I n.vote, I n.role, I n.lead, .w (sl 1 cI n.conf) (go3_2_1 0 0), I n.log.start, I n.log.startTerm, .r (sl 3 Entry.c n.log.entries), I n.commit, I n.clock, I n.limit, .r (sl 1 cI n.votes), .r (sl 4 Peer.c n.peers)]), (2, .obj b2 [I 0, I 0, I 0, I 0, I 0, .r (.v (.slice none 0 0)), I 0, I 0, .r (.v (.slice none 0 0)), I 0, I 0, I 0, .r (.v (.slice none 0 0)), .r (.v (.slice none 0 0))]), (8, .agg [I n.log.start, I n.log.startTerm, .w (sl 3 Entry.c n.log.entries) (go3_5_1 0 2)]), (11, .w (sl 1 cI n.votes) (go3_8_1 0 0)), (13, .pt 1 b1 6)]⟩ K := by
   intro go3_2_1 go3_5_1 go3_8_1
   refine RA.of hall (RA.step (L := [12]) (by kernel_rfl) (by simp) (RA.each ?_ (RA.each0)))
   ·skip
    refine RO.storeAgg (es := [I n.log.start, I n.log.startTerm, .al 8 (some 2) 3 n.log.entries.length (go3_5_1 0 2) 0]) rfl rfl rfl rfl rfl rfl rfl rfl rfl rfl (Nat.le_of_ble_eq_true rfl) rfl ?_
    refine RA.le [(1, .obj b1 [I n.id, I n.term_, I n.vote, I n.role, I n.lead, .w (sl 1 cI n.conf) (go3_2_1 0 0), I n.log.start, I n.log.startTerm, .al 8 (some 2) 3 n.log.entries.length (go3_5_1 0 2) 0, I n.commit, I n.clock, I n.limit, .r (sl 1 cI n.votes), .r (sl 4 Peer.c n.peers)]), (2, .obj b2 [I 0, I 0, I 0, I 0, I 0, .r (.v (.slice none 0 0)), I 0, I 0, .r (.v (.slice none 0 0)), I 0, I 0, I 0, .r (.v (.slice none 0 0)), .r (.v (.slice none 0 0))]), (8, .agg [I n.log.start, I n.log.startTerm, .w (sl 3 Entry.c n.log.entries) (go3_5_1 0 2)]), (11, .w (sl 1 cI n.votes) (go3_8_1 0 0))] rfl (Le.of rfl) ?_
    refine RA.pullA (k := 1) (l := 8) (j := 8) 1 8 8 rfl rfl rfl (by decide) rfl rfl rfl rfl ?_
    refine RA.le [(1, .obj b1 [I n.id, I n.term_, I n.vote, I n.role, I n.lead, .w (sl 1 cI n.conf) (go3_2_1 0 0), I n.log.start, I n.log.startTerm, .w (sl 3 Entry.c n.log.entries) (go3_5_1 0 2), I n.commit, I n.clock, I n.limit, .r (sl 1 cI n.votes), .r (sl 4 Peer.c n.peers)]), (2, .obj b2 [I 0, I 0, I 0, I 0, I 0, .r (.v (.slice none 0 0)), I 0, I 0, .r (.v (.slice none 0 0)), I 0, I 0, I 0, .r (.v (.slice none 0 0)), .r (.v (.slice none 0 0))]), (11, .w (sl 1 cI n.votes) (go3_8_1 0 0))] rfl (Le.of rfl) ?_
    exact RA.to hall (RA.lr (ro3_111111111111100 go3_2_1 go3_5_1 go3_8_1) rfl rfl)
  have ro3_111111111110000 : ∀ (go3_2_1 : Nat → Nat → Value), ∀ (go3_5_1 : Nat → Nat → Value), ∀ (go3_8_1 : Nat → Nat → Value), RA E B all 4 #[true, true, true, true, true, true, true, true, true, true, true, false, false, false, false] ⟨21, [(1, .obj b1 [I n.id, I n.term_, I n.vote, I n.role, I n.lead, .w (sl 1 cI n.conf) (go3_2_1 0 0), I n.log.start, I n.log.startTerm, .r (sl 3 Entry.c n.log.entries), I n.commit, I n.clock, I n.limit, .r (sl 1 cI n.votes), .r (sl 4 Peer.c n.peers)]), (2, .obj b2 [I 0, I 0, I 0, I 0, I 0, .r (.v (.slice none 0 0)), I 0, I 0, .r (.v (.slice none 0 0)), I 0, I 0, I 0, .r (.v (.slice none 0 0)), .r (.v (.slice none 0 0))]), (8, .agg [I n.log.start, I n.log.startTerm, .w (sl 3 Entry.c n.log.entries) (go3_5_1 0 2)]), (11, .w (sl 1 cI n.votes) (go3_8_1 0 0))]⟩ K := by
   intro go3_2_1 go3_5_1 go3_8_1
   refine RA.of hall (RA.step (L := [11]) (by kernel_rfl) (by simp) (RA.each ?_ (RA.each0)))
   ·skip
    refine RO.v rfl rfl (V.field rfl rfl rfl rfl (by decide) rfl) rfl ?_
    exact RA.to hall (RA.lr (ro3_111111111111000 go3_2_1 go3_5_1 go3_8_1) rfl rfl)
  have ro3_111111111100000 : ∀ (go3_2_1 : Nat → Nat → Value), ∀ (go3_5_1 : Nat → Nat → Value), ∀ (go3_8_1 : Nat → Nat → Value), RA E B all 5 #[true, true, true, true, true, true, true, true, true, true, false, false, false, false, false] ⟨21, [(1, .obj b1 ((Node.c n).map .r)), (2, .obj b2 [I 0, I 0, I 0, I 0, I 0, .r (.v (.slice none 0 0)), I 0, I 0, .r (.v (.slice none 0 0)), I 0, I 0, I 0, .r (.v (.slice none 0 0)), .r (.v (.slice none 0 0))]), (5, .w (sl 1 cI n.conf) (go3_2_1 0 0)), (8, .agg [I n.log.start, I n.log.startTerm, .w (sl 3 Entry.c n.log.entries) (go3_5_1 0 2)]), (11, .w (sl 1 cI n.votes) (go3_8_1 0 0)), (12, .pt 1 b1 5)]⟩ K := by
   intro go3_2_1 go3_5_1 go3_8_1
   refine RA.of hall (RA.step (L := [10]) (by kernel_rfl) (by simp) (RA.each ?_ (RA.each0)))
   ·skip
    refine RO.store (d := .al 5 none 1 n.conf.length (go3_2_1 0 0) 0) rfl rfl rfl rfl rfl rfl rfl rfl rfl (Nat.le_of_ble_eq_true rfl) rfl rfl ?_
    refine RA.le [(1, .obj b1 [I n.id, I n.term_, I n.vote, I n.role, I n.lead, .al 5 none 1 n.conf.length (go3_2_1 0 0) 0, I n.log.start, I n.log.startTerm, .r (sl 3 Entry.c n.log.entries), I n.commit, I n.clock, I n.limit, .r (sl 1 cI n.votes), .r (sl 4 Peer.c n.peers)]), (2, .obj b2 [I 0, I 0, I 0, I 0, I 0, .r (.v (.slice none 0 0)), I 0, I 0, .r (.v (.slice none 0 0)), I 0, I 0, I 0, .r (.v (.slice none 0 0)), .r (.v (.slice none 0 0))]), (5, .w (sl 1 cI n.conf) (go3_2_1 0 0)), (8, .agg [I n.log.start, I n.log.startTerm, .w (sl 3 Entry.c n.log.entries) (go3_5_1 0 2)]), (11, .w (sl 1 cI n.votes) (go3_8_1 0 0))] rfl (Le.of rfl) ?_
    refine RA.pullT (k := 1) (l := 5) (j := 5) 1 5 5 rfl rfl rfl (by decide) rfl rfl rfl ?_
    refine RA.le [(1, .obj b1 [I n.id, I n.term_, I n.vote, I n.role, I n.lead, .w (sl 1 cI n.conf) (go3_2_1 0 0), I n.log.start, I n.log.startTerm, .r (sl 3 Entry.c n.log.entries), I n.commit, I n.clock, I n.limit, .r (sl 1 cI n.votes), .r (sl 4 Peer.c n.peers)]), (2, .obj b2 [I 0, I 0, I 0, I 0, I 0, .r (.v (.slice none 0 0)), I 0, I 0, .r (.v (.slice none 0 0)), I 0, I 0, I 0, .r (.v (.slice none 0 0)), .r (.v (.slice none 0 0))]), (8, .agg [I n.log.start, I n.log.startTerm, .w (sl 3 Entry.c n.log.entries) (go3_5_1 0 2)]), (11, .w (sl 1 cI n.votes) (go3_8_1 0 0))] rfl (Le.of rfl) ?_
    exact RA.to hall (RA.lr (ro3_111111111110000 go3_2_1 go3_5_1 go3_8_1) rfl rfl)
  have ro3_111111110100000 : ∀ (go3_2_1 : Nat → Nat → Value), ∀ (go3_5_1 : Nat → Nat → Value), RA E B all 6 #[true, true, true, true, true, true, true, true, false, true, false, false, false, false, false] ⟨21, [(1, .obj b1 ((Node.c n).map .r)), (2, .obj b2 [I 0, I 0, I 0, I 0, I 0, .r (.v (.slice none 0 0)), I 0, I 0, .r (.v (.slice none 0 0)), I 0, I 0, I 0, .r (.v (.slice none 0 0)), .r (.v (.slice none 0 0))]), (5, .w (sl 1 cI n.conf) (go3_2_1 0 0)), (8, .agg [I n.log.start, I n.log.startTerm, .w (sl 3 Entry.c n.log.entries) (go3_5_1 0 2)]), (10, .r (sl 1 cI n.votes)), (12, .pt 1 b1 5)]⟩ K := by
   intro go3_2_1 go3_5_1
   refine RA.of hall (RA.step (L := [8]) (by kernel_rfl) (by simp) (RA.each ?_ (RA.each0)))
   ·skip
    refine RO.call rfl rfl (impl_copyInts_fn n.votes (by first | exact hok.1.1 | exact hok.2.2.1.1)) rfl (.cons (.one (.r .r)) (.nil)) rfl fun go3_8_1 => ?_
    exact RA.to hall (RA.lr (ro3_111111111100000 go3_2_1 go3_5_1 go3_8_1) rfl rfl)
  have ro3_111111111000000 : ∀ (go3_2_1 : Nat → Nat → Value), ∀ (go3_5_1 : Nat → Nat → Value), ∀ (go3_8_1 : Nat → Nat → Value), RA E B all 6 #[true, true, true, true, true, true, true, true, true, false, false, false, false, false, false] ⟨21, [(1, .obj b1 ((Node.c n).map .r)), (2, .obj b2 [I 0, I 0, I 0, I 0, I 0, .r (.v (.slice none 0 0)), I 0, I 0, .r (.v (.slice none 0 0)), I 0, I 0, I 0, .r (.v (.slice none 0 0)), .r (.v (.slice none 0 0))]), (5, .w (sl 1 cI n.conf) (go3_2_1 0 0)), (8, .agg [I n.log.start, I n.log.startTerm, .w (sl 3 Entry.c n.log.entries) (go3_5_1 0 2)]), (11, .w (sl 1 cI n.votes) (go3_8_1 0 0))]⟩ K := by
   intro go3_2_1 go3_5_1 go3_8_1
   refine RA.of hall (RA.step (L := [9]) (by kernel_rfl) (by simp) (RA.each ?_ (RA.each0)))
   ·skip
    refine RO.v rfl rfl (V.field rfl rfl rfl rfl (by decide) rfl) rfl ?_
    exact RA.to hall (RA.lr (ro3_111111111100000 go3_2_1 go3_5_1 go3_8_1) rfl rfl)
  have ro3_111110110100000 : ∀ (go3_2_1 : Nat → Nat → Value), RA E B all 7 #[true, true, true, true, true, false, true, true, false, true, false, false, false, false, false] ⟨21, [(1, .obj b1 ((Node.c n).map .r)), (2, .obj b2 [I 0, I 0, I 0, I 0, I 0, .r (.v (.slice none 0 0)), I 0, I 0, .r (.v (.slice none 0 0)), I 0, I 0, I 0, .r (.v (.slice none 0 0)), .r (.v (.slice none 0 0))]), (5, .w (sl 1 cI n.conf) (go3_2_1 0 0)), (7, .agg ((Log.c n.log).map .r)), (10, .r (sl 1 cI n.votes)), (12, .pt 1 b1 5)]⟩ K := by
   intro go3_2_1
   refine RA.of hall (RA.step (L := [5]) (by kernel_rfl) (by simp) (RA.each ?_ (RA.each0)))
   ·skip
    refine RO.call rfl rfl (impl_copyLog_fn n.log (hok.2.1)) rfl (.cons (.agg (.cons (.r .r) (.cons (.r .r) (.cons (.r .r) (.nil))))) (.nil)) rfl fun go3_5_1 => ?_
    exact RA.to hall (RA.lr (ro3_111111110100000 go3_2_1 go3_5_1) rfl rfl)
  have ro3_111111110000000 : ∀ (go3_2_1 : Nat → Nat → Value), ∀ (go3_5_1 : Nat → Nat → Value), RA E B all 7 #[true, true, true, true, true, true, true, true, false, false, false, false, false, false, false] ⟨21, [(1, .obj b1 ((Node.c n).map .r)), (2, .obj b2 [I 0, I 0, I 0, I 0, I 0, .r (.v (.slice none 0 0)), I 0, I 0, .r (.v (.slice none 0 0)), I 0, I 0, I 0, .r (.v (.slice none 0 0)), .r (.v (.slice none 0 0))]), (5, .w (sl 1 cI n.conf) (go3_2_1 0 0)), (8, .agg [I n.log.start, I n.log.startTerm, .w (sl 3 Entry.c n.log.entries) (go3_5_1 0 2)]), (10, .r (sl 1 cI n.votes))]⟩ K := by
   intro go3_2_1 go3_5_1
   refine RA.of hall (RA.step (L := [8, 9]) (by kernel_rfl) (by simp) (RA.each ?_ (RA.each ?_ (RA.each0))))
   ·skip
    refine RO.call rfl rfl (impl_copyInts_fn n.votes (by first | exact hok.1.1 | exact hok.2.2.1.1)) rfl (.cons (.one (.r .r)) (.nil)) rfl fun go3_8_1 => ?_
    exact RA.to hall (RA.lr (ro3_111111111000000 go3_2_1 go3_5_1 go3_8_1) rfl rfl)
   ·skip
    refine RO.v rfl rfl (V.field rfl rfl rfl rfl (by decide) rfl) rfl ?_
    exact RA.to hall (RA.lr (ro3_111111110100000 go3_2_1 go3_5_1) rfl rfl)
  have ro3_111110110000000 : ∀ (go3_2_1 : Nat → Nat → Value), RA E B all 8 #[true, true, true, true, true, false, true, true, false, false, false, false, false, false, false] ⟨21, [(1, .obj b1 ((Node.c n).map .r)), (2, .obj b2 [I 0, I 0, I 0, I 0, I 0, .r (.v (.slice none 0 0)), I 0, I 0, .r (.v (.slice none 0 0)), I 0, I 0, I 0, .r (.v (.slice none 0 0)), .r (.v (.slice none 0 0))]), (5, .w (sl 1 cI n.conf) (go3_2_1 0 0)), (7, .agg ((Log.c n.log).map .r)), (10, .r (sl 1 cI n.votes))]⟩ K := by
   intro go3_2_1
   refine RA.of hall (RA.step (L := [5, 9]) (by kernel_rfl) (by simp) (RA.each ?_ (RA.each ?_ (RA.each0))))
   ·skip
    refine RO.call rfl rfl (impl_copyLog_fn n.log (hok.2.1)) rfl (.cons (.agg (.cons (.r .r) (.cons (.r .r) (.cons (.r .r) (.nil))))) (.nil)) rfl fun go3_5_1 => ?_
    exact RA.to hall (RA.lr (ro3_111111110000000 go3_2_1 go3_5_1) rfl rfl)
   ·skip
    refine RO.v rfl rfl (V.field rfl rfl rfl rfl (by decide) rfl) rfl ?_
    exact RA.to hall (RA.lr (ro3_111110110100000 go3_2_1) rfl rfl)
  have ro3_111111100000000 : ∀ (go3_2_1 : Nat → Nat → Value), ∀ (go3_5_1 : Nat → Nat → Value), RA E B all 8 #[true, true, true, true, true, true, true, false, false, false, false, false, false, false, false] ⟨21, [(1, .obj b1 ((Node.c n).map .r)), (2, .obj b2 [I 0, I 0, I 0, I 0, I 0, .r (.v (.slice none 0 0)), I 0, I 0, .r (.v (.slice none 0 0)), I 0, I 0, I 0, .r (.v (.slice none 0 0)), .r (.v (.slice none 0 0))]), (5, .w (sl 1 cI n.conf) (go3_2_1 0 0)), (8, .agg [I n.log.start, I n.log.startTerm, .w (sl 3 Entry.c n.log.entries) (go3_5_1 0 2)]), (9, .pt 1 b1 12)]⟩ K := by
   intro go3_2_1 go3_5_1
   refine RA.of hall (RA.step (L := [7]) (by kernel_rfl) (by simp) (RA.each ?_ (RA.each0)))
   ·skip
    refine RO.v rfl rfl (V.loadPrim (d := .r (sl 1 cI n.votes)) rfl rfl (.inr ⟨_, rfl⟩) rfl rfl rfl) rfl ?_
    exact RA.to hall (RA.lr (ro3_111111110000000 go3_2_1 go3_5_1) rfl rfl)
  have ro3_110110110000000 : RA E B all 9 #[true, true, false, true, true, false, true, true, false, false, false, false, false, false, false] ⟨21, [(1, .obj b1 ((Node.c n).map .r)), (2, .obj b2 [I 0, I 0, I 0, I 0, I 0, .r (.v (.slice none 0 0)), I 0, I 0, .r (.v (.slice none 0 0)), I 0, I 0, I 0, .r (.v (.slice none 0 0)), .r (.v (.slice none 0 0))]), (4, .r (sl 1 cI n.conf)), (7, .agg ((Log.c n.log).map .r)), (10, .r (sl 1 cI n.votes))]⟩ K := by
   refine RA.of hall (RA.step (L := [2]) (by kernel_rfl) (by simp) (RA.each ?_ (RA.each0)))
   ·skip
    refine RO.call rfl rfl (impl_copyInts_fn n.conf (by first | exact hok.1.1 | exact hok.2.2.1.1)) rfl (.cons (.one (.r .r)) (.nil)) rfl fun go3_2_1 => ?_
    exact RA.to hall (RA.lr (ro3_111110110000000 go3_2_1) rfl rfl)
  have ro3_111100110000000 : ∀ (go3_2_1 : Nat → Nat → Value), RA E B all 9 #[true, true, true, true, false, false, true, true, false, false, false, false, false, false, false] ⟨21, [(1, .obj b1 ((Node.c n).map .r)), (2, .obj b2 [I 0, I 0, I 0, I 0, I 0, .r (.v (.slice none 0 0)), I 0, I 0, .r (.v (.slice none 0 0)), I 0, I 0, I 0, .r (.v (.slice none 0 0)), .r (.v (.slice none 0 0))]), (5, .w (sl 1 cI n.conf) (go3_2_1 0 0)), (6, .pt 1 b1 6), (10, .r (sl 1 cI n.votes))]⟩ K := by
   intro go3_2_1
   refine RA.of hall (RA.step (L := [4]) (by kernel_rfl) (by simp) (RA.each ?_ (RA.each0)))
   ·skip
    refine RO.v rfl rfl (V.loadAgg rfl rfl rfl rfl rfl (Nat.le_of_ble_eq_true rfl)) rfl ?_
    exact RA.to hall (RA.lr (ro3_111110110000000 go3_2_1) rfl rfl)
  have ro3_111110100000000 : ∀ (go3_2_1 : Nat → Nat → Value), RA E B all 9 #[true, true, true, true, true, false, true, false, false, false, false, false, false, false, false] ⟨21, [(1, .obj b1 ((Node.c n).map .r)), (2, .obj b2 [I 0, I 0, I 0, I 0, I 0, .r (.v (.slice none 0 0)), I 0, I 0, .r (.v (.slice none 0 0)), I 0, I 0, I 0, .r (.v (.slice none 0 0)), .r (.v (.slice none 0 0))]), (5, .w (sl 1 cI n.conf) (go3_2_1 0 0)), (7, .agg ((Log.c n.log).map .r)), (9, .pt 1 b1 12)]⟩ K := by
   intro go3_2_1
   refine RA.of hall (RA.step (L := [5, 7]) (by kernel_rfl) (by simp) (RA.each ?_ (RA.each ?_ (RA.each0))))
   ·skip
    refine RO.call rfl rfl (impl_copyLog_fn n.log (hok.2.1)) rfl (.cons (.agg (.cons (.r .r) (.cons (.r .r) (.cons (.r .r) (.nil))))) (.nil)) rfl fun go3_5_1 => ?_
    exact RA.to hall (RA.lr (ro3_111111100000000 go3_2_1 go3_5_1) rfl rfl)
   ·skip
    refine RO.v rfl rfl (V.loadPrim (d := .r (sl 1 cI n.votes)) rfl rfl (.inr ⟨_, rfl⟩) rfl rfl rfl) rfl ?_
    exact RA.to hall (RA.lr (ro3_111110110000000 go3_2_1) rfl rfl)
  have ro3_111111000000000 : ∀ (go3_2_1 : Nat → Nat → Value), ∀ (go3_5_1 : Nat → Nat → Value), RA E B all 9 #[true, true, true, true, true, true, false, false, false, false, false, false, false, false, false] ⟨21, [(1, .obj b1 ((Node.c n).map .r)), (2, .obj b2 [I 0, I 0, I 0, I 0, I 0, .r (.v (.slice none 0 0)), I 0, I 0, .r (.v (.slice none 0 0)), I 0, I 0, I 0, .r (.v (.slice none 0 0)), .r (.v (.slice none 0 0))]), (5, .w (sl 1 cI n.conf) (go3_2_1 0 0)), (8, .agg [I n.log.start, I n.log.startTerm, .w (sl 3 Entry.c n.log.entries) (go3_5_1 0 2)])]⟩ K := by
   intro go3_2_1 go3_5_1
   refine RA.of hall (RA.step (L := [6]) (by kernel_rfl) (by simp) (RA.each ?_ (RA.each0)))
   ·skip
    refine RO.v rfl rfl (V.field rfl rfl rfl rfl (by decide) rfl) rfl ?_
    exact RA.to hall (RA.lr (ro3_111111100000000 go3_2_1 go3_5_1) rfl rfl)
  have ro3_100110110000000 : RA E B all 10 #[true, false, false, true, true, false, true, true, false, false, false, false, false, false, false] ⟨21, [(1, .obj b1 ((Node.c n).map .r)), (2, .obj b2 [I 0, I 0, I 0, I 0, I 0, .r (.v (.slice none 0 0)), I 0, I 0, .r (.v (.slice none 0 0)), I 0, I 0, I 0, .r (.v (.slice none 0 0)), .r (.v (.slice none 0 0))]), (3, .pt 1 b1 5), (7, .agg ((Log.c n.log).map .r)), (10, .r (sl 1 cI n.votes))]⟩ K := by
   refine RA.of hall (RA.step (L := [1]) (by kernel_rfl) (by simp) (RA.each ?_ (RA.each0)))
   ·skip
    refine RO.v rfl rfl (V.loadPrim (d := .r (sl 1 cI n.conf)) rfl rfl (.inr ⟨_, rfl⟩) rfl rfl rfl) rfl ?_
    exact RA.to hall (RA.lr ro3_110110110000000 rfl rfl)
  have ro3_110100110000000 : RA E B all 10 #[true, true, false, true, false, false, true, true, false, false, false, false, false, false, false] ⟨21, [(1, .obj b1 ((Node.c n).map .r)), (2, .obj b2 [I 0, I 0, I 0, I 0, I 0, .r (.v (.slice none 0 0)), I 0, I 0, .r (.v (.slice none 0 0)), I 0, I 0, I 0, .r (.v (.slice none 0 0)), .r (.v (.slice none 0 0))]), (4, .r (sl 1 cI n.conf)), (6, .pt 1 b1 6), (10, .r (sl 1 cI n.votes))]⟩ K := by
   refine RA.of hall (RA.step (L := [2, 4]) (by kernel_rfl) (by simp) (RA.each ?_ (RA.each ?_ (RA.each0))))
   ·skip
    refine RO.call rfl rfl (impl_copyInts_fn n.conf (by first | exact hok.1.1 | exact hok.2.2.1.1)) rfl (.cons (.one (.r .r)) (.nil)) rfl fun go3_2_1 => ?_
    exact RA.to hall (RA.lr (ro3_111100110000000 go3_2_1) rfl rfl)
   ·skip
    refine RO.v rfl rfl (V.loadAgg rfl rfl rfl rfl rfl (Nat.le_of_ble_eq_true rfl)) rfl ?_
    exact RA.to hall (RA.lr ro3_110110110000000 rfl rfl)
  have ro3_110110100000000 : RA E B all 10 #[true, true, false, true, true, false, true, false, false, false, false, false, false, false, false] ⟨21, [(1, .obj b1 ((Node.c n).map .r)), (2, .obj b2 [I 0, I 0, I 0, I 0, I 0, .r (.v (.slice none 0 0)), I 0, I 0, .r (.v (.slice none 0 0)), I 0, I 0, I 0, .r (.v (.slice none 0 0)), .r (.v (.slice none 0 0))]), (4, .r (sl 1 cI n.conf)), (7, .agg ((Log.c n.log).map .r)), (9, .pt 1 b1 12)]⟩ K := by
   refine RA.of hall (RA.step (L := [2, 7]) (by kernel_rfl) (by simp) (RA.each ?_ (RA.each ?_ (RA.each0))))
   ·skip
    refine RO.call rfl rfl (impl_copyInts_fn n.conf (by first | exact hok.1.1 | exact hok.2.2.1.1)) rfl (.cons (.one (.r .r)) (.nil)) rfl fun go3_2_1 => ?_
    exact RA.to hall (RA.lr (ro3_111110100000000 go3_2_1) rfl rfl)
   ·skip
    refine RO.v rfl rfl (V.loadPrim (d := .r (sl 1 cI n.votes)) rfl rfl (.inr ⟨_, rfl⟩) rfl rfl rfl) rfl ?_
    exact RA.to hall (RA.lr ro3_110110110000000 rfl rfl)
  have ro3_111000110000000 : ∀ (go3_2_1 : Nat → Nat → Value), RA E B all 10 #[true, true, true, false, false, false, true, true, false, false, false, false, false, false, false] ⟨21, [(1, .obj b1 ((Node.c n).map .r)), (2, .obj b2 [I 0, I 0, I 0, I 0, I 0, .r (.v (.slice none 0 0)), I 0, I 0, .r (.v (.slice none 0 0)), I 0, I 0, I 0, .r (.v (.slice none 0 0)), .r (.v (.slice none 0 0))]), (5, .w (sl 1 cI n.conf) (go3_2_1 0 0)), (10, .r (sl 1 cI n.votes))]⟩ K := by
   intro go3_2_1
   refine RA.of hall (RA.step (L := [3]) (by kernel_rfl) (by simp) (RA.each ?_ (RA.each0)))
   ·skip
    refine RO.v rfl rfl (V.field rfl rfl rfl rfl (by decide) rfl) rfl ?_
    exact RA.to hall (RA.lr (ro3_111100110000000 go3_2_1) rfl rfl)
  have ro3_111100100000000 : ∀ (go3_2_1 : Nat → Nat → Value), RA E B all 10 #[true, true, true, true, false, false, true, false, false, false, false, false, false, false, false] ⟨21, [(1, .obj b1 ((Node.c n).map .r)), (2, .obj b2 [I 0, I 0, I 0, I 0, I 0, .r (.v (.slice none 0 0)), I 0, I 0, .r (.v (.slice none 0 0)), I 0, I 0, I 0, .r (.v (.slice none 0 0)), .r (.v (.slice none 0 0))]), (5, .w (sl 1 cI n.conf) (go3_2_1 0 0)), (6, .pt 1 b1 6), (9, .pt 1 b1 12)]⟩ K := by
   intro go3_2_1
   refine RA.of hall (RA.step (L := [4, 7]) (by kernel_rfl) (by simp) (RA.each ?_ (RA.each ?_ (RA.each0))))
   ·skip
    refine RO.v rfl rfl (V.loadAgg rfl rfl rfl rfl rfl (Nat.le_of_ble_eq_true rfl)) rfl ?_
    exact RA.to hall (RA.lr (ro3_111110100000000 go3_2_1) rfl rfl)
   ·skip
    refine RO.v rfl rfl (V.loadPrim (d := .r (sl 1 cI n.votes)) rfl rfl (.inr ⟨_, rfl⟩) rfl rfl rfl) rfl ?_
    exact RA.to hall (RA.lr (ro3_111100110000000 go3_2_1) rfl rfl)
  have ro3_111110000000000 : ∀ (go3_2_1 : Nat → Nat → Value), RA E B all 10 #[true, true, true, true, true, false, false, false, false, false, false, false, false, false, false] ⟨21, [(1, .obj b1 ((Node.c n).map .r)), (2, .obj b2 [I 0, I 0, I 0, I 0, I 0, .r (.v (.slice none 0 0)), I 0, I 0, .r (.v (.slice none 0 0)), I 0, I 0, I 0, .r (.v (.slice none 0 0)), .r (.v (.slice none 0 0))]), (5, .w (sl 1 cI n.conf) (go3_2_1 0 0)), (7, .agg ((Log.c n.log).map .r))]⟩ K := by
   intro go3_2_1
   refine RA.of hall (RA.step (L := [5, 6]) (by kernel_rfl) (by simp) (RA.each ?_ (RA.each ?_ (RA.each0))))
   ·skip
    refine RO.call rfl rfl (impl_copyLog_fn n.log (hok.2.1)) rfl (.cons (.agg (.cons (.r .r) (.cons (.r .r) (.cons (.r .r) (.nil))))) (.nil)) rfl fun go3_5_1 => ?_
    exact RA.to hall (RA.lr (ro3_111111000000000 go3_2_1 go3_5_1) rfl rfl)
   ·skip
    refine RO.v rfl rfl (V.field rfl rfl rfl rfl (by decide) rfl) rfl ?_
    exact RA.to hall (RA.lr (ro3_111110100000000 go3_2_1) rfl rfl)
  have ro3_000110110000000 : RA E B all 11 #[false, false, false, true, true, false, true, true, false, false, false, false, false, false, false] ⟨21, [(1, .obj b1 ((Node.c n).map .r)), (2, .obj b2 [I 0, I 0, I 0, I 0, I 0, .r (.v (.slice none 0 0)), I 0, I 0, .r (.v (.slice none 0 0)), I 0, I 0, I 0, .r (.v (.slice none 0 0)), .r (.v (.slice none 0 0))]), (7, .agg ((Log.c n.log).map .r)), (10, .r (sl 1 cI n.votes))]⟩ K := by
   refine RA.of hall (RA.step (L := [0]) (by kernel_rfl) (by simp) (RA.each ?_ (RA.each0)))
   ·skip
    refine RO.v rfl rfl (V.field rfl rfl rfl rfl (by decide) rfl) rfl ?_
    exact RA.to hall (RA.lr ro3_100110110000000 rfl rfl)
  have ro3_100100110000000 : RA E B all 11 #[true, false, false, true, false, false, true, true, false, false, false, false, false, false, false] ⟨21, [(1, .obj b1 ((Node.c n).map .r)), (2, .obj b2 [I 0, I 0, I 0, I 0, I 0, .r (.v (.slice none 0 0)), I 0, I 0, .r (.v (.slice none 0 0)), I 0, I 0, I 0, .r (.v (.slice none 0 0)), .r (.v (.slice none 0 0))]), (3, .pt 1 b1 5), (6, .pt 1 b1 6), (10, .r (sl 1 cI n.votes))]⟩ K := by
   refine RA.of hall (RA.step (L := [1, 4]) (by kernel_rfl) (by simp) (RA.each ?_ (RA.each ?_ (RA.each0))))
   ·skip
    refine RO.v rfl rfl (V.loadPrim (d := .r (sl 1 cI n.conf)) rfl rfl (.inr ⟨_, rfl⟩) rfl rfl rfl) rfl ?_
    exact RA.to hall (RA.lr ro3_110100110000000 rfl rfl)
   ·skip
    refine RO.v rfl rfl (V.loadAgg rfl rfl rfl rfl rfl (Nat.le_of_ble_eq_true rfl)) rfl ?_
    exact RA.to hall (RA.lr ro3_100110110000000 rfl rfl)
  have ro3_100110100000000 : RA E B all 11 #[true, false, false, true, true, false, true, false, false, false, false, false, false, false, false] ⟨21, [(1, .obj b1 ((Node.c n).map .r)), (2, .obj b2 [I 0, I 0, I 0, I 0, I 0, .r (.v (.slice none 0 0)), I 0, I 0, .r (.v (.slice none 0 0)), I 0, I 0, I 0, .r (.v (.slice none 0 0)), .r (.v (.slice none 0 0))]), (3, .pt 1 b1 5), (7, .agg ((Log.c n.log).map .r)), (9, .pt 1 b1 12)]⟩ K := by
   refine RA.of hall (RA.step (L := [1, 7]) (by kernel_rfl) (by simp) (RA.each ?_ (RA.each ?_ (RA.each0))))
   ·skip
    refine RO.v rfl rfl (V.loadPrim (d := .r (sl 1 cI n.conf)) rfl rfl (.inr ⟨_, rfl⟩) rfl rfl rfl) rfl ?_
    exact RA.to hall (RA.lr ro3_110110100000000 rfl rfl)
   ·skip
    refine RO.v rfl rfl (V.loadPrim (d := .r (sl 1 cI n.votes)) rfl rfl (.inr ⟨_, rfl⟩) rfl rfl rfl) rfl ?_
    exact RA.to hall (RA.lr ro3_100110110000000 rfl rfl)
  have ro3_110000110000000 : RA E B all 11 #[true, true, false, false, false, false, true, true, false, false, false, false, false, false, false] ⟨21, [(1, .obj b1 ((Node.c n).map .r)), (2, .obj b2 [I 0, I 0, I 0, I 0, I 0, .r (.v (.slice none 0 0)), I 0, I 0, .r (.v (.slice none 0 0)), I 0, I 0, I 0, .r (.v (.slice none 0 0)), .r (.v (.slice none 0 0))]), (4, .r (sl 1 cI n.conf)), (10, .r (sl 1 cI n.votes))]⟩ K := by
   refine RA.of hall (RA.step (L := [2, 3]) (by kernel_rfl) (by simp) (RA.each ?_ (RA.each ?_ (RA.each0))))
   ·skip
    refine RO.call rfl rfl (impl_copyInts_fn n.conf (by first | exact hok.1.1 | exact hok.2.2.1.1)) rfl (.cons (.one (.r .r)) (.nil)) rfl fun go3_2_1 => ?_
    exact RA.to hall (RA.lr (ro3_111000110000000 go3_2_1) rfl rfl)
   ·skip
    refine RO.v rfl rfl (V.field rfl rfl rfl rfl (by decide) rfl) rfl ?_
    exact RA.to hall (RA.lr ro3_110100110000000 rfl rfl)
  have ro3_110100100000000 : RA E B all 11 #[true, true, false, true, false, false, true, false, false, false, false, false, false, false, false] ⟨21, [(1, .obj b1 ((Node.c n).map .r)), (2, .obj b2 [I 0, I 0, I 0, I 0, I 0, .r (.v (.slice none 0 0)), I 0, I 0, .r (.v (.slice none 0 0)), I 0, I 0, I 0, .r (.v (.slice none 0 0)), .r (.v (.slice none 0 0))]), (4, .r (sl 1 cI n.conf)), (6, .pt 1 b1 6), (9, .pt 1 b1 12)]⟩ K := by
   refine RA.of hall (RA.step (L := [2, 4, 7]) (by kernel_rfl) (by simp) (RA.each ?_ (RA.each ?_ (RA.each ?_ (RA.each0)))))
   ·skip
    refine RO.call rfl rfl (impl_copyInts_fn n.conf (by first | exact hok.1.1 | exact hok.2.2.1.1)) rfl (.cons (.one (.r .r)) (.nil)) rfl fun go3_2_1 => ?_
    exact RA.to hall (RA.lr (ro3_111100100000000 go3_2_1) rfl rfl)
   ·skip
    refine RO.v rfl rfl (V.loadAgg rfl rfl rfl rfl rfl (Nat.le_of_ble_eq_true rfl)) rfl ?_
    exact RA.to hall (RA.lr ro3_110110100000000 rfl rfl)
   ·skip
    refine RO.v rfl rfl (V.loadPrim (d := .r (sl 1 cI n.votes)) rfl rfl (.inr ⟨_, rfl⟩) rfl rfl rfl) rfl ?_
    exact RA.to hall (RA.lr ro3_110100110000000 rfl rfl)
  have ro3_110110000000000 : RA E B all 11 #[true, true, false, true, true, false, false, false, false, false, false, false, false, false, false] ⟨21, [(1, .obj b1 ((Node.c n).map .r)), (2, .obj b2 [I 0, I 0, I 0, I 0, I 0, .r (.v (.slice none 0 0)), I 0, I 0, .r (.v (.slice none 0 0)), I 0, I 0, I 0, .r (.v (.slice none 0 0)), .r (.v (.slice none 0 0))]), (4, .r (sl 1 cI n.conf)), (7, .agg ((Log.c n.log).map .r))]⟩ K := by
   refine RA.of hall (RA.step (L := [2, 6]) (by kernel_rfl) (by simp) (RA.each ?_ (RA.each ?_ (RA.each0))))
   ·skip
    refine RO.call rfl rfl (impl_copyInts_fn n.conf (by first | exact hok.1.1 | exact hok.2.2.1.1)) rfl (.cons (.one (.r .r)) (.nil)) rfl fun go3_2_1 => ?_
    exact RA.to hall (RA.lr (ro3_111110000000000 go3_2_1) rfl rfl)
   ·skip
    refine RO.v rfl rfl (V.field rfl rfl rfl rfl (by decide) rfl) rfl ?_
    exact RA.to hall (RA.lr ro3_110110100000000 rfl rfl)
  have ro3_111000100000000 : ∀ (go3_2_1 : Nat → Nat → Value), RA E B all 11 #[true, true, true, false, false, false, true, false, false, false, false, false, false, false, false] ⟨21, [(1, .obj b1 ((Node.c n).map .r)), (2, .obj b2 [I 0, I 0, I 0, I 0, I 0, .r (.v (.slice none 0 0)), I 0, I 0, .r (.v (.slice none 0 0)), I 0, I 0, I 0, .r (.v (.slice none 0 0)), .r (.v (.slice none 0 0))]), (5, .w (sl 1 cI n.conf) (go3_2_1 0 0)), (9, .pt 1 b1 12)]⟩ K := by
   intro go3_2_1
   refine RA.of hall (RA.step (L := [3, 7]) (by kernel_rfl) (by simp) (RA.each ?_ (RA.each ?_ (RA.each0))))
   ·skip
    refine RO.v rfl rfl (V.field rfl rfl rfl rfl (by decide) rfl) rfl ?_
    exact RA.to hall (RA.lr (ro3_111100100000000 go3_2_1) rfl rfl)
   ·skip
    refine RO.v rfl rfl (V.loadPrim (d := .r (sl 1 cI n.votes)) rfl rfl (.inr ⟨_, rfl⟩) rfl rfl rfl) rfl ?_
    exact RA.to hall (RA.lr (ro3_111000110000000 go3_2_1) rfl rfl)
  have ro3_111100000000000 : ∀ (go3_2_1 : Nat → Nat → Value), RA E B all 11 #[true, true, true, true, false, false, false, false, false, false, false, false, false, false, false] ⟨21, [(1, .obj b1 ((Node.c n).map .r)), (2, .obj b2 [I 0, I 0, I 0, I 0, I 0, .r (.v (.slice none 0 0)), I 0, I 0, .r (.v (.slice none 0 0)), I 0, I 0, I 0, .r (.v (.slice none 0 0)), .r (.v (.slice none 0 0))]), (5, .w (sl 1 cI n.conf) (go3_2_1 0 0)), (6, .pt 1 b1 6)]⟩ K := by
   intro go3_2_1
   refine RA.of hall (RA.step (L := [4, 6]) (by kernel_rfl) (by simp) (RA.each ?_ (RA.each ?_ (RA.each0))))
   ·skip
    refine RO.v rfl rfl (V.loadAgg rfl rfl rfl rfl rfl (Nat.le_of_ble_eq_true rfl)) rfl ?_
    exact RA.to hall (RA.lr (ro3_111110000000000 go3_2_1) rfl rfl)
   ·skip
    refine RO.v rfl rfl (V.field rfl rfl rfl rfl (by decide) rfl) rfl ?_
    exact RA.to hall (RA.lr (ro3_111100100000000 go3_2_1) rfl rfl)
  have ro3_000100110000000 : RA E B all 12 #[false, false, false, true, false, false, true, true, false, false, false, false, false, false, false] ⟨21, [(1, .obj b1 ((Node.c n).map .r)), (2, .obj b2 [I 0, I 0, I 0, I 0, I 0, .r (.v (.slice none 0 0)), I 0, I 0, .r (.v (.slice none 0 0)), I 0, I 0, I 0, .r (.v (.slice none 0 0)), .r (.v (.slice none 0 0))]), (6, .pt 1 b1 6), (10, .r (sl 1 cI n.votes))]⟩ K := by
   refine RA.of hall (RA.step (L := [0, 4]) (by kernel_rfl) (by simp) (RA.each ?_ (RA.each ?_ (RA.each0))))
   ·skip
    refine RO.v rfl rfl (V.field rfl rfl rfl rfl (by decide) rfl) rfl ?_
    exact RA.to hall (RA.lr ro3_100100110000000 rfl rfl)
   ·skip
    refine RO.v rfl rfl (V.loadAgg rfl rfl rfl rfl rfl (Nat.le_of_ble_eq_true rfl)) rfl ?_
    exact RA.to hall (RA.lr ro3_000110110000000 rfl rfl)
  have ro3_000110100000000 : RA E B all 12 #[false, false, false, true, true, false, true, false, false, false, false, false, false, false, false] ⟨21, [(1, .obj b1 ((Node.c n).map .r)), (2, .obj b2 [I 0, I 0, I 0, I 0, I 0, .r (.v (.slice none 0 0)), I 0, I 0, .r (.v (.slice none 0 0)), I 0, I 0, I 0, .r (.v (.slice none 0 0)), .r (.v (.slice none 0 0))]), (7, .agg ((Log.c n.log).map .r)), (9, .pt 1 b1 12)]⟩ K := by
   refine RA.of hall (RA.step (L := [0, 7]) (by kernel_rfl) (by simp) (RA.each ?_ (RA.each ?_ (RA.each0))))
   ·skip
    refine RO.v rfl rfl (V.field rfl rfl rfl rfl (by decide) rfl) rfl ?_
    exact RA.to hall (RA.lr ro3_100110100000000 rfl rfl)
   ·skip
    refine RO.v rfl rfl (V.loadPrim (d := .r (sl 1 cI n.votes)) rfl rfl (.inr ⟨_, rfl⟩) rfl rfl rfl) rfl ?_
    exact RA.to hall (RA.lr ro3_000110110000000 rfl rfl)
  have ro3_100000110000000 : RA E B all 12 #[true, false, false, false, false, false, true, true, false, false, false, false, false, false, false] ⟨21, [(1, .obj b1 ((Node.c n).map .r)), (2, .obj b2 [I 0, I 0, I 0, I 0, I 0, .r (.v (.slice none 0 0)), I 0, I 0, .r (.v (.slice none 0 0)), I 0, I 0, I 0, .r (.v (.slice none 0 0)), .r (.v (.slice none 0 0))]), (3, .pt 1 b1 5), (10, .r (sl 1 cI n.votes))]⟩ K := by
   refine RA.of hall (RA.step (L := [1, 3]) (by kernel_rfl) (by simp) (RA.each ?_ (RA.each ?_ (RA.each0))))
   ·skip
    refine RO.v rfl rfl (V.loadPrim (d := .r (sl 1 cI n.conf)) rfl rfl (.inr ⟨_, rfl⟩) rfl rfl rfl) rfl ?_
    exact RA.to hall (RA.lr ro3_110000110000000 rfl rfl)
   ·skip
    refine RO.v rfl rfl (V.field rfl rfl rfl rfl (by decide) rfl) rfl ?_
    exact RA.to hall (RA.lr ro3_100100110000000 rfl rfl)
  have ro3_100100100000000 : RA E B all 12 #[true, false, false, true, false, false, true, false, false, false, false, false, false, false, false] ⟨21, [(1, .obj b1 ((Node.c n).map .r)), (2, .obj b2 [I 0, I 0, I 0, I 0, I 0, .r (.v (.slice none 0 0)), I 0, I 0, .r (.v (.slice none 0 0)), I 0, I 0, I 0, .r (.v (.slice none 0 0)), .r (.v (.slice none 0 0))]), (3, .pt 1 b1 5), (6, .pt 1 b1 6), (9, .pt 1 b1 12)]⟩ K := by
   refine RA.of hall (RA.step (L := [1, 4, 7]) (by kernel_rfl) (by simp) (RA.each ?_ (RA.each ?_ (RA.each ?_ (RA.each0)))))
   ·skip
    refine RO.v rfl rfl (V.loadPrim (d := .r (sl 1 cI n.conf)) rfl rfl (.inr ⟨_, rfl⟩) rfl rfl rfl) rfl ?_
    exact RA.to hall (RA.lr ro3_110100100000000 rfl rfl)
   ·skip
    refine RO.v rfl rfl (V.loadAgg rfl rfl rfl rfl rfl (Nat.le_of_ble_eq_true rfl)) rfl ?_
    exact RA.to hall (RA.lr ro3_100110100000000 rfl rfl)
   ·skip
    refine RO.v rfl rfl (V.loadPrim (d := .r (sl 1 cI n.votes)) rfl rfl (.inr ⟨_, rfl⟩) rfl rfl rfl) rfl ?_
    exact RA.to hall (RA.lr ro3_100100110000000 rfl rfl)
  have ro3_100110000000000 : RA E B all 12 #[true, false, false, true, true, false, false, false, false, false, false, false, false, false, false] ⟨21, [(1, .obj b1 ((Node.c n).map .r)), (2, .obj b2 [I 0, I 0, I 0, I 0, I 0, .r (.v (.slice none 0 0)), I 0, I 0, .r (.v (.slice none 0 0)), I 0, I 0, I 0, .r (.v (.slice none 0 0)), .r (.v (.slice none 0 0))]), (3, .pt 1 b1 5), (7, .agg ((Log.c n.log).map .r))]⟩ K := by
   refine RA.of hall (RA.step (L := [1, 6]) (by kernel_rfl) (by simp) (RA.each ?_ (RA.each ?_ (RA.each0))))
   ·skip
    refine RO.v rfl rfl (V.loadPrim (d := .r (sl 1 cI n.conf)) rfl rfl (.inr ⟨_, rfl⟩) rfl rfl rfl) rfl ?_
    exact RA.to hall (RA.lr ro3_110110000000000 rfl rfl)
   ·skip
    refine RO.v rfl rfl (V.field rfl rfl rfl rfl (by decide) rfl) rfl ?_
    exact RA.to hall (RA.lr ro3_100110100000000 rfl rfl)
  have ro3_110000100000000 : RA E B all 12 #[true, true, false, false, false, false, true, false, false, false, false, false, false, false, false] ⟨21, [(1, .obj b1 ((Node.c n).map .r)), (2, .obj b2 [I 0, I 0, I 0, I 0, I 0, .r (.v (.slice none 0 0)), I 0, I 0, .r (.v (.slice none 0 0)), I 0, I 0, I 0, .r (.v (.slice none 0 0)), .r (.v (.slice none 0 0))]), (4, .r (sl 1 cI n.conf)), (9, .pt 1 b1 12)]⟩ K := by
   refine RA.of hall (RA.step (L := [2, 3, 7]) (by kernel_rfl) (by simp) (RA.each ?_ (RA.each ?_ (RA.each ?_ (RA.each0)))))
   ·skip
    refine RO.call rfl rfl (impl_copyInts_fn n.conf (by first | exact hok.1.1 | exact hok.2.2.1.1)) rfl (.cons (.one (.r .r)) (.nil)) rfl fun go3_2_1 => ?_
    exact RA.to hall (RA.lr (ro3_111000100000000 go3_2_1) rfl rfl)
   ·skip
    refine RO.v rfl rfl (V.field rfl rfl rfl rfl (by decide) rfl) rfl ?_
    exact RA.to hall (RA.lr ro3_110100100000000 rfl rfl)
   ·skip
    refine RO.v rfl rfl (V.loadPrim (d := .r (sl 1 cI n.votes)) rfl rfl (.inr ⟨_, rfl⟩) rfl rfl rfl) rfl ?_
    exact RA.to hall (RA.lr ro3_110000110000000 rfl rfl)
  have ro3_110100000000000 : RA E B all 12 #[true, true, false, true, false, false, false, false, false, false, false, false, false, false, false] ⟨21, [(1, .obj b1 ((Node.c n).map .r)), (2, .obj b2 [I 0, I 0, I 0, I 0, I 0, .r (.v (.slice none 0 0)), I 0, I 0, .r (.v (.slice none 0 0)), I 0, I 0, I 0, .r (.v (.slice none 0 0)), .r (.v (.slice none 0 0))]), (4, .r (sl 1 cI n.conf)), (6, .pt 1 b1 6)]⟩ K := by
   refine RA.of hall (RA.step (L := [2, 4, 6]) (by kernel_rfl) (by simp) (RA.each ?_ (RA.each ?_ (RA.each ?_ (RA.each0)))))
   ·skip
    refine RO.call rfl rfl (impl_copyInts_fn n.conf (by first | exact hok.1.1 | exact hok.2.2.1.1)) rfl (.cons (.one (.r .r)) (.nil)) rfl fun go3_2_1 => ?_
    exact RA.to hall (RA.lr (ro3_111100000000000 go3_2_1) rfl rfl)
   ·skip
    refine RO.v rfl rfl (V.loadAgg rfl rfl rfl rfl rfl (Nat.le_of_ble_eq_true rfl)) rfl ?_
    exact RA.to hall (RA.lr ro3_110110000000000 rfl rfl)
   ·skip
    refine RO.v rfl rfl (V.field rfl rfl rfl rfl (by decide) rfl) rfl ?_
    exact RA.to hall (RA.lr ro3_110100100000000 rfl rfl)
  have ro3_111000000000000 : ∀ (go3_2_1 : Nat → Nat → Value), RA E B all 12 #[true, true, true, false, false, false, false, false, false, false, false, false, false, false, false] ⟨21, [(1, .obj b1 ((Node.c n).map .r)), (2, .obj b2 [I 0, I 0, I 0, I 0, I 0, .r (.v (.slice none 0 0)), I 0, I 0, .r (.v (.slice none 0 0)), I 0, I 0, I 0, .r (.v (.slice none 0 0)), .r (.v (.slice none 0 0))]), (5, .w (sl 1 cI n.conf) (go3_2_1 0 0))]⟩ K := by
   intro go3_2_1
   refine RA.of hall (RA.step (L := [3, 6]) (by kernel_rfl) (by simp) (RA.each ?_ (RA.each ?_ (RA.each0))))
   ·skip
    refine RO.v rfl rfl (V.field rfl rfl rfl rfl (by decide) rfl) rfl ?_
    exact RA.to hall (RA.lr (ro3_111100000000000 go3_2_1) rfl rfl)
   ·skip
    refine RO.v rfl rfl (V.field rfl rfl rfl rfl (by decide) rfl) rfl ?_
    exact RA.to hall (RA.lr (ro3_111000100000000 go3_2_1) rfl rfl)
  have ro3_000000110000000 : RA E B all 13 #[false, false, false, false, false, false, true, true, false, false, false, false, false, false, false] ⟨21, [(1, .obj b1 ((Node.c n).map .r)), (2, .obj b2 [I 0, I 0, I 0, I 0, I 0, .r (.v (.slice none 0 0)), I 0, I 0, .r (.v (.slice none 0 0)), I 0, I 0, I 0, .r (.v (.slice none 0 0)), .r (.v (.slice none 0 0))]), (10, .r (sl 1 cI n.votes))]⟩ K := by
   refine RA.of hall (RA.step (L := [0, 3]) (by kernel_rfl) (by simp) (RA.each ?_ (RA.each ?_ (RA.each0))))
   ·skip
    refine RO.v rfl rfl (V.field rfl rfl rfl rfl (by decide) rfl) rfl ?_
    exact RA.to hall (RA.lr ro3_100000110000000 rfl rfl)
   ·skip
    refine RO.v rfl rfl (V.field rfl rfl rfl rfl (by decide) rfl) rfl ?_
    exact RA.to hall (RA.lr ro3_000100110000000 rfl rfl)
  have ro3_000100100000000 : RA E B all 13 #[false, false, false, true, false, false, true, false, false, false, false, false, false, false, false] ⟨21, [(1, .obj b1 ((Node.c n).map .r)), (2, .obj b2 [I 0, I 0, I 0, I 0, I 0, .r (.v (.slice none 0 0)), I 0, I 0, .r (.v (.slice none 0 0)), I 0, I 0, I 0, .r (.v (.slice none 0 0)), .r (.v (.slice none 0 0))]), (6, .pt 1 b1 6), (9, .pt 1 b1 12)]⟩ K := by
   refine RA.of hall (RA.step (L := [0, 4, 7]) (by kernel_rfl) (by simp) (RA.each ?_ (RA.each ?_ (RA.each ?_ (RA.each0)))))
   ·skip
    refine RO.v rfl rfl (V.field rfl rfl rfl rfl (by decide) rfl) rfl ?_
    exact RA.to hall (RA.lr ro3_100100100000000 rfl rfl)
   ·skip
    refine RO.v rfl rfl (V.loadAgg rfl rfl rfl rfl rfl (Nat.le_of_ble_eq_true rfl)) rfl ?_
    exact RA.to hall (RA.lr ro3_000110100000000 rfl rfl)
   ·skip
    refine RO.v rfl rfl (V.loadPrim (d := .r (sl 1 cI n.votes)) rfl rfl (.inr ⟨_, rfl⟩) rfl rfl rfl) rfl ?_
    exact RA.to hall (RA.lr ro3_000100110000000 rfl rfl)
  have ro3_000110000000000 : RA E B all 13 #[false, false, false, true, true, false, false, false, false, false, false, false, false, false, false] ⟨21, [(1, .obj b1 ((Node.c n).map .r)), (2, .obj b2 [I 0, I 0, I 0, I 0, I 0, .r (.v (.slice none 0 0)), I 0, I 0, .r (.v (.slice none 0 0)), I 0, I 0, I 0, .r (.v (.slice none 0 0)), .r (.v (.slice none 0 0))]), (7, .agg ((Log.c n.log).map .r))]⟩ K := by
   refine RA.of hall (RA.step (L := [0, 6]) (by kernel_rfl) (by simp) (RA.each ?_ (RA.each ?_ (RA.each0))))
   ·skip
    refine RO.v rfl rfl (V.field rfl rfl rfl rfl (by decide) rfl) rfl ?_
    exact RA.to hall (RA.lr ro3_100110000000000 rfl rfl)
   ·skip
    refine RO.v rfl rfl (V.field rfl rfl rfl rfl (by decide) rfl) rfl ?_
    exact RA.to hall (RA.lr ro3_000110100000000 rfl rfl)
  have ro3_100000100000000 : RA E B all 13 #[true, false, false, false, false, false, true, false, false, false, false, false, false, false, false] ⟨21, [(1, .obj b1 ((Node.c n).map .r)), (2, .obj b2 [I 0, I 0, I 0, I 0, I 0, .r (.v (.slice none 0 0)), I 0, I 0, .r (.v (.slice none 0 0)), I 0, I 0, I 0, .r (.v (.slice none 0 0)), .r (.v (.slice none 0 0))]), (3, .pt 1 b1 5), (9, .pt 1 b1 12)]⟩ K := by
   refine RA.of hall (RA.step (L := [1, 3, 7]) (by kernel_rfl) (by simp) (RA.each ?_ (RA.each ?_ (RA.each ?_ (RA.each0)))))
   ·skip
    refine RO.v rfl rfl (V.loadPrim (d := .r (sl 1 cI n.conf)) rfl rfl (.inr ⟨_, rfl⟩) rfl rfl rfl) rfl ?_
    exact RA.to hall (RA.lr ro3_110000100000000 rfl rfl)
   ·skip
    refine RO.v rfl rfl (V.field rfl rfl rfl rfl (by decide) rfl) rfl ?_
    exact RA.to hall (RA.lr ro3_100100100000000 rfl rfl)
   ·skip
    refine RO.v rfl rfl (V.loadPrim (d := .r (sl 1 cI n.votes)) rfl rfl (.inr ⟨_, rfl⟩) rfl rfl rfl) rfl ?_
    exact RA.to hall (RA.lr ro3_100000110000000 rfl rfl)
  have ro3_100100000000000 : RA E B all 13 #[true, false, false, true, false, false, false, false, false, false, false, false, false, false, false] ⟨21, [(1, .obj b1 ((Node.c n).map .r)), (2, .obj b2 [I 0, I 0, I 0, I 0, I 0, .r (.v (.slice none 0 0)), I 0, I 0, .r (.v (.slice none 0 0)), I 0, I 0, I 0, .r (.v (.slice none 0 0)), .r (.v (.slice none 0 0))]), (3, .pt 1 b1 5), (6, .pt 1 b1 6)]⟩ K := by
   refine RA.of hall (RA.step (L := [1, 4, 6]) (by kernel_rfl) (by simp) (RA.each ?_ (RA.each ?_ (RA.each ?_ (RA.each0)))))
   ·skip
    refine RO.v rfl rfl (V.loadPrim (d := .r (sl 1 cI n.conf)) rfl rfl (.inr ⟨_, rfl⟩) rfl rfl rfl) rfl ?_
    exact RA.to hall (RA.lr ro3_110100000000000 rfl rfl)
   ·skip
    refine RO.v rfl rfl (V.loadAgg rfl rfl rfl rfl rfl (Nat.le_of_ble_eq_true rfl)) rfl ?_
    exact RA.to hall (RA.lr ro3_100110000000000 rfl rfl)
   ·skip
    refine RO.v rfl rfl (V.field rfl rfl rfl rfl (by decide) rfl) rfl ?_
    exact RA.to hall (RA.lr ro3_100100100000000 rfl rfl)
  have ro3_110000000000000 : RA E B all 13 #[true, true, false, false, false, false, false, false, false, false, false, false, false, false, false] ⟨21, [(1, .obj b1 ((Node.c n).map .r)), (2, .obj b2 [I 0, I 0, I 0, I 0, I 0, .r (.v (.slice none 0 0)), I 0, I 0, .r (.v (.slice none 0 0)), I 0, I 0, I 0, .r (.v (.slice none 0 0)), .r (.v (.slice none 0 0))]), (4, .r (sl 1 cI n.conf))]⟩ K := by
   refine RA.of hall (RA.step (L := [2, 3, 6]) (by kernel_rfl) (by simp) (RA.each ?_ (RA.each ?_ (RA.each ?_ (RA.each0)))))
   ·skip
    refine RO.call rfl rfl (impl_copyInts_fn n.conf (by first | exact hok.1.1 | exact hok.2.2.1.1)) rfl (.cons (.one (.r .r)) (.nil)) rfl fun go3_2_1 => ?_
    exact RA.to hall (RA.lr (ro3_111000000000000 go3_2_1) rfl rfl)
   ·skip
    refine RO.v rfl rfl (V.field rfl rfl rfl rfl (by decide) rfl) rfl ?_
    exact RA.to hall (RA.lr ro3_110100000000000 rfl rfl)
   ·skip
    refine RO.v rfl rfl (V.field rfl rfl rfl rfl (by decide) rfl) rfl ?_
    exact RA.to hall (RA.lr ro3_110000100000000 rfl rfl)
  have ro3_000000100000000 : RA E B all 14 #[false, false, false, false, false, false, true, false, false, false, false, false, false, false, false] ⟨21, [(1, .obj b1 ((Node.c n).map .r)), (2, .obj b2 [I 0, I 0, I 0, I 0, I 0, .r (.v (.slice none 0 0)), I 0, I 0, .r (.v (.slice none 0 0)), I 0, I 0, I 0, .r (.v (.slice none 0 0)), .r (.v (.slice none 0 0))]), (9, .pt 1 b1 12)]⟩ K := by
   refine RA.of hall (RA.step (L := [0, 3, 7]) (by kernel_rfl) (by simp) (RA.each ?_ (RA.each ?_ (RA.each ?_ (RA.each0)))))
   ·skip
    refine RO.v rfl rfl (V.field rfl rfl rfl rfl (by decide) rfl) rfl ?_
    exact RA.to hall (RA.lr ro3_100000100000000 rfl rfl)
   ·skip
    refine RO.v rfl rfl (V.field rfl rfl rfl rfl (by decide) rfl) rfl ?_
    exact RA.to hall (RA.lr ro3_000100100000000 rfl rfl)
   ·skip
    refine RO.v rfl rfl (V.loadPrim (d := .r (sl 1 cI n.votes)) rfl rfl (.inr ⟨_, rfl⟩) rfl rfl rfl) rfl ?_
    exact RA.to hall (RA.lr ro3_000000110000000 rfl rfl)
  have ro3_000100000000000 : RA E B all 14 #[false, false, false, true, false, false, false, false, false, false, false, false, false, false, false] ⟨21, [(1, .obj b1 ((Node.c n).map .r)), (2, .obj b2 [I 0, I 0, I 0, I 0, I 0, .r (.v (.slice none 0 0)), I 0, I 0, .r (.v (.slice none 0 0)), I 0, I 0, I 0, .r (.v (.slice none 0 0)), .r (.v (.slice none 0 0))]), (6, .pt 1 b1 6)]⟩ K := by
   refine RA.of hall (RA.step (L := [0, 4, 6]) (by kernel_rfl) (by simp) (RA.each ?_ (RA.each ?_ (RA.each ?_ (RA.each0)))))
   ·skip
    refine RO.v rfl rfl (V.field rfl rfl rfl rfl (by decide) rfl) rfl ?_
    exact RA.to hall (RA.lr ro3_100100000000000 rfl rfl)
   ·skip
    refine RO.v rfl rfl (V.loadAgg rfl rfl rfl rfl rfl (Nat.le_of_ble_eq_true rfl)) rfl ?_
    exact RA.to hall (RA.lr ro3_000110000000000 rfl rfl)
   ·skip
    refine RO.v rfl rfl (V.field rfl rfl rfl rfl (by decide) rfl) rfl ?_
    exact RA.to hall (RA.lr ro3_000100100000000 rfl rfl)
  have ro3_100000000000000 : RA E B all 14 #[true, false, false, false, false, false, false, false, false, false, false, false, false, false, false] ⟨21, [(1, .obj b1 ((Node.c n).map .r)), (2, .obj b2 [I 0, I 0, I 0, I 0, I 0, .r (.v (.slice none 0 0)), I 0, I 0, .r (.v (.slice none 0 0)), I 0, I 0, I 0, .r (.v (.slice none 0 0)), .r (.v (.slice none 0 0))]), (3, .pt 1 b1 5)]⟩ K := by
   refine RA.of hall (RA.step (L := [1, 3, 6]) (by kernel_rfl) (by simp) (RA.each ?_ (RA.each ?_ (RA.each ?_ (RA.each0)))))
   ·skip
    refine RO.v rfl rfl (V.loadPrim (d := .r (sl 1 cI n.conf)) rfl rfl (.inr ⟨_, rfl⟩) rfl rfl rfl) rfl ?_
    exact RA.to hall (RA.lr ro3_110000000000000 rfl rfl)
   ·skip
    refine RO.v rfl rfl (V.field rfl rfl rfl rfl (by decide) rfl) rfl ?_
    exact RA.to hall (RA.lr ro3_100100000000000 rfl rfl)
   ·skip
    refine RO.v rfl rfl (V.field rfl rfl rfl rfl (by decide) rfl) rfl ?_
    exact RA.to hall (RA.lr ro3_100000100000000 rfl rfl)
  have ro3_000000000000000 : RA E B all 15 #[false, false, false, false, false, false, false, false, false, false, false, false, false, false, false] ⟨21, [(1, .obj b1 ((Node.c n).map .r)), (2, .obj b2 [I 0, I 0, I 0, I 0, I 0, .r (.v (.slice none 0 0)), I 0, I 0, .r (.v (.slice none 0 0)), I 0, I 0, I 0, .r (.v (.slice none 0 0)), .r (.v (.slice none 0 0))])]⟩ K := by
   refine RA.of hall (RA.step (L := [0, 3, 6]) (by kernel_rfl) (by simp) (RA.each ?_ (RA.each ?_ (RA.each ?_ (RA.each0)))))
   ·skip
    refine RO.v rfl rfl (V.field rfl rfl rfl rfl (by decide) rfl) rfl ?_
    exact RA.to hall (RA.lr ro3_100000000000000 rfl rfl)
   ·skip
    refine RO.v rfl rfl (V.field rfl rfl rfl rfl (by decide) rfl) rfl ?_
    exact RA.to hall (RA.lr ro3_000100000000000 rfl rfl)
   ·skip
    refine RO.v rfl rfl (V.field rfl rfl rfl rfl (by decide) rfl) rfl ?_
    exact RA.to hall (RA.lr ro3_000000100000000 rfl rfl)
  exact RA.start (by kernel_rfl) (by kernel_rfl) (RA.lr ro3_000000000000000 rfl rfl)
 ·rintro ⟨go3_2_1, go3_5_1, go3_8_1⟩
  refine CW.seq ?_
  refine CW.region ?_
  refine RW.build0 Peer.c rfl rfl rfl rfl rfl fun X4 => ?_
  refine RW.v rfl (V.field rfl rfl rfl rfl (by decide) rfl) ?_
  refine RW.v rfl (V.loadPrim (d := .r (sl 4 Peer.c n.peers)) rfl rfl (.inr ⟨_, rfl⟩) rfl rfl rfl) ?_
  refine RW.appendSR (c := Peer.c) (l1 := ([] : List Peer)) (l2 := n.peers) rfl rfl rfl rfl rfl rfl rfl rfl .r (by decide) (Nat.le_of_ble_eq_true rfl) Peer.len (fun _ => rfl) rfl (by have h1 := hok.1.1; have h2 := hok.2.1.1; have h3 := hok.2.2.1.1; have h4 := hok.2.2.2.1; simp only [maxLen, List.length_nil]; omega) (by have h1 := hok.1.1; have h2 := hok.2.1.1; have h3 := hok.2.2.1.1; have h4 := hok.2.2.2.1; simp only [maxLen, List.length_nil]; omega) fun X5 => ?_
  refine RW.v rfl (V.field rfl rfl rfl rfl (by decide) rfl) ?_
  refine RW.store (d := .al 18 none 4 ((([] : List Peer) ++ n.peers).length) X5 0) rfl rfl rfl rfl rfl rfl rfl (Nat.le_of_ble_eq_true rfl) rfl rfl ?_
  refine RW.le [(1, .obj b1 [I n.id, I n.term_, I n.vote, I n.role, I n.lead, .w (sl 1 cI n.conf) (go3_2_1 0 0), I n.log.start, I n.log.startTerm, .w (sl 3 Entry.c n.log.entries) (go3_5_1 0 2), I n.commit, I n.clock, I n.limit, .w (sl 1 cI n.votes) (go3_8_1 0 0), .al 18 none 4 ((([] : List Peer) ++ n.peers).length) X5 0]), (2, .obj b2 [I 0, I 0, I 0, I 0, I 0, .r (.v (.slice none 0 0)), I 0, I 0, .r (.v (.slice none 0 0)), I 0, I 0, I 0, .r (.v (.slice none 0 0)), .r (.v (.slice none 0 0))]), (18, .w (sl 4 Peer.c (([] : List Peer) ++ n.peers)) X5)] rfl (Le.of rfl) ?_
  refine RW.pullT (k := 1) (l := 18) (j := 13) 1 18 13 rfl rfl rfl (by decide) rfl rfl rfl ?_
  refine RW.le [(1, .obj b1 [I n.id, I n.term_, I n.vote, I n.role, I n.lead, .w (sl 1 cI n.conf) (go3_2_1 0 0), I n.log.start, I n.log.startTerm, .w (sl 3 Entry.c n.log.entries) (go3_5_1 0 2), I n.commit, I n.clock, I n.limit, .w (sl 1 cI n.votes) (go3_8_1 0 0), .w (sl 4 Peer.c (([] : List Peer) ++ n.peers)) X5]), (2, .obj b2 [I 0, I 0, I 0, I 0, I 0, .r (.v (.slice none 0 0)), I 0, I 0, .r (.v (.slice none 0 0)), I 0, I 0, I 0, .r (.v (.slice none 0 0)), .r (.v (.slice none 0 0))])] rfl (Le.of rfl) ?_
  refine RW.nil ?_
  refine CW.le [(1, .obj b1 [I n.id, I n.term_, I n.vote, I n.role, I n.lead, .w (sl 1 cI n.conf) (go3_2_1 0 0), I n.log.start, I n.log.startTerm, .w (sl 3 Entry.c n.log.entries) (go3_5_1 0 2), I n.commit, I n.clock, I n.limit, .w (sl 1 cI n.votes) (go3_8_1 0 0), .w (sl 4 Peer.c (([] : List Peer) ++ n.peers)) X5]), (2, .obj b2 [I 0, I 0, I 0, I 0, I 0, .r (.v (.slice none 0 0)), I 0, I 0, .r (.v (.slice none 0 0)), I 0, I 0, I 0, .r (.v (.slice none 0 0)), .r (.v (.slice none 0 0))])] rfl (Le.of rfl) ?_
  refine CW.seq ?_
  refine CW.region ?_
  refine RW.v rfl (V.loadAgg rfl rfl rfl rfl rfl (Nat.le_of_ble_eq_true rfl)) ?_
  refine RW.storeAgg (es := [I n.id, I n.term_, I n.vote, I n.role, I n.lead, .al 1 (some 5) 1 n.conf.length (go3_2_1 0 0) 0, I n.log.start, I n.log.startTerm, .al 1 (some 8) 3 n.log.entries.length (go3_5_1 0 2) 0, I n.commit, I n.clock, I n.limit, .al 1 (some 12) 1 n.votes.length (go3_8_1 0 0) 0, .al 1 (some 13) 4 ((([] : List Peer) ++ n.peers).length) X5 0]) rfl rfl rfl rfl rfl rfl rfl rfl (Nat.le_of_ble_eq_true rfl) rfl ?_
  refine RW.le [(1, .obj b1 [I n.id, I n.term_, I n.vote, I n.role, I n.lead, .w (sl 1 cI n.conf) (go3_2_1 0 0), I n.log.start, I n.log.startTerm, .w (sl 3 Entry.c n.log.entries) (go3_5_1 0 2), I n.commit, I n.clock, I n.limit, .w (sl 1 cI n.votes) (go3_8_1 0 0), .w (sl 4 Peer.c (([] : List Peer) ++ n.peers)) X5]), (2, .obj b2 [I n.id, I n.term_, I n.vote, I n.role, I n.lead, .al 1 (some 5) 1 n.conf.length (go3_2_1 0 0) 0, I n.log.start, I n.log.startTerm, .al 1 (some 8) 3 n.log.entries.length (go3_5_1 0 2) 0, I n.commit, I n.clock, I n.limit, .al 1 (some 12) 1 n.votes.length (go3_8_1 0 0) 0, .al 1 (some 13) 4 ((([] : List Peer) ++ n.peers).length) X5 0])] rfl (Le.of rfl) ?_
  refine RW.pullO (k := 2) (l := 1) (j := 5) 2 1 5 rfl rfl rfl (by decide) rfl rfl rfl rfl ?_
  refine RW.le [(1, .obj b1 [I n.id, I n.term_, I n.vote, I n.role, I n.lead, .u, I n.log.start, I n.log.startTerm, .w (sl 3 Entry.c n.log.entries) (go3_5_1 0 2), I n.commit, I n.clock, I n.limit, .w (sl 1 cI n.votes) (go3_8_1 0 0), .w (sl 4 Peer.c (([] : List Peer) ++ n.peers)) X5]), (2, .obj b2 [I n.id, I n.term_, I n.vote, I n.role, I n.lead, .w (sl 1 cI n.conf) (go3_2_1 0 0), I n.log.start, I n.log.startTerm, .al 1 (some 8) 3 n.log.entries.length (go3_5_1 0 2) 0, I n.commit, I n.clock, I n.limit, .al 1 (some 12) 1 n.votes.length (go3_8_1 0 0) 0, .al 1 (some 13) 4 ((([] : List Peer) ++ n.peers).length) X5 0])] rfl (Le.of rfl) ?_
  refine RW.pullO (k := 2) (l := 1) (j := 8) 2 1 8 rfl rfl rfl (by decide) rfl rfl rfl rfl ?_
  refine RW.le [(1, .obj b1 [I n.id, I n.term_, I n.vote, I n.role, I n.lead, .u, I n.log.start, I n.log.startTerm, .u, I n.commit, I n.clock, I n.limit, .w (sl 1 cI n.votes) (go3_8_1 0 0), .w (sl 4 Peer.c (([] : List Peer) ++ n.peers)) X5]), (2, .obj b2 [I n.id, I n.term_, I n.vote, I n.role, I n.lead, .w (sl 1 cI n.conf) (go3_2_1 0 0), I n.log.start, I n.log.startTerm, .w (sl 3 Entry.c n.log.entries) (go3_5_1 0 2), I n.commit, I n.clock, I n.limit, .al 1 (some 12) 1 n.votes.length (go3_8_1 0 0) 0, .al 1 (some 13) 4 ((([] : List Peer) ++ n.peers).length) X5 0])] rfl (Le.of rfl) ?_
  refine RW.pullO (k := 2) (l := 1) (j := 12) 2 1 12 rfl rfl rfl (by decide) rfl rfl rfl rfl ?_
  refine RW.le [(1, .obj b1 [I n.id, I n.term_, I n.vote, I n.role, I n.lead, .u, I n.log.start, I n.log.startTerm, .u, I n.commit, I n.clock, I n.limit, .u, .w (sl 4 Peer.c (([] : List Peer) ++ n.peers)) X5]), (2, .obj b2 [I n.id, I n.term_, I n.vote, I n.role, I n.lead, .w (sl 1 cI n.conf) (go3_2_1 0 0), I n.log.start, I n.log.startTerm, .w (sl 3 Entry.c n.log.entries) (go3_5_1 0 2), I n.commit, I n.clock, I n.limit, .w (sl 1 cI n.votes) (go3_8_1 0 0), .al 1 (some 13) 4 ((([] : List Peer) ++ n.peers).length) X5 0])] rfl (Le.of rfl) ?_
  refine RW.pullO (k := 2) (l := 1) (j := 13) 2 1 13 rfl rfl rfl (by decide) rfl rfl rfl rfl ?_
  refine RW.le [(2, .obj b2 [I n.id, I n.term_, I n.vote, I n.role, I n.lead, .w (sl 1 cI n.conf) (go3_2_1 0 0), I n.log.start, I n.log.startTerm, .w (sl 3 Entry.c n.log.entries) (go3_5_1 0 2), I n.commit, I n.clock, I n.limit, .w (sl 1 cI n.votes) (go3_8_1 0 0), .w (sl 4 Peer.c (([] : List Peer) ++ n.peers)) X5])] rfl (Le.of rfl) ?_
  refine RW.nil ?_
  refine CW.le [(2, .obj b2 [I n.id, I n.term_, I n.vote, I n.role, I n.lead, .w (sl 1 cI n.conf) (go3_2_1 0 0), I n.log.start, I n.log.startTerm, .w (sl 3 Entry.c n.log.entries) (go3_5_1 0 2), I n.commit, I n.clock, I n.limit, .w (sl 1 cI n.votes) (go3_8_1 0 0), .w (sl 4 Peer.c (([] : List Peer) ++ n.peers)) X5])] rfl (Le.of rfl) ?_
  refine CW.ret ?_
  exact Post.one (RV.c (f := fun e => (Node.c e).map .w) (e' := (⟨n.id, n.term_, n.vote, n.role, n.lead, n.conf, n.log, n.commit, n.clock, n.limit, n.votes, (([] : List Peer) ++ n.peers)⟩ : Node)) rfl rfl rfl rfl (DT.v (DT.v (DT.v (DT.v (DT.v (DT.w (DT.v (DT.v (DT.w (DT.v (DT.v (DT.v (DT.w (DT.w DT.e)))))))))))))) (by rfl)) (AOs.a rfl AOs.e)
set_option maxHeartbeats 4000000 in
theorem spec_l18Copy_fn (n : Node) (hok : okToNode n) : Eng.Fn E.P 81 [.agg ((Node.c n).map .r)] (.one (.agg ((Node.c n).map .w))) [.agg ((Node.c n).map .r)] := by
 refine Eng.Fn.intro (E := E) (rvs := [.cell 2 47]) Try.func81 rfl rfl rfl (by simp [outSlots, moved, rvSlot, sl]) ?_
 intro B g bo
 refine CW.le [(0, .agg ((Node.c n).map .r))] rfl (Le.of rfl) ?_
 refine CW.seq ?_
 refine CW.region ?_
 refine RW.box (ds := ((Node.c n).map .r)) rfl rfl rfl fun b1 => ?_
 refine RW.alloc (ds := [I 0, I 0, I 0, I 0, I 0, .r (.v (.slice none 0 0)), I 0, I 0, .r (.v (.slice none 0 0)), I 0, I 0, I 0, .r (.v (.slice none 0 0)), .r (.v (.slice none 0 0))]) rfl rfl rfl rfl fun b2 => ?_
 refine RW.nil ?_
 refine CW.le [(1, .obj b1 ((Node.c n).map .r)), (2, .obj b2 [I 0, I 0, I 0, I 0, I 0, .r (.v (.slice none 0 0)), I 0, I 0, .r (.v (.slice none 0 0)), I 0, I 0, I 0, .r (.v (.slice none 0 0)), .r (.v (.slice none 0 0))])] rfl (Le.of rfl) ?_
 refine CW.seq ?_
 refine CW.region ?_
 refine RW.build0 cI rfl rfl rfl rfl rfl fun X3 => ?_
 refine RW.v rfl (V.field rfl rfl rfl rfl (by decide) rfl) ?_
 refine RW.v rfl (V.loadPrim (d := .r (sl 1 cI n.conf)) rfl rfl (.inr ⟨_, rfl⟩) rfl rfl rfl) ?_
 refine RW.appendSR (c := cI) (l1 := ([] : List Int)) (l2 := n.conf) rfl rfl rfl rfl rfl rfl rfl rfl .r (by decide) (Nat.le_of_ble_eq_true rfl) cI.len (fun _ => rfl) rfl (by have h1 := hok.1.1; have h2 := hok.2.1.1; have h3 := hok.2.2.1.1; have h4 := hok.2.2.2.1; simp only [maxLen, List.length_nil]; omega) (by have h1 := hok.1.1; have h2 := hok.2.1.1; have h3 := hok.2.2.1.1; have h4 := hok.2.2.2.1; simp only [maxLen, List.length_nil]; omega) fun X4 => ?_
 refine RW.v rfl (V.field rfl rfl rfl rfl (by decide) rfl) ?_
 refine RW.store (d := .al 6 none 1 ((([] : List Int) ++ n.conf).length) X4 0) rfl rfl rfl rfl rfl rfl rfl (Nat.le_of_ble_eq_true rfl) rfl rfl ?_
 refine RW.le [(1, .obj b1 [I n.id, I n.term_, I n.vote, I n.role, I n.lead, .al 6 none 1 ((([] : List Int) ++ n.conf).length) X4 0, I n.log.start, I n.log.startTerm, .r (sl 3 Entry.c n.log.entries), I n.commit, I n.clock, I n.limit, .r (sl 1 cI n.votes), .r (sl 4 Peer.c n.peers)]), (2, .obj b2 [I 0, I 0, I 0, I 0, I 0, .r (.v (.slice none 0 0)), I 0, I 0, .r (.v (.slice none 0 0)), I 0, I 0, I 0, .r (.v (.slice none 0 0)), .r (.v (.slice none 0 0))]), (6, .w (sl 1 cI (([] : List Int) ++ n.conf)) X4)] rfl (Le.of rfl) ?_
 refine RW.pullT (k := 1) (l := 6) (j := 5) 1 6 5 rfl rfl rfl (by decide) rfl rfl rfl ?_
 refine RW.le [(1, .obj b1 [I n.id, I n.term_, I n.vote, I n.role, I n.lead, .w (sl 1 cI (([] : List Int) ++ n.conf)) X4, I n.log.start, I n.log.startTerm, .r (sl 3 Entry.c n.log.entries), I n.commit, I n.clock, I n.limit, .r (sl 1 cI n.votes), .r (sl 4 Peer.c n.peers)]), (2, .obj b2 [I 0, I 0, I 0, I 0, I 0, .r (.v (.slice none 0 0)), I 0, I 0, .r (.v (.slice none 0 0)), I 0, I 0, I 0, .r (.v (.slice none 0 0)), .r (.v (.slice none 0 0))])] rfl (Le.of rfl) ?_
 refine RW.nil ?_
 refine CW.le [(1, .obj b1 [I n.id, I n.term_, I n.vote, I n.role, I n.lead, .w (sl 1 cI (([] : List Int) ++ n.conf)) X4, I n.log.start, I n.log.startTerm, .r (sl 3 Entry.c n.log.entries), I n.commit, I n.clock, I n.limit, .r (sl 1 cI n.votes), .r (sl 4 Peer.c n.peers)]), (2, .obj b2 [I 0, I 0, I 0, I 0, I 0, .r (.v (.slice none 0 0)), I 0, I 0, .r (.v (.slice none 0 0)), I 0, I 0, I 0, .r (.v (.slice none 0 0)), .r (.v (.slice none 0 0))])] rfl (Le.of rfl) ?_
 refine CW.seq ?_
 refine CW.region ?_
 refine RW.build0 Entry.c rfl rfl rfl rfl rfl fun X5 => ?_
 refine RW.v rfl (V.field rfl rfl rfl rfl (by decide) rfl) ?_
 refine RW.v rfl (V.field rfl rfl rfl rfl (by decide) rfl) ?_
 refine RW.v rfl (V.loadPrim (d := .r (sl 3 Entry.c n.log.entries)) rfl rfl (.inr ⟨_, rfl⟩) rfl rfl rfl) ?_
 refine RW.appendSR (c := Entry.c) (l1 := ([] : List Entry)) (l2 := n.log.entries) rfl rfl rfl rfl rfl rfl rfl rfl .r (by decide) (Nat.le_of_ble_eq_true rfl) Entry.len (fun _ => rfl) rfl (by have h1 := hok.1.1; have h2 := hok.2.1.1; have h3 := hok.2.2.1.1; have h4 := hok.2.2.2.1; simp only [maxLen, List.length_nil]; omega) (by have h1 := hok.1.1; have h2 := hok.2.1.1; have h3 := hok.2.2.1.1; have h4 := hok.2.2.2.1; simp only [maxLen, List.length_nil]; omega) fun X6 => ?_
 refine RW.v rfl (V.field rfl rfl rfl rfl (by decide) rfl) ?_
 refine RW.v rfl (V.field rfl rfl rfl rfl (by decide) rfl) ?_
 refine RW.store (d := .al 12 none 3 ((([] : List Entry) ++ n.log.entries).length) X6 0) rfl rfl rfl rfl rfl rfl rfl (Nat.le_of_ble_eq_true rfl) rfl rfl ?_
 refine RW.le [(1, .obj b1 [I n.id, I n.term_, I n.vote, I n.role, I n.lead, .w (sl 1 cI (([] : List Int) ++ n.conf)) X4, I n.log.start, I n.log.startTerm, .al 12 none 3 ((([] : List Entry) ++ n.log.entries).length) X6 0, I n.commit, I n.clock, I n.limit, .r (sl 1 cI n.votes), .r (sl 4 Peer.c n.peers)]), (2, .obj b2 [I 0, I 0, I 0, I 0, I 0, .r (.v (.slice none 0 0)), I 0, I 0, .r (.v (.slice none 0 0)), I 0, I 0, I 0, .r (.v (.slice none 0 0)), .r (.v (.slice none 0 0))]), (12, .w (sl 3 Entry.c (([] : List Entry) ++ n.log.entries)) X6)] rfl (Le.of rfl) ?_
 refine RW.pullT (k := 1) (l := 12) (j := 8) 1 12 8 rfl rfl rfl (by decide) rfl rfl rfl ?_
 refine RW.le [(1, .obj b1 [I n.id, I n.term_, I n.vote, I n.role, I n.lead, .w (sl 1 cI (([] : List Int) ++ n.conf)) X4, I n.log.start, I n.log.startTerm, .w (sl 3 Entry.c (([] : List Entry) ++ n.log.entries)) X6, I n.commit, I n.clock, I n.limit, .r (sl 1 cI n.votes), .r (sl 4 Peer.c n.peers)]), (2, .obj b2 [I 0, I 0, I 0, I 0, I 0, .r (.v (.slice none 0 0)), I 0, I 0, .r (.v (.slice none 0 0)), I 0, I 0, I 0, .r (.v (.slice none 0 0)), .r (.v (.slice none 0 0))])] rfl (Le.of rfl) ?_
 refine RW.nil ?_
 refine CW.le [(1, .obj b1 [I n.id, I n.term_, I n.vote, I n.role, I n.lead, .w (sl 1 cI (([] : List Int) ++ n.conf)) X4, I n.log.start, I n.log.startTerm, .w (sl 3 Entry.c (([] : List Entry) ++ n.log.entries)) X6, I n.commit, I n.clock, I n.limit, .r (sl 1 cI n.votes), .r (sl 4 Peer.c n.peers)]), (2, .obj b2 [I 0, I 0, I 0, I 0, I 0, .r (.v (.slice none 0 0)), I 0, I 0, .r (.v (.slice none 0 0)), I 0, I 0, I 0, .r (.v (.slice none 0 0)), .r (.v (.slice none 0 0))])] rfl (Le.of rfl) ?_
 refine CW.seq ?_
 refine CW.region ?_
 refine RW.build0 cI rfl rfl rfl rfl rfl fun X7 => ?_
 refine RW.v rfl (V.field rfl rfl rfl rfl (by decide) rfl) ?_
 refine RW.v rfl (V.loadPrim (d := .r (sl 1 cI n.votes)) rfl rfl (.inr ⟨_, rfl⟩) rfl rfl rfl) ?_
 refine RW.appendSR (c := cI) (l1 := ([] : List Int)) (l2 := n.votes) rfl rfl rfl rfl rfl rfl rfl rfl .r (by decide) (Nat.le_of_ble_eq_true rfl) cI.len (fun _ => rfl) rfl (by have h1 := hok.1.1; have h2 := hok.2.1.1; have h3 := hok.2.2.1.1; have h4 := hok.2.2.2.1; simp only [maxLen, List.length_nil]; omega) (by have h1 := hok.1.1; have h2 := hok.2.1.1; have h3 := hok.2.2.1.1; have h4 := hok.2.2.2.1; simp only [maxLen, List.length_nil]; omega) fun X8 => ?_
 refine RW.v rfl (V.field rfl rfl rfl rfl (by decide) rfl) ?_
 refine RW.store (d := .al 18 none 1 ((([] : List Int) ++ n.votes).length) X8 0) rfl rfl rfl rfl rfl rfl rfl (Nat.le_of_ble_eq_true rfl) rfl rfl ?_
 refine RW.le [(1, .obj b1 [I n.id, I n.term_, I n.vote, I n.role, I n.lead, .w (sl 1 cI (([] : List Int) ++ n.conf)) X4, I n.log.start, I n.log.startTerm, .w (sl 3 Entry.c (([] : List Entry) ++ n.log.entries)) X6, I n.commit, I n.clock, I n.limit, .al 18 none 1 ((([] : List Int) ++ n.votes).length) X8 0, .r (sl 4 Peer.c n.peers)]), (2, .obj b2 [I 0, I 0, I 0, I 0, I 0, .r (.v (.slice none 0 0)), I 0, I 0, .r (.v (.slice none 0 0)), I 0, I 0, I 0, .r (.v (.slice none 0 0)), .r (.v (.slice none 0 0))]), (18, .w (sl 1 cI (([] : List Int) ++ n.votes)) X8)] rfl (Le.of rfl) ?_
 refine RW.pullT (k := 1) (l := 18) (j := 12) 1 18 12 rfl rfl rfl (by decide) rfl rfl rfl ?_
 refine RW.le [(1, .obj b1 [I n.id, I n.term_, I n.vote, I n.role, I n.lead, .w (sl 1 cI (([] : List Int) ++ n.conf)) X4, I n.log.start, I n.log.startTerm, .w (sl 3 Entry.c (([] : List Entry) ++ n.log.entries)) X6, I n.commit, I n.clock, I n.limit, .w (sl 1 cI (([] : List Int) ++ n.votes)) X8, .r (sl 4 Peer.c n.peers)]), (2, .obj b2 [I 0, I 0, I 0, I 0, I 0, .r (.v (.slice none 0 0)), I 0, I 0, .r (.v (.slice none 0 0)), I 0, I 0, I 0, .r (.v (.slice none 0 0)), .r (.v (.slice none 0 0))])] rfl (Le.of rfl) ?_
 refine RW.nil ?_
 refine CW.le [(1, .obj b1 [I n.id, I n.term_, I n.vote, I n.role, I n.lead, .w (sl 1 cI (([] : List Int) ++ n.conf)) X4, I n.log.start, I n.log.startTerm, .w (sl 3 Entry.c (([] : List Entry) ++ n.log.entries)) X6, I n.commit, I n.clock, I n.limit, .w (sl 1 cI (([] : List Int) ++ n.votes)) X8, .r (sl 4 Peer.c n.peers)]), (2, .obj b2 [I 0, I 0, I 0, I 0, I 0, .r (.v (.slice none 0 0)), I 0, I 0, .r (.v (.slice none 0 0)), I 0, I 0, I 0, .r (.v (.slice none 0 0)), .r (.v (.slice none 0 0))])] rfl (Le.of rfl) ?_
 refine CW.seq ?_
 refine CW.region ?_
 refine RW.build0 Peer.c rfl rfl rfl rfl rfl fun X9 => ?_
 refine RW.v rfl (V.field rfl rfl rfl rfl (by decide) rfl) ?_
 refine RW.v rfl (V.loadPrim (d := .r (sl 4 Peer.c n.peers)) rfl rfl (.inr ⟨_, rfl⟩) rfl rfl rfl) ?_
 refine RW.appendSR (c := Peer.c) (l1 := ([] : List Peer)) (l2 := n.peers) rfl rfl rfl rfl rfl rfl rfl rfl .r (by decide) (Nat.le_of_ble_eq_true rfl) Peer.len (fun _ => rfl) rfl (by have h1 := hok.1.1; have h2 := hok.2.1.1; have h3 := hok.2.2.1.1; have h4 := hok.2.2.2.1; simp only [maxLen, List.length_nil]; omega) (by have h1 := hok.1.1; have h2 := hok.2.1.1; have h3 := hok.2.2.1.1; have h4 := hok.2.2.2.1; simp only [maxLen, List.length_nil]; omega) fun X10 => ?_
 refine RW.v rfl (V.field rfl rfl rfl rfl (by decide) rfl) ?_
 refine RW.store (d := .al 23 none 4 ((([] : List Peer) ++ n.peers).length) X10 0) rfl rfl rfl rfl rfl rfl rfl (Nat.le_of_ble_eq_true rfl) rfl rfl ?_
 refine RW.le [(1, .obj b1 [I n.id, I n.term_, I n.vote, I n.role, I n.lead, .w (sl 1 cI (([] : List Int) ++ n.conf)) X4, I n.log.start, I n.log.startTerm, .w (sl 3 Entry.c (([] : List Entry) ++ n.log.entries)) X6, I n.commit, I n.clock, I n.limit, .w (sl 1 cI (([] : List Int) ++ n.votes)) X8, .al 23 none 4 ((([] : List Peer) ++ n.peers).length) X10 0]), (2, .obj b2 [I 0, I 0, I 0, I 0, I 0, .r (.v (.slice none 0 0)), I 0, I 0, .r (.v (.slice none 0 0)), I 0, I 0, I 0, .r (.v (.slice none 0 0)), .r (.v (.slice none 0 0))]), (23, .w (sl 4 Peer.c (([] : List Peer) ++ n.peers)) X10)] rfl (Le.of rfl) ?_
 refine RW.pullT (k := 1) (l := 23) (j := 13) 1 23 13 rfl rfl rfl (by decide) rfl rfl rfl ?_
 refine RW.le [(1, .obj b1 [I n.id, I n.term_, I n.vote, I n.role, I n.lead, .w (sl 1 cI (([] : List Int) ++ n.conf)) X4, I n.log.start, I n.log.startTerm, .w (sl 3 Entry.c (([] : List Entry) ++ n.log.entries)) X6, I n.commit, I n.clock, I n.limit, .w (sl 1 cI (([] : List Int) ++ n.votes)) X8, .w (sl 4 Peer.c (([] : List Peer) ++ n.peers)) X10]), (2, .obj b2 [I 0, I 0, I 0, I 0, I 0, .r (.v (.slice none 0 0)), I 0, I 0, .r (.v (.slice none 0 0)), I 0, I 0, I 0, .r (.v (.slice none 0 0)), .r (.v (.slice none 0 0))])] rfl (Le.of rfl) ?_
 refine RW.nil ?_
 refine CW.le [(1, .obj b1 [I n.id, I n.term_, I n.vote, I n.role, I n.lead, .w (sl 1 cI (([] : List Int) ++ n.conf)) X4, I n.log.start, I n.log.startTerm, .w (sl 3 Entry.c (([] : List Entry) ++ n.log.entries)) X6, I n.commit, I n.clock, I n.limit, .w (sl 1 cI (([] : List Int) ++ n.votes)) X8, .w (sl 4 Peer.c (([] : List Peer) ++ n.peers)) X10]), (2, .obj b2 [I 0, I 0, I 0, I 0, I 0, .r (.v (.slice none 0 0)), I 0, I 0, .r (.v (.slice none 0 0)), I 0, I 0, I 0, .r (.v (.slice none 0 0)), .r (.v (.slice none 0 0))])] rfl (Le.of rfl) ?_
 refine CW.seq ?_
 refine CW.region ?_
 refine RW.v rfl (V.loadAgg rfl rfl rfl rfl rfl (Nat.le_of_ble_eq_true rfl)) ?_
 refine RW.storeAgg (es := [I n.id, I n.term_, I n.vote, I n.role, I n.lead, .al 1 (some 5) 1 ((([] : List Int) ++ n.conf).length) X4 0, I n.log.start, I n.log.startTerm, .al 1 (some 8) 3 ((([] : List Entry) ++ n.log.entries).length) X6 0, I n.commit, I n.clock, I n.limit, .al 1 (some 12) 1 ((([] : List Int) ++ n.votes).length) X8 0, .al 1 (some 13) 4 ((([] : List Peer) ++ n.peers).length) X10 0]) rfl rfl rfl rfl rfl rfl rfl rfl (Nat.le_of_ble_eq_true rfl) rfl ?_
 refine RW.le [(1, .obj b1 [I n.id, I n.term_, I n.vote, I n.role, I n.lead, .w (sl 1 cI (([] : List Int) ++ n.conf)) X4, I n.log.start, I n.log.startTerm, .w (sl 3 Entry.c (([] : List Entry) ++ n.log.entries)) X6, I n.commit, I n.clock, I n.limit, .w (sl 1 cI (([] : List Int) ++ n.votes)) X8, .w (sl 4 Peer.c (([] : List Peer) ++ n.peers)) X10]), (2, .obj b2 [I n.id, I n.term_, I n.vote, I n.role, I n.lead, .al 1 (some 5) 1 ((([] : List Int) ++ n.conf).length) X4 0, I n.log.start, I n.log.startTerm, .al 1 (some 8) 3 ((([] : List Entry) ++ n.log.entries).length) X6 0, I n.commit, I n.clock, I n.limit, .al 1 (some 12) 1 ((([] : List Int) ++ n.votes).length) X8 0, .al 1 (some 13) 4 ((([] : List Peer) ++ n.peers).length) X10 0])] rfl (Le.of rfl) ?_
 refine RW.pullO (k := 2) (l := 1) (j := 5) 2 1 5 rfl rfl rfl (by decide) rfl rfl rfl rfl ?_
 refine RW.le [(1, .obj b1 [I n.id, I n.term_, I n.vote, I n.role, I n.lead, .u, I n.log.start, I n.log.startTerm, .w (sl 3 Entry.c (([] : List Entry) ++ n.log.entries)) X6, I n.commit, I n.clock, I n.limit, .w (sl 1 cI (([] : List Int) ++ n.votes)) X8, .w (sl 4 Peer.c (([] : List Peer) ++ n.peers)) X10]), (2, .obj b2 [I n.id, I n.term_, I n.vote, I n.role, I n.lead, .w (sl 1 cI (([] : List Int) ++ n.conf)) X4, I n.log.start, I n.log.startTerm, .al 1 (some 8) 3 ((([] : List Entry) ++ n.log.entries).length) X6 0, I n.commit, I n.clock, I n.limit, .al 1 (some 12) 1 ((([] : List Int) ++ n.votes).length) X8 0, .al 1 (some 13) 4 ((([] : List Peer) ++ n.peers).length) X10 0])] rfl (Le.of rfl) ?_
 refine RW.pullO (k := 2) (l := 1) (j := 8) 2 1 8 rfl rfl rfl (by decide) rfl rfl rfl rfl ?_
 refine RW.le [(1, .obj b1 [I n.id, I n.term_, I n.vote, I n.role, I n.lead, .u, I n.log.start, I n.log.startTerm, .u, I n.commit, I n.clock, I n.limit, .w (sl 1 cI (([] : List Int) ++ n.votes)) X8, .w (sl 4 Peer.c (([] : List Peer) ++ n.peers)) X10]), (2, .obj b2 [I n.id, I n.term_, I n.vote, I n.role, I n.lead, .w (sl 1 cI (([] : List Int) ++ n.conf)) X4, I n.log.start, I n.log.startTerm, .w (sl 3 Entry.c (([] : List Entry) ++ n.log.entries)) X6, I n.commit, I n.clock, I n.limit, .al 1 (some 12) 1 ((([] : List Int) ++ n.votes).length) X8 0, .al 1 (some 13) 4 ((([] : List Peer) ++ n.peers).length) X10 0])] rfl (Le.of rfl) ?_
 refine RW.pullO (k := 2) (l := 1) (j := 12) 2 1 12 rfl rfl rfl (by decide) rfl rfl rfl rfl ?_
 refine RW.le [(1, .obj b1 [I n.id, I n.term_, I n.vote, I n.role, I n.lead, .u, I n.log.start, I n.log.startTerm, .u, I n.commit, I n.clock, I n.limit, .u, .w (sl 4 Peer.c (([] : List Peer) ++ n.peers)) X10]), (2, .obj b2 [I n.id, I n.term_, I n.vote, I n.role, I n.lead, .w (sl 1 cI (([] : List Int) ++ n.conf)) X4, I n.log.start, I n.log.startTerm, .w (sl 3 Entry.c (([] : List Entry) ++ n.log.entries)) X6, I n.commit, I n.clock, I n.limit, .w (sl 1 cI (([] : List Int) ++ n.votes)) X8, .al 1 (some 13) 4 ((([] : List Peer) ++ n.peers).length) X10 0])] rfl (Le.of rfl) ?_
 refine RW.pullO (k := 2) (l := 1) (j := 13) 2 1 13 rfl rfl rfl (by decide) rfl rfl rfl rfl ?_
 refine RW.le [(2, .obj b2 [I n.id, I n.term_, I n.vote, I n.role, I n.lead, .w (sl 1 cI (([] : List Int) ++ n.conf)) X4, I n.log.start, I n.log.startTerm, .w (sl 3 Entry.c (([] : List Entry) ++ n.log.entries)) X6, I n.commit, I n.clock, I n.limit, .w (sl 1 cI (([] : List Int) ++ n.votes)) X8, .w (sl 4 Peer.c (([] : List Peer) ++ n.peers)) X10])] rfl (Le.of rfl) ?_
 refine RW.nil ?_
 refine CW.le [(2, .obj b2 [I n.id, I n.term_, I n.vote, I n.role, I n.lead, .w (sl 1 cI (([] : List Int) ++ n.conf)) X4, I n.log.start, I n.log.startTerm, .w (sl 3 Entry.c (([] : List Entry) ++ n.log.entries)) X6, I n.commit, I n.clock, I n.limit, .w (sl 1 cI (([] : List Int) ++ n.votes)) X8, .w (sl 4 Peer.c (([] : List Peer) ++ n.peers)) X10])] rfl (Le.of rfl) ?_
 refine CW.ret ?_
 exact Post.one (RV.c (f := fun e => (Node.c e).map .w) (e' := (⟨n.id, n.term_, n.vote, n.role, n.lead, (([] : List Int) ++ n.conf), (⟨n.log.start, n.log.startTerm, (([] : List Entry) ++ n.log.entries)⟩ : Log), n.commit, n.clock, n.limit, (([] : List Int) ++ n.votes), (([] : List Peer) ++ n.peers)⟩ : Node)) rfl rfl rfl rfl (DT.v (DT.v (DT.v (DT.v (DT.v (DT.w (DT.v (DT.v (DT.w (DT.v (DT.v (DT.v (DT.w (DT.w DT.e)))))))))))))) (by rfl)) (AOs.a rfl AOs.e)
set_option maxHeartbeats 4000000 in
theorem impl_ConfAt_fn (n : Node) (idx : Int) (hok : okToNode n) : Eng.Fn E.P 45 [.agg ((Node.c n).map .r), .one (.r (.v (.int .i64 idx)))] (.one (.one (.w (sl 1 cI ((lastC n idx).2))))) [.agg ((Node.c n).map .r), .one (.r (.v (.int .i64 idx)))] := by
 refine Eng.Fn.intro (E := E) (rvs := [.tmp 4]) Try.func45 rfl rfl rfl (by simp [outSlots, moved, rvSlot, sl]) ?_
 intro B g bo
 refine CW.le [(0, .agg ((Node.c n).map .r)), (1, I idx)] rfl (Le.of rfl) ?_
 refine CW.seq ?_
 refine CW.region ?_
 refine RW.box (ds := ((Node.c n).map .r)) rfl rfl rfl fun b1 => ?_
 refine RW.v rfl (V.as (d := .r (.v (.slice none 0 0))) rfl rfl) ?_
 refine RW.nil ?_
 refine CW.le [(1, I idx), (2, .obj b1 ((Node.c n).map .r))] rfl (Le.of rfl) ?_
 refine CW.seq ?_
 refine CW.region ?_
 refine RW.v rfl (V.loadAgg rfl rfl rfl rfl rfl (Nat.le_of_ble_eq_true rfl)) ?_
 refine RW.v rfl (V.mv (d := I idx) rfl rfl) ?_
 refine RW.call rfl (impl_lastConf_fn n idx hok) rfl (.cons (.agg (.cons (.r .r) (.cons (.r .r) (.cons (.r .r) (.cons (.r .r) (.cons (.r .r) (.cons (.r .r) (.cons (.r .r) (.cons (.r .r) (.cons (.r .r) (.cons (.r .r) (.cons (.r .r) (.cons (.r .r) (.cons (.r .r) (.cons (.r .r) (.nil)))))))))))))))) (.cons (.one (.r .r)) (.nil))) fun g2 => ?_
 refine RW.moveMove rfl rfl rfl (by decide) (Nat.le_of_ble_eq_true rfl) (Nat.le_of_ble_eq_true rfl) ?_
 refine RW.extract (d := I ((lastC n idx).1)) rfl rfl rfl (by decide) (Nat.le_of_ble_eq_true rfl) rfl rfl ?_
 refine RW.extract (d := .w (sl 1 cI ((lastC n idx).2)) (g2 1 0)) rfl rfl rfl (by decide) (Nat.le_of_ble_eq_true rfl) rfl rfl ?_
 refine RW.v rfl (V.as (d := I ((lastC n idx).1)) rfl rfl) ?_
 refine RW.assignMove rfl rfl rfl (by decide) (Nat.le_of_ble_eq_true rfl) (Nat.le_of_ble_eq_true rfl) ?_
 refine RW.nil ?_
 refine CW.le [(6, .w (sl 1 cI ((lastC n idx).2)) (g2 1 0))] rfl (Le.of rfl) ?_
 refine CW.seq ?_
 refine CW.region ?_
 refine RW.v rfl (V.mv (d := .al 6 none 1 (((lastC n idx).2).length) (g2 1 0) 0) rfl rfl) ?_
 refine RW.v rfl (V.as (d := .al 6 none 1 (((lastC n idx).2).length) (g2 1 0) 0) rfl rfl) ?_
 refine RW.pullS 4 6 (by decide) rfl rfl ?_
 refine RW.nil ?_
 refine CW.le [(4, .w (sl 1 cI ((lastC n idx).2)) (g2 1 0))] rfl (Le.of rfl) ?_
 refine CW.ret ?_
 exact Post.one (RV.w rfl (by rfl)) (AOs.a rfl (AOs.r AOs.e))
set_option maxHeartbeats 4000000 in
theorem spec_Settle_fn (n : Node) (i : Int) (hok : okToNode n) : Eng.Fn E.P 31 [.agg ((Node.c n).map .r), .one (.r (.v (.int .i64 i)))] (.tup [.agg ((Node.c ((settle n i).1)).map .w), .one (.w (.v (.bool ((settle n i).2))))]) [.agg ((Node.c n).map .r), .one (.r (.v (.int .i64 i)))] := by
 refine Eng.Fn.intro (E := E) (rvs := [.cell 4 47, .tmp 5]) Try.func31 rfl rfl rfl (by simp [outSlots, moved, rvSlot, sl]) ?_
 intro B g bo
 refine CW.le [(0, .agg ((Node.c n).map .r)), (1, I i)] rfl (Le.of rfl) ?_
 refine CW.seq ?_
 refine CW.region ?_
 refine RW.box (ds := ((Node.c n).map .r)) rfl rfl rfl fun b1 => ?_
 refine RW.alloc (ds := [I 0, I 0, I 0, I 0, I 0, .r (.v (.slice none 0 0)), I 0, I 0, .r (.v (.slice none 0 0)), I 0, I 0, I 0, .r (.v (.slice none 0 0)), .r (.v (.slice none 0 0))]) rfl rfl rfl rfl fun b2 => ?_
 refine RW.v rfl (V.as (d := Bo false) rfl rfl) ?_
 refine RW.nil ?_
 refine CW.le [(1, I i), (2, .obj b1 ((Node.c n).map .r)), (4, .obj b2 [I 0, I 0, I 0, I 0, I 0, .r (.v (.slice none 0 0)), I 0, I 0, .r (.v (.slice none 0 0)), I 0, I 0, I 0, .r (.v (.slice none 0 0)), .r (.v (.slice none 0 0))])] rfl (Le.of rfl) ?_
 refine CW.seq ?_
 refine CW.seqJ 37 (fun (v3 : Bool) => [(1, I i), (2, .obj b1 ((Node.c n).map .r)), (4, .obj b2 [I 0, I 0, I 0, I 0, I 0, .r (.v (.slice none 0 0)), I 0, I 0, .r (.v (.slice none 0 0)), I 0, I 0, I 0, .r (.v (.slice none 0 0)), .r (.v (.slice none 0 0))]), (19, Bo v3)]) (fun v3 => v3 = ((!(nodeOk n)) || (!(inR i n.log.start n.commit)))) ?_ ?_
 ·refine CW.region ?_
  refine RW.v rfl (V.loadAgg rfl rfl rfl rfl rfl (Nat.le_of_ble_eq_true rfl)) ?_
  refine RW.call rfl (spec_NodeOk_fn n hok) rfl (.cons (.agg (.cons (.r .r) (.cons (.r .r) (.cons (.r .r) (.cons (.r .r) (.cons (.r .r) (.cons (.r .r) (.cons (.r .r) (.cons (.r .r) (.cons (.r .r) (.cons (.r .r) (.cons (.r .r) (.cons (.r .r) (.cons (.r .r) (.cons (.r .r) (.nil)))))))))))))))) (.nil)) fun g4 => ?_
  refine RW.v rfl (V.not rfl rfl) ?_
  refine RW.v rfl (V.mv (d := Bo (!(nodeOk n))) rfl rfl) ?_
  refine RW.gv rfl rfl rfl rfl (fun h5 => V.mv (d := I i) rfl rfl) (fun h5 => ?_) (fun h5 => ?_)
  ·skip
   refine RW.gt rfl rfl rfl rfl (V.field rfl rfl rfl rfl (by decide) rfl) ?_
   refine RW.gt rfl rfl rfl rfl (V.field rfl rfl rfl rfl (by decide) rfl) ?_
   refine RW.gt rfl rfl rfl rfl (V.loadPrim (d := I n.log.start) rfl rfl (.inl rfl) rfl rfl rfl) ?_
   refine RW.gt rfl rfl rfl rfl (V.field rfl rfl rfl rfl (by decide) rfl) ?_
   refine RW.gt rfl rfl rfl rfl (V.loadPrim (d := I n.commit) rfl rfl (.inl rfl) rfl rfl rfl) ?_
   refine RW.gcall rfl rfl rfl rfl (spec_l01In_fn i n.log.start n.commit) rfl (.cons (.one (.r .r)) (.cons (.one (.r .r)) (.cons (.one (.r .r)) (.nil)))) fun g6 => ?_
   refine RW.gt rfl rfl rfl rfl (V.not rfl rfl) ?_
   refine RW.v rfl (V.pickF (d := Bo (!(inR i n.log.start n.commit))) rfl rfl rfl) ?_
   refine RW.nil ?_
   exact ⟨_, by first | rfl | (simp_all; done) | (simp_all; omega) | grind, rfl, Le.c rfl <| Le.c rfl <| Le.c rfl <| Le.c rfl <| Le.e⟩
  ·skip
   refine RW.guardF rfl rfl rfl rfl ?_
   refine RW.guardF rfl rfl rfl rfl ?_
   refine RW.guardF rfl rfl rfl rfl ?_
   refine RW.guardF rfl rfl rfl rfl ?_
   refine RW.guardF rfl rfl rfl rfl ?_
   refine RW.guardF rfl rfl rfl rfl ?_
   refine RW.guardF rfl rfl rfl rfl ?_
   refine RW.v rfl (V.pickT (d := Bo true) rfl rfl rfl) ?_
   refine RW.nil ?_
   exact ⟨_, by first | rfl | (simp_all; done) | (simp_all; omega) | grind, rfl, Le.c rfl <| Le.c rfl <| Le.c rfl <| Le.c rfl <| Le.e⟩
 ·intro v3 hv7
  refine CW.cond rfl (fun h8 => ?_) (fun h8 => ?_)
  ·skip
   have hno : settle n i = (Node.z, false) := settle_no (by rw [← hv7]; exact h8)
   refine CW.seq ?_
   refine CW.region ?_
   refine RW.v rfl (V.build (ds := [I 0, I 0, I 0, I 0, I 0, .r (.v (.slice none 0 0)), I 0, I 0, .r (.v (.slice none 0 0)), I 0, I 0, I 0, .r (.v (.slice none 0 0)), .r (.v (.slice none 0 0))]) rfl rfl rfl rfl (.nil)) ?_
   refine RW.storeAgg (es := [I 0, I 0, I 0, I 0, I 0, .r (.v (.slice none 0 0)), I 0, I 0, .r (.v (.slice none 0 0)), I 0, I 0, I 0, .r (.v (.slice none 0 0)), .r (.v (.slice none 0 0))]) rfl rfl rfl rfl rfl rfl rfl rfl (Nat.le_of_ble_eq_true rfl) rfl ?_
   refine RW.v rfl (V.as (d := Bo false) rfl rfl) ?_
   refine RW.nil ?_
   refine CW.le [(4, .obj b2 [I 0, I 0, I 0, I 0, I 0, .r (.v (.slice none 0 0)), I 0, I 0, .r (.v (.slice none 0 0)), I 0, I 0, I 0, .r (.v (.slice none 0 0)), .r (.v (.slice none 0 0))]), (5, Bo false)] rfl (Le.of rfl) ?_
   refine CW.ret ?_
   exact Post.tup (by decide) (RVs.c (RV.c (f := fun e => (Node.c e).map .w) (e' := (⟨0, 0, 0, 0, 0, [], (⟨0, 0, []⟩ : Log), 0, 0, 0, [], []⟩ : Node)) rfl rfl rfl rfl (DT.v (DT.v (DT.v (DT.v (DT.v (DT.n (DT.v (DT.v (DT.n (DT.v (DT.v (DT.v (DT.n (DT.n DT.e)))))))))))))) (by rw [hno]; rfl)) (RVs.c (RV.b rfl (by rw [hno])) RVs.e)) (AOs.a rfl (AOs.r AOs.e))
  ·skip
   have hn : nodeOk n = true := by rw [hv7] at h8; simp at h8; exact h8.1
   have hin : inR i n.log.start n.commit = true := by rw [hv7] at h8; simp at h8; exact h8.2
   obtain ⟨hl, hs, hi, hi2⟩ := settle_in hn hin
   refine CW.skip ?_
   refine CW.le [(1, I i), (2, .obj b1 ((Node.c n).map .r)), (4, .obj b2 [I 0, I 0, I 0, I 0, I 0, .r (.v (.slice none 0 0)), I 0, I 0, .r (.v (.slice none 0 0)), I 0, I 0, I 0, .r (.v (.slice none 0 0)), .r (.v (.slice none 0 0))])] rfl (Le.of rfl) ?_
   refine CW.seq ?_
   refine CW.region ?_
   refine RW.v rfl (V.loadAgg rfl rfl rfl rfl rfl (Nat.le_of_ble_eq_true rfl)) ?_
   refine RW.call rfl (spec_l18Copy_fn n hok) rfl (.cons (.agg (.cons (.r .r) (.cons (.r .r) (.cons (.r .r) (.cons (.r .r) (.cons (.r .r) (.cons (.r .r) (.cons (.r .r) (.cons (.r .r) (.cons (.r .r) (.cons (.r .r) (.cons (.r .r) (.cons (.r .r) (.cons (.r .r) (.cons (.r .r) (.nil)))))))))))))))) (.nil)) fun g9 => ?_
   refine RW.alloc (ds := [I 0, I 0, I 0, I 0, I 0, .r (.v (.slice none 0 0)), I 0, I 0, .r (.v (.slice none 0 0)), I 0, I 0, I 0, .r (.v (.slice none 0 0)), .r (.v (.slice none 0 0))]) rfl rfl rfl rfl fun b10 => ?_
   refine RW.storeAgg (es := [I n.id, I n.term_, I n.vote, I n.role, I n.lead, .al 22 (some 5) 1 n.conf.length (g9 0 5) 0, I n.log.start, I n.log.startTerm, .al 22 (some 8) 3 n.log.entries.length (g9 0 8) 0, I n.commit, I n.clock, I n.limit, .al 22 (some 12) 1 n.votes.length (g9 0 12) 0, .al 22 (some 13) 4 n.peers.length (g9 0 13) 0]) rfl rfl rfl rfl rfl rfl rfl rfl (Nat.le_of_ble_eq_true rfl) rfl ?_
   refine RW.le [(1, I i), (2, .obj b1 ((Node.c n).map .r)), (4, .obj b2 [I 0, I 0, I 0, I 0, I 0, .r (.v (.slice none 0 0)), I 0, I 0, .r (.v (.slice none 0 0)), I 0, I 0, I 0, .r (.v (.slice none 0 0)), .r (.v (.slice none 0 0))]), (6, .obj b10 [I n.id, I n.term_, I n.vote, I n.role, I n.lead, .al 22 (some 5) 1 n.conf.length (g9 0 5) 0, I n.log.start, I n.log.startTerm, .al 22 (some 8) 3 n.log.entries.length (g9 0 8) 0, I n.commit, I n.clock, I n.limit, .al 22 (some 12) 1 n.votes.length (g9 0 12) 0, .al 22 (some 13) 4 n.peers.length (g9 0 13) 0]), (22, .agg [I n.id, I n.term_, I n.vote, I n.role, I n.lead, .w (sl 1 cI n.conf) (g9 0 5), I n.log.start, I n.log.startTerm, .w (sl 3 Entry.c n.log.entries) (g9 0 8), I n.commit, I n.clock, I n.limit, .w (sl 1 cI n.votes) (g9 0 12), .w (sl 4 Peer.c n.peers) (g9 0 13)])] rfl (Le.of rfl) ?_
   refine RW.pullA (k := 6) (l := 22) (j := 5) 6 22 5 rfl rfl rfl (by decide) rfl rfl rfl rfl ?_
   refine RW.le [(1, I i), (2, .obj b1 ((Node.c n).map .r)), (4, .obj b2 [I 0, I 0, I 0, I 0, I 0, .r (.v (.slice none 0 0)), I 0, I 0, .r (.v (.slice none 0 0)), I 0, I 0, I 0, .r (.v (.slice none 0 0)), .r (.v (.slice none 0 0))]), (6, .obj b10 [I n.id, I n.term_, I n.vote, I n.role, I n.lead, .w (sl 1 cI n.conf) (g9 0 5), I n.log.start, I n.log.startTerm, .al 22 (some 8) 3 n.log.entries.length (g9 0 8) 0, I n.commit, I n.clock, I n.limit, .al 22 (some 12) 1 n.votes.length (g9 0 12) 0, .al 22 (some 13) 4 n.peers.length (g9 0 13) 0]), (22, .agg [I n.id, I n.term_, I n.vote, I n.role, I n.lead, .u, I n.log.start, I n.log.startTerm, .w (sl 3 Entry.c n.log.entries) (g9 0 8), I n.commit, I n.clock, I n.limit, .w (sl 1 cI n.votes) (g9 0 12), .w (sl 4 Peer.c n.peers) (g9 0 13)])] rfl (Le.of rfl) ?_
   refine RW.pullA (k := 6) (l := 22) (j := 8) 6 22 8 rfl rfl rfl (by decide) rfl rfl rfl rfl ?_
   refine RW.le [(1, I i), (2, .obj b1 ((Node.c n).map .r)), (4, .obj b2 [I 0, I 0, I 0, I 0, I 0, .r (.v (.slice none 0 0)), I 0, I 0, .r (.v (.slice none 0 0)), I 0, I 0, I 0, .r (.v (.slice none 0 0)), .r (.v (.slice none 0 0))]), (6, .obj b10 [I n.id, I n.term_, I n.vote, I n.role, I n.lead, .w (sl 1 cI n.conf) (g9 0 5), I n.log.start, I n.log.startTerm, .w (sl 3 Entry.c n.log.entries) (g9 0 8), I n.commit, I n.clock, I n.limit, .al 22 (some 12) 1 n.votes.length (g9 0 12) 0, .al 22 (some 13) 4 n.peers.length (g9 0 13) 0]), (22, .agg [I n.id, I n.term_, I n.vote, I n.role, I n.lead, .u, I n.log.start, I n.log.startTerm, .u, I n.commit, I n.clock, I n.limit, .w (sl 1 cI n.votes) (g9 0 12), .w (sl 4 Peer.c n.peers) (g9 0 13)])] rfl (Le.of rfl) ?_
   refine RW.pullA (k := 6) (l := 22) (j := 12) 6 22 12 rfl rfl rfl (by decide) rfl rfl rfl rfl ?_
   refine RW.le [(1, I i), (2, .obj b1 ((Node.c n).map .r)), (4, .obj b2 [I 0, I 0, I 0, I 0, I 0, .r (.v (.slice none 0 0)), I 0, I 0, .r (.v (.slice none 0 0)), I 0, I 0, I 0, .r (.v (.slice none 0 0)), .r (.v (.slice none 0 0))]), (6, .obj b10 [I n.id, I n.term_, I n.vote, I n.role, I n.lead, .w (sl 1 cI n.conf) (g9 0 5), I n.log.start, I n.log.startTerm, .w (sl 3 Entry.c n.log.entries) (g9 0 8), I n.commit, I n.clock, I n.limit, .w (sl 1 cI n.votes) (g9 0 12), .al 22 (some 13) 4 n.peers.length (g9 0 13) 0]), (22, .agg [I n.id, I n.term_, I n.vote, I n.role, I n.lead, .u, I n.log.start, I n.log.startTerm, .u, I n.commit, I n.clock, I n.limit, .u, .w (sl 4 Peer.c n.peers) (g9 0 13)])] rfl (Le.of rfl) ?_
   refine RW.pullA (k := 6) (l := 22) (j := 13) 6 22 13 rfl rfl rfl (by decide) rfl rfl rfl rfl ?_
   refine RW.le [(1, I i), (2, .obj b1 ((Node.c n).map .r)), (4, .obj b2 [I 0, I 0, I 0, I 0, I 0, .r (.v (.slice none 0 0)), I 0, I 0, .r (.v (.slice none 0 0)), I 0, I 0, I 0, .r (.v (.slice none 0 0)), .r (.v (.slice none 0 0))]), (6, .obj b10 [I n.id, I n.term_, I n.vote, I n.role, I n.lead, .w (sl 1 cI n.conf) (g9 0 5), I n.log.start, I n.log.startTerm, .w (sl 3 Entry.c n.log.entries) (g9 0 8), I n.commit, I n.clock, I n.limit, .w (sl 1 cI n.votes) (g9 0 12), .w (sl 4 Peer.c n.peers) (g9 0 13)])] rfl (Le.of rfl) ?_
   refine RW.nil ?_
   refine CW.le [(1, I i), (2, .obj b1 ((Node.c n).map .r)), (4, .obj b2 [I 0, I 0, I 0, I 0, I 0, .r (.v (.slice none 0 0)), I 0, I 0, .r (.v (.slice none 0 0)), I 0, I 0, I 0, .r (.v (.slice none 0 0)), .r (.v (.slice none 0 0))]), (6, .obj b10 [I n.id, I n.term_, I n.vote, I n.role, I n.lead, .w (sl 1 cI n.conf) (g9 0 5), I n.log.start, I n.log.startTerm, .w (sl 3 Entry.c n.log.entries) (g9 0 8), I n.commit, I n.clock, I n.limit, .w (sl 1 cI n.votes) (g9 0 12), .w (sl 4 Peer.c n.peers) (g9 0 13)])] rfl (Le.of rfl) ?_
   refine CW.seq ?_
   refine CW.region ?_
   refine RW.v rfl (V.loadAgg rfl rfl rfl rfl rfl (Nat.le_of_ble_eq_true rfl)) ?_
   refine RW.v rfl (V.mv (d := I i) rfl rfl) ?_
   refine RW.call rfl (spec_ConfAt_fn n i hok) rfl (.cons (.agg (.cons (.r .r) (.cons (.r .r) (.cons (.r .r) (.cons (.r .r) (.cons (.r .r) (.cons (.r .r) (.cons (.r .r) (.cons (.r .r) (.cons (.r .r) (.cons (.r .r) (.cons (.r .r) (.cons (.r .r) (.cons (.r .r) (.cons (.r .r) (.nil)))))))))))))))) (.cons (.one (.r .r)) (.nil))) fun g11 => ?_
   refine RW.v rfl (V.field rfl rfl rfl rfl (by decide) rfl) ?_
   refine RW.store (d := .al 25 none 1 ((confAtS n i).length) (g11 0 0) 0) rfl rfl rfl rfl rfl rfl rfl (Nat.le_of_ble_eq_true rfl) rfl rfl ?_
   refine RW.le [(1, I i), (2, .obj b1 ((Node.c n).map .r)), (4, .obj b2 [I 0, I 0, I 0, I 0, I 0, .r (.v (.slice none 0 0)), I 0, I 0, .r (.v (.slice none 0 0)), I 0, I 0, I 0, .r (.v (.slice none 0 0)), .r (.v (.slice none 0 0))]), (6, .obj b10 [I n.id, I n.term_, I n.vote, I n.role, I n.lead, .al 25 none 1 ((confAtS n i).length) (g11 0 0) 0, I n.log.start, I n.log.startTerm, .w (sl 3 Entry.c n.log.entries) (g9 0 8), I n.commit, I n.clock, I n.limit, .w (sl 1 cI n.votes) (g9 0 12), .w (sl 4 Peer.c n.peers) (g9 0 13)]), (25, .w (sl 1 cI (confAtS n i)) (g11 0 0))] rfl (Le.of rfl) ?_
   refine RW.pullT (k := 6) (l := 25) (j := 5) 6 25 5 rfl rfl rfl (by decide) rfl rfl rfl ?_
   refine RW.le [(1, I i), (2, .obj b1 ((Node.c n).map .r)), (4, .obj b2 [I 0, I 0, I 0, I 0, I 0, .r (.v (.slice none 0 0)), I 0, I 0, .r (.v (.slice none 0 0)), I 0, I 0, I 0, .r (.v (.slice none 0 0)), .r (.v (.slice none 0 0))]), (6, .obj b10 [I n.id, I n.term_, I n.vote, I n.role, I n.lead, .w (sl 1 cI (confAtS n i)) (g11 0 0), I n.log.start, I n.log.startTerm, .w (sl 3 Entry.c n.log.entries) (g9 0 8), I n.commit, I n.clock, I n.limit, .w (sl 1 cI n.votes) (g9 0 12), .w (sl 4 Peer.c n.peers) (g9 0 13)])] rfl (Le.of rfl) ?_
   refine RW.nil ?_
   refine CW.le [(1, I i), (2, .obj b1 ((Node.c n).map .r)), (4, .obj b2 [I 0, I 0, I 0, I 0, I 0, .r (.v (.slice none 0 0)), I 0, I 0, .r (.v (.slice none 0 0)), I 0, I 0, I 0, .r (.v (.slice none 0 0)), .r (.v (.slice none 0 0))]), (6, .obj b10 [I n.id, I n.term_, I n.vote, I n.role, I n.lead, .w (sl 1 cI (confAtS n i)) (g11 0 0), I n.log.start, I n.log.startTerm, .w (sl 3 Entry.c n.log.entries) (g9 0 8), I n.commit, I n.clock, I n.limit, .w (sl 1 cI n.votes) (g9 0 12), .w (sl 4 Peer.c n.peers) (g9 0 13)])] rfl (Le.of rfl) ?_
   refine CW.anyJ 37 (fun (x : (Nat → Nat → Value) × (Nat → Nat → Value)) => match x with | (go12_6_1, go12_7_1) => [(4, .obj b2 [I 0, I 0, I 0, I 0, I 0, .r (.v (.slice none 0 0)), I 0, I 0, .r (.v (.slice none 0 0)), I 0, I 0, I 0, .r (.v (.slice none 0 0)), .r (.v (.slice none 0 0))]), (6, .obj b10 [I n.id, I n.term_, I n.vote, I n.role, I n.lead, .w (sl 1 cI (confAtS n i)) (g11 0 0), I ((logBehind n.log i (logTerm n.log i)).start), I ((logBehind n.log i (logTerm n.log i)).startTerm), .w (sl 3 Entry.c ((logBehind n.log i (logTerm n.log i)).entries)) (go12_7_1 0 2), I n.commit, I n.clock, I n.limit, .w (sl 1 cI n.votes) (g9 0 12), .w (sl 4 Peer.c n.peers) (g9 0 13)])]) (fun all hall K hK => ?_) ?_
   ·skip
    have ro12_1111111111 : ∀ (go12_6_1 : Nat → Nat → Value), ∀ (go12_7_1 : Nat → Nat → Value), RA E B all 0 #[true, true, true, true, true, true, true, true, true, true] ⟨37, [(4, .obj b2 [I 0, I 0, I 0, I 0, I 0, .r (.v (.slice none 0 0)), I 0, I 0, .r (.v (.slice none 0 0)), I 0, I 0, I 0, .r (.v (.slice none 0 0)), .r (.v (.slice none 0 0))]), (6, .obj b10 [I n.id, I n.term_, I n.vote, I n.role, I n.lead, .w (sl 1 cI (confAtS n i)) (g11 0 0), I ((logBehind n.log i (logTerm n.log i)).start), I ((logBehind n.log i (logTerm n.log i)).startTerm), .w (sl 3 Entry.c ((logBehind n.log i (logTerm n.log i)).entries)) (go12_7_1 0 2), I n.commit, I n.clock, I n.limit, .w (sl 1 cI n.votes) (g9 0 12), .w (sl 4 Peer.c n.peers) (g9 0 13)])]⟩ K := by
     intro go12_6_1 go12_7_1
     exact RA.of hall (RA.fin (by kernel_rfl) (hK (go12_6_1, go12_7_1) _ rfl (Le.of rfl)))
    have ro12_1111111110 : ∀ (go12_6_1 : Nat → Nat → Value), ∀ (go12_7_1 : Nat → Nat → Value), RA E B all 1 #[true, true, true, true, true, true, true, true, true, false] ⟨37, [(4, .obj b2 [I 0, I 0, I 0, I 0, I 0, .r (.v (.slice none 0 0)), I 0, I 0, .r (.v (.slice none 0 0)), I 0, I 0, I 0, .r (.v (.slice none 0 0)), .r (.v (.slice none 0 0))]), (6, .obj b10 [I n.id, I n.term_, I n.vote, I n.role, I n.lead, .w (sl 1 cI (confAtS n i)) (g11 0 0), I n.log.start, I n.log.startTerm, .w (sl 3 Entry.c n.log.entries) (g9 0 8), I n.commit, I n.clock, I n.limit, .w (sl 1 cI n.votes) (g9 0 12), .w (sl 4 Peer.c n.peers) (g9 0 13)]), (34, .agg [I ((logBehind n.log i (logTerm n.log i)).start), I ((logBehind n.log i (logTerm n.log i)).startTerm), .w (sl 3 Entry.c ((logBehind n.log i (logTerm n.log i)).entries)) (go12_7_1 0 2)]), (35, .pt 6 b10 6)]⟩ K := by
     intro go12_6_1 go12_7_1
     refine RA.of hall (RA.step (L := [9]) (by kernel_rfl) (by simp) (RA.each ?_ (RA.each0)))
     ·skip
      refine RO.storeAgg (es := [I ((logBehind n.log i (logTerm n.log i)).start), I ((logBehind n.log i (logTerm n.log i)).startTerm), .al 34 (some 2) 3 (((logBehind n.log i (logTerm n.log i)).entries).length) (go12_7_1 0 2) 0]) rfl rfl rfl rfl rfl rfl rfl rfl rfl rfl (Nat.le_of_ble_eq_true rfl) rfl ?_
      refine RA.le [(4, .obj b2 [I 0, I 0, I 0, I 0, I 0, .r (.v (.slice none 0 0)), I 0, I 0, .r (.v (.slice none 0 0)), I 0, I 0, I 0, .r (.v (.slice none 0 0)), .r (.v (.slice none 0 0))]), (6, .obj b10 [I n.id, I n.term_, I n.vote, I n.role, I n.lead, .w (sl 1 cI (confAtS n i)) (g11 0 0), I ((logBehind n.log i (logTerm n.log i)).start), I ((logBehind n.log i (logTerm n.log i)).startTerm), .al 34 (some 2) 3 (((logBehind n.log i (logTerm n.log i)).entries).length) (go12_7_1 0 2) 0, I n.commit, I n.clock, I n.limit, .w (sl 1 cI n.votes) (g9 0 12), .w (sl 4 Peer.c n.peers) (g9 0 13)]), (34, .agg [I ((logBehind n.log i (logTerm n.log i)).start), I ((logBehind n.log i (logTerm n.log i)).startTerm), .w (sl 3 Entry.c ((logBehind n.log i (logTerm n.log i)).entries)) (go12_7_1 0 2)])] rfl (Le.of rfl) ?_
      refine RA.pullA (k := 6) (l := 34) (j := 8) 6 34 8 rfl rfl rfl (by decide) rfl rfl rfl rfl ?_
      refine RA.le [(4, .obj b2 [I 0, I 0, I 0, I 0, I 0, .r (.v (.slice none 0 0)), I 0, I 0, .r (.v (.slice none 0 0)), I 0, I 0, I 0, .r (.v (.slice none 0 0)), .r (.v (.slice none 0 0))]), (6, .obj b10 [I n.id, I n.term_, I n.vote, I n.role, I n.lead, .w (sl 1 cI (confAtS n i)) (g11 0 0), I ((logBehind n.log i (logTerm n.log i)).start), I ((logBehind n.log i (logTerm n.log i)).startTerm), .w (sl 3 Entry.c ((logBehind n.log i (logTerm n.log i)).entries)) (go12_7_1 0 2), I n.commit, I n.clock, I n.limit, .w (sl 1 cI n.votes) (g9 0 12), .w (sl 4 Peer.c n.peers) (g9 0 13)])] rfl (Le.of rfl) ?_
      exact RA.to hall (RA.lr (ro12_1111111111 go12_6_1 go12_7_1) rfl rfl)
    have ro12_1111111100 : ∀ (go12_6_1 : Nat → Nat → Value), ∀ (go12_7_1 : Nat → Nat → Value), RA E B all 2 #[true, true, true, true, true, true, true, true, false, false] ⟨37, [(4, .obj b2 [I 0, I 0, I 0, I 0, I 0, .r (.v (.slice none 0 0)), I 0, I 0, .r (.v (.slice none 0 0)), I 0, I 0, I 0, .r (.v (.slice none 0 0)), .r (.v (.slice none 0 0))]), (6, .obj b10 [I n.id, I n.term_, I n.vote, I n.role, I n.lead, .w (sl 1 cI (confAtS n i)) (g11 0 0), I n.log.start, I n.log.startTerm, .w (sl 3 Entry.c n.log.entries) (g9 0 8), I n.commit, I n.clock, I n.limit, .w (sl 1 cI n.votes) (g9 0 12), .w (sl 4 Peer.c n.peers) (g9 0 13)]), (34, .agg [I ((logBehind n.log i (logTerm n.log i)).start), I ((logBehind n.log i (logTerm n.log i)).startTerm), .w (sl 3 Entry.c ((logBehind n.log i (logTerm n.log i)).entries)) (go12_7_1 0 2)])]⟩ K := by
     intro go12_6_1 go12_7_1
     refine RA.of hall (RA.step (L := [8]) (by kernel_rfl) (by simp) (RA.each ?_ (RA.each0)))
     ·skip
      refine RO.v rfl rfl (V.field rfl rfl rfl rfl (by decide) rfl) rfl ?_
      exact RA.to hall (RA.lr (ro12_1111111110 go12_6_1 go12_7_1) rfl rfl)
    have ro12_1111111000 : ∀ (go12_6_1 : Nat → Nat → Value), RA E B all 3 #[true, true, true, true, true, true, true, false, false, false] ⟨37, [(4, .obj b2 [I 0, I 0, I 0, I 0, I 0, .r (.v (.slice none 0 0)), I 0, I 0, .r (.v (.slice none 0 0)), I 0, I 0, I 0, .r (.v (.slice none 0 0)), .r (.v (.slice none 0 0))]), (6, .obj b10 [I n.id, I n.term_, I n.vote, I n.role, I n.lead, .w (sl 1 cI (confAtS n i)) (g11 0 0), I n.log.start, I n.log.startTerm, .w (sl 3 Entry.c n.log.entries) (g9 0 8), I n.commit, I n.clock, I n.limit, .w (sl 1 cI n.votes) (g9 0 12), .w (sl 4 Peer.c n.peers) (g9 0 13)]), (28, .agg ((Log.c n.log).map .r)), (29, I i), (33, I (logTerm n.log i))]⟩ K := by
     intro go12_6_1
     refine RA.of hall (RA.step (L := [7]) (by kernel_rfl) (by simp) (RA.each ?_ (RA.each0)))
     ·skip
      refine RO.call rfl rfl (spec_LogBehind_fn n.log i (logTerm n.log i) (hok.2.1) hi) rfl (.cons (.agg (.cons (.r .r) (.cons (.r .r) (.cons (.r .r) (.nil))))) (.cons (.one (.r .r)) (.cons (.one (.r .r)) (.nil)))) rfl fun go12_7_1 => ?_
      exact RA.to hall (RA.lr (ro12_1111111100 go12_6_1 go12_7_1) rfl rfl)
    have ro12_1011111000 : ∀ (go12_6_1 : Nat → Nat → Value), RA E B all 4 #[true, false, true, true, true, true, true, false, false, false] ⟨37, [(2, .obj b1 ((Node.c n).map .r)), (4, .obj b2 [I 0, I 0, I 0, I 0, I 0, .r (.v (.slice none 0 0)), I 0, I 0, .r (.v (.slice none 0 0)), I 0, I 0, I 0, .r (.v (.slice none 0 0)), .r (.v (.slice none 0 0))]), (6, .obj b10 [I n.id, I n.term_, I n.vote, I n.role, I n.lead, .w (sl 1 cI (confAtS n i)) (g11 0 0), I n.log.start, I n.log.startTerm, .w (sl 3 Entry.c n.log.entries) (g9 0 8), I n.commit, I n.clock, I n.limit, .w (sl 1 cI n.votes) (g9 0 12), .w (sl 4 Peer.c n.peers) (g9 0 13)]), (27, .pt 2 b1 6), (29, I i), (33, I (logTerm n.log i))]⟩ K := by
     intro go12_6_1
     refine RA.of hall (RA.step (L := [1]) (by kernel_rfl) (by simp) (RA.each ?_ (RA.each0)))
     ·skip
      refine RO.v rfl rfl (V.loadAgg rfl rfl rfl rfl rfl (Nat.le_of_ble_eq_true rfl)) rfl ?_
      exact RA.to hall (RA.lr (ro12_1111111000 go12_6_1) rfl rfl)
    have ro12_1101111000 : ∀ (go12_6_1 : Nat → Nat → Value), RA E B all 4 #[true, true, false, true, true, true, true, false, false, false] ⟨37, [(1, I i), (4, .obj b2 [I 0, I 0, I 0, I 0, I 0, .r (.v (.slice none 0 0)), I 0, I 0, .r (.v (.slice none 0 0)), I 0, I 0, I 0, .r (.v (.slice none 0 0)), .r (.v (.slice none 0 0))]), (6, .obj b10 [I n.id, I n.term_, I n.vote, I n.role, I n.lead, .w (sl 1 cI (confAtS n i)) (g11 0 0), I n.log.start, I n.log.startTerm, .w (sl 3 Entry.c n.log.entries) (g9 0 8), I n.commit, I n.clock, I n.limit, .w (sl 1 cI n.votes) (g9 0 12), .w (sl 4 Peer.c n.peers) (g9 0 13)]), (28, .agg ((Log.c n.log).map .r)), (33, I (logTerm n.log i))]⟩ K := by
     intro go12_6_1
     refine RA.of hall (RA.step (L := [2]) (by kernel_rfl) (by simp) (RA.each ?_ (RA.each0)))
     ·skip
      refine RO.v rfl rfl (V.mv (d := I i) rfl rfl) rfl ?_
      exact RA.to hall (RA.lr (ro12_1111111000 go12_6_1) rfl rfl)
    have ro12_1111110000 : RA E B all 4 #[true, true, true, true, true, true, false, false, false, false] ⟨37, [(4, .obj b2 [I 0, I 0, I 0, I 0, I 0, .r (.v (.slice none 0 0)), I 0, I 0, .r (.v (.slice none 0 0)), I 0, I 0, I 0, .r (.v (.slice none 0 0)), .r (.v (.slice none 0 0))]), (6, .obj b10 [I n.id, I n.term_, I n.vote, I n.role, I n.lead, .w (sl 1 cI (confAtS n i)) (g11 0 0), I n.log.start, I n.log.startTerm, .w (sl 3 Entry.c n.log.entries) (g9 0 8), I n.commit, I n.clock, I n.limit, .w (sl 1 cI n.votes) (g9 0 12), .w (sl 4 Peer.c n.peers) (g9 0 13)]), (28, .agg ((Log.c n.log).map .r)), (29, I i), (31, .agg ((Log.c n.log).map .r)), (32, I i)]⟩ K := by
     refine RA.of hall (RA.step (L := [6]) (by kernel_rfl) (by simp) (RA.each ?_ (RA.each0)))
     ·skip
      refine RO.call rfl rfl (spec_LogTerm_fn n.log i hs hi) rfl (.cons (.agg (.cons (.r .r) (.cons (.r .r) (.cons (.r .r) (.nil))))) (.cons (.one (.r .r)) (.nil))) rfl fun go12_6_1 => ?_
      exact RA.to hall (RA.lr (ro12_1111111000 go12_6_1) rfl rfl)
    have ro12_0011111000 : ∀ (go12_6_1 : Nat → Nat → Value), RA E B all 5 #[false, false, true, true, true, true, true, false, false, false] ⟨37, [(2, .obj b1 ((Node.c n).map .r)), (4, .obj b2 [I 0, I 0, I 0, I 0, I 0, .r (.v (.slice none 0 0)), I 0, I 0, .r (.v (.slice none 0 0)), I 0, I 0, I 0, .r (.v (.slice none 0 0)), .r (.v (.slice none 0 0))]), (6, .obj b10 [I n.id, I n.term_, I n.vote, I n.role, I n.lead, .w (sl 1 cI (confAtS n i)) (g11 0 0), I n.log.start, I n.log.startTerm, .w (sl 3 Entry.c n.log.entries) (g9 0 8), I n.commit, I n.clock, I n.limit, .w (sl 1 cI n.votes) (g9 0 12), .w (sl 4 Peer.c n.peers) (g9 0 13)]), (29, I i), (33, I (logTerm n.log i))]⟩ K := by
     intro go12_6_1
     refine RA.of hall (RA.step (L := [0]) (by kernel_rfl) (by simp) (RA.each ?_ (RA.each0)))
     ·skip
      refine RO.v rfl rfl (V.field rfl rfl rfl rfl (by decide) rfl) rfl ?_
      exact RA.to hall (RA.lr (ro12_1011111000 go12_6_1) rfl rfl)
    have ro12_1001111000 : ∀ (go12_6_1 : Nat → Nat → Value), RA E B all 5 #[true, false, false, true, true, true, true, false, false, false] ⟨37, [(1, I i), (2, .obj b1 ((Node.c n).map .r)), (4, .obj b2 [I 0, I 0, I 0, I 0, I 0, .r (.v (.slice none 0 0)), I 0, I 0, .r (.v (.slice none 0 0)), I 0, I 0, I 0, .r (.v (.slice none 0 0)), .r (.v (.slice none 0 0))]), (6, .obj b10 [I n.id, I n.term_, I n.vote, I n.role, I n.lead, .w (sl 1 cI (confAtS n i)) (g11 0 0), I n.log.start, I n.log.startTerm, .w (sl 3 Entry.c n.log.entries) (g9 0 8), I n.commit, I n.clock, I n.limit, .w (sl 1 cI n.votes) (g9 0 12), .w (sl 4 Peer.c n.peers) (g9 0 13)]), (27, .pt 2 b1 6), (33, I (logTerm n.log i))]⟩ K := by
     intro go12_6_1
     refine RA.of hall (RA.step (L := [1, 2]) (by kernel_rfl) (by simp) (RA.each ?_ (RA.each ?_ (RA.each0))))
     ·skip
      refine RO.v rfl rfl (V.loadAgg rfl rfl rfl rfl rfl (Nat.le_of_ble_eq_true rfl)) rfl ?_
      exact RA.to hall (RA.lr (ro12_1101111000 go12_6_1) rfl rfl)
     ·skip
      refine RO.v rfl rfl (V.mv (d := I i) rfl rfl) rfl ?_
      exact RA.to hall (RA.lr (ro12_1011111000 go12_6_1) rfl rfl)
    have ro12_1011110000 : RA E B all 5 #[true, false, true, true, true, true, false, false, false, false] ⟨37, [(2, .obj b1 ((Node.c n).map .r)), (4, .obj b2 [I 0, I 0, I 0, I 0, I 0, .r (.v (.slice none 0 0)), I 0, I 0, .r (.v (.slice none 0 0)), I 0, I 0, I 0, .r (.v (.slice none 0 0)), .r (.v (.slice none 0 0))]), (6, .obj b10 [I n.id, I n.term_, I n.vote, I n.role, I n.lead, .w (sl 1 cI (confAtS n i)) (g11 0 0), I n.log.start, I n.log.startTerm, .w (sl 3 Entry.c n.log.entries) (g9 0 8), I n.commit, I n.clock, I n.limit, .w (sl 1 cI n.votes) (g9 0 12), .w (sl 4 Peer.c n.peers) (g9 0 13)]), (27, .pt 2 b1 6), (29, I i), (31, .agg ((Log.c n.log).map .r)), (32, I i)]⟩ K := by
     refine RA.of hall (RA.step (L := [1, 6]) (by kernel_rfl) (by simp) (RA.each ?_ (RA.each ?_ (RA.each0))))
     ·skip
      refine RO.v rfl rfl (V.loadAgg rfl rfl rfl rfl rfl (Nat.le_of_ble_eq_true rfl)) rfl ?_
      exact RA.to hall (RA.lr ro12_1111110000 rfl rfl)
     ·skip
      refine RO.call rfl rfl (spec_LogTerm_fn n.log i hs hi) rfl (.cons (.agg (.cons (.r .r) (.cons (.r .r) (.cons (.r .r) (.nil))))) (.cons (.one (.r .r)) (.nil))) rfl fun go12_6_1 => ?_
      exact RA.to hall (RA.lr (ro12_1011111000 go12_6_1) rfl rfl)
    have ro12_1101110000 : RA E B all 5 #[true, true, false, true, true, true, false, false, false, false] ⟨37, [(1, I i), (4, .obj b2 [I 0, I 0, I 0, I 0, I 0, .r (.v (.slice none 0 0)), I 0, I 0, .r (.v (.slice none 0 0)), I 0, I 0, I 0, .r (.v (.slice none 0 0)), .r (.v (.slice none 0 0))]), (6, .obj b10 [I n.id, I n.term_, I n.vote, I n.role, I n.lead, .w (sl 1 cI (confAtS n i)) (g11 0 0), I n.log.start, I n.log.startTerm, .w (sl 3 Entry.c n.log.entries) (g9 0 8), I n.commit, I n.clock, I n.limit, .w (sl 1 cI n.votes) (g9 0 12), .w (sl 4 Peer.c n.peers) (g9 0 13)]), (28, .agg ((Log.c n.log).map .r)), (31, .agg ((Log.c n.log).map .r)), (32, I i)]⟩ K := by
     refine RA.of hall (RA.step (L := [2, 6]) (by kernel_rfl) (by simp) (RA.each ?_ (RA.each ?_ (RA.each0))))
     ·skip
      refine RO.v rfl rfl (V.mv (d := I i) rfl rfl) rfl ?_
      exact RA.to hall (RA.lr ro12_1111110000 rfl rfl)
     ·skip
      refine RO.call rfl rfl (spec_LogTerm_fn n.log i hs hi) rfl (.cons (.agg (.cons (.r .r) (.cons (.r .r) (.cons (.r .r) (.nil))))) (.cons (.one (.r .r)) (.nil))) rfl fun go12_6_1 => ?_
      exact RA.to hall (RA.lr (ro12_1101111000 go12_6_1) rfl rfl)
    have ro12_1111010000 : RA E B all 5 #[true, true, true, true, false, true, false, false, false, false] ⟨37, [(2, .obj b1 ((Node.c n).map .r)), (4, .obj b2 [I 0, I 0, I 0, I 0, I 0, .r (.v (.slice none 0 0)), I 0, I 0, .r (.v (.slice none 0 0)), I 0, I 0, I 0, .r (.v (.slice none 0 0)), .r (.v (.slice none 0 0))]), (6, .obj b10 [I n.id, I n.term_, I n.vote, I n.role, I n.lead, .w (sl 1 cI (confAtS n i)) (g11 0 0), I n.log.start, I n.log.startTerm, .w (sl 3 Entry.c n.log.entries) (g9 0 8), I n.commit, I n.clock, I n.limit, .w (sl 1 cI n.votes) (g9 0 12), .w (sl 4 Peer.c n.peers) (g9 0 13)]), (28, .agg ((Log.c n.log).map .r)), (29, I i), (30, .pt 2 b1 6), (32, I i)]⟩ K := by
     refine RA.of hall (RA.step (L := [4]) (by kernel_rfl) (by simp) (RA.each ?_ (RA.each0)))
     ·skip
      refine RO.v rfl rfl (V.loadAgg rfl rfl rfl rfl rfl (Nat.le_of_ble_eq_true rfl)) rfl ?_
      exact RA.to hall (RA.lr ro12_1111110000 rfl rfl)
    have ro12_1111100000 : RA E B all 5 #[true, true, true, true, true, false, false, false, false, false] ⟨37, [(1, I i), (4, .obj b2 [I 0, I 0, I 0, I 0, I 0, .r (.v (.slice none 0 0)), I 0, I 0, .r (.v (.slice none 0 0)), I 0, I 0, I 0, .r (.v (.slice none 0 0)), .r (.v (.slice none 0 0))]), (6, .obj b10 [I n.id, I n.term_, I n.vote, I n.role, I n.lead, .w (sl 1 cI (confAtS n i)) (g11 0 0), I n.log.start, I n.log.startTerm, .w (sl 3 Entry.c n.log.entries) (g9 0 8), I n.commit, I n.clock, I n.limit, .w (sl 1 cI n.votes) (g9 0 12), .w (sl 4 Peer.c n.peers) (g9 0 13)]), (28, .agg ((Log.c n.log).map .r)), (29, I i), (31, .agg ((Log.c n.log).map .r))]⟩ K := by
     refine RA.of hall (RA.step (L := [5]) (by kernel_rfl) (by simp) (RA.each ?_ (RA.each0)))
     ·skip
      refine RO.v rfl rfl (V.mv (d := I i) rfl rfl) rfl ?_
      exact RA.to hall (RA.lr ro12_1111110000 rfl rfl)
    have ro12_0001111000 : ∀ (go12_6_1 : Nat → Nat → Value), RA E B all 6 #[false, false, false, true, true, true, true, false, false, false] ⟨37, [(1, I i), (2, .obj b1 ((Node.c n).map .r)), (4, .obj b2 [I 0, I 0, I 0, I 0, I 0, .r (.v (.slice none 0 0)), I 0, I 0, .r (.v (.slice none 0 0)), I 0, I 0, I 0, .r (.v (.slice none 0 0)), .r (.v (.slice none 0 0))]), (6, .obj b10 [I n.id, I n.term_, I n.vote, I n.role, I n.lead, .w (sl 1 cI (confAtS n i)) (g11 0 0), I n.log.start, I n.log.startTerm, .w (sl 3 Entry.c n.log.entries) (g9 0 8), I n.commit, I n.clock, I n.limit, .w (sl 1 cI n.votes) (g9 0 12), .w (sl 4 Peer.c n.peers) (g9 0 13)]), (33, I (logTerm n.log i))]⟩ K := by
     intro go12_6_1
     refine RA.of hall (RA.step (L := [0, 2]) (by kernel_rfl) (by simp) (RA.each ?_ (RA.each ?_ (RA.each0))))
     ·skip
      refine RO.v rfl rfl (V.field rfl rfl rfl rfl (by decide) rfl) rfl ?_
      exact RA.to hall (RA.lr (ro12_1001111000 go12_6_1) rfl rfl)
     ·skip
      refine RO.v rfl rfl (V.mv (d := I i) rfl rfl) rfl ?_
      exact RA.to hall (RA.lr (ro12_0011111000 go12_6_1) rfl rfl)
    have ro12_0011110000 : RA E B all 6 #[false, false, true, true, true, true, false, false, false, false] ⟨37, [(2, .obj b1 ((Node.c n).map .r)), (4, .obj b2 [I 0, I 0, I 0, I 0, I 0, .r (.v (.slice none 0 0)), I 0, I 0, .r (.v (.slice none 0 0)), I 0, I 0, I 0, .r (.v (.slice none 0 0)), .r (.v (.slice none 0 0))]), (6, .obj b10 [I n.id, I n.term_, I n.vote, I n.role, I n.lead, .w (sl 1 cI (confAtS n i)) (g11 0 0), I n.log.start, I n.log.startTerm, .w (sl 3 Entry.c n.log.entries) (g9 0 8), I n.commit, I n.clock, I n.limit, .w (sl 1 cI n.votes) (g9 0 12), .w (sl 4 Peer.c n.peers) (g9 0 13)]), (29, I i), (31, .agg ((Log.c n.log).map .r)), (32, I i)]⟩ K := by
     refine RA.of hall (RA.step (L := [0, 6]) (by kernel_rfl) (by simp) (RA.each ?_ (RA.each ?_ (RA.each0))))
     ·skip
      refine RO.v rfl rfl (V.field rfl rfl rfl rfl (by decide) rfl) rfl ?_
      exact RA.to hall (RA.lr ro12_1011110000 rfl rfl)
     ·skip
      refine RO.call rfl rfl (spec_LogTerm_fn n.log i hs hi) rfl (.cons (.agg (.cons (.r .r) (.cons (.r .r) (.cons (.r .r) (.nil))))) (.cons (.one (.r .r)) (.nil))) rfl fun go12_6_1 => ?_
      exact RA.to hall (RA.lr (ro12_0011111000 go12_6_1) rfl rfl)
    have ro12_1001110000 : RA E B all 6 #[true, false, false, true, true, true, false, false, false, false] ⟨37, [(1, I i), (2, .obj b1 ((Node.c n).map .r)), (4, .obj b2 [I 0, I 0, I 0, I 0, I 0, .r (.v (.slice none 0 0)), I 0, I 0, .r (.v (.slice none 0 0)), I 0, I 0, I 0, .r (.v (.slice none 0 0)), .r (.v (.slice none 0 0))]), (6, .obj b10 [I n.id, I n.term_, I n.vote, I n.role, I n.lead, .w (sl 1 cI (confAtS n i)) (g11 0 0), I n.log.start, I n.log.startTerm, .w (sl 3 Entry.c n.log.entries) (g9 0 8), I n.commit, I n.clock, I n.limit, .w (sl 1 cI n.votes) (g9 0 12), .w (sl 4 Peer.c n.peers) (g9 0 13)]), (27, .pt 2 b1 6), (31, .agg ((Log.c n.log).map .r)), (32, I i)]⟩ K := by
     refine RA.of hall (RA.step (L := [1, 2, 6]) (by kernel_rfl) (by simp) (RA.each ?_ (RA.each ?_ (RA.each ?_ (RA.each0)))))
     ·skip
      refine RO.v rfl rfl (V.loadAgg rfl rfl rfl rfl rfl (Nat.le_of_ble_eq_true rfl)) rfl ?_
      exact RA.to hall (RA.lr ro12_1101110000 rfl rfl)
     ·skip
      refine RO.v rfl rfl (V.mv (d := I i) rfl rfl) rfl ?_
      exact RA.to hall (RA.lr ro12_1011110000 rfl rfl)
     ·skip
      refine RO.call rfl rfl (spec_LogTerm_fn n.log i hs hi) rfl (.cons (.agg (.cons (.r .r) (.cons (.r .r) (.cons (.r .r) (.nil))))) (.cons (.one (.r .r)) (.nil))) rfl fun go12_6_1 => ?_
      exact RA.to hall (RA.lr (ro12_1001111000 go12_6_1) rfl rfl)
    have ro12_1011010000 : RA E B all 6 #[true, false, true, true, false, true, false, false, false, false] ⟨37, [(2, .obj b1 ((Node.c n).map .r)), (4, .obj b2 [I 0, I 0, I 0, I 0, I 0, .r (.v (.slice none 0 0)), I 0, I 0, .r (.v (.slice none 0 0)), I 0, I 0, I 0, .r (.v (.slice none 0 0)), .r (.v (.slice none 0 0))]), (6, .obj b10 [I n.id, I n.term_, I n.vote, I n.role, I n.lead, .w (sl 1 cI (confAtS n i)) (g11 0 0), I n.log.start, I n.log.startTerm, .w (sl 3 Entry.c n.log.entries) (g9 0 8), I n.commit, I n.clock, I n.limit, .w (sl 1 cI n.votes) (g9 0 12), .w (sl 4 Peer.c n.peers) (g9 0 13)]), (27, .pt 2 b1 6), (29, I i), (30, .pt 2 b1 6), (32, I i)]⟩ K := by
     refine RA.of hall (RA.step (L := [1, 4]) (by kernel_rfl) (by simp) (RA.each ?_ (RA.each ?_ (RA.each0))))
     ·skip
      refine RO.v rfl rfl (V.loadAgg rfl rfl rfl rfl rfl (Nat.le_of_ble_eq_true rfl)) rfl ?_
      exact RA.to hall (RA.lr ro12_1111010000 rfl rfl)
     ·skip
      refine RO.v rfl rfl (V.loadAgg rfl rfl rfl rfl rfl (Nat.le_of_ble_eq_true rfl)) rfl ?_
      exact RA.to hall (RA.lr ro12_1011110000 rfl rfl)
    have ro12_1011100000 : RA E B all 6 #[true, false, true, true, true, false, false, false, false, false] ⟨37, [(1, I i), (2, .obj b1 ((Node.c n).map .r)), (4, .obj b2 [I 0, I 0, I 0, I 0, I 0, .r (.v (.slice none 0 0)), I 0, I 0, .r (.v (.slice none 0 0)), I 0, I 0, I 0, .r (.v (.slice none 0 0)), .r (.v (.slice none 0 0))]), (6, .obj b10 [I n.id, I n.term_, I n.vote, I n.role, I n.lead, .w (sl 1 cI (confAtS n i)) (g11 0 0), I n.log.start, I n.log.startTerm, .w (sl 3 Entry.c n.log.entries) (g9 0 8), I n.commit, I n.clock, I n.limit, .w (sl 1 cI n.votes) (g9 0 12), .w (sl 4 Peer.c n.peers) (g9 0 13)]), (27, .pt 2 b1 6), (29, I i), (31, .agg ((Log.c n.log).map .r))]⟩ K := by
     refine RA.of hall (RA.step (L := [1, 5]) (by kernel_rfl) (by simp) (RA.each ?_ (RA.each ?_ (RA.each0))))
     ·skip
      refine RO.v rfl rfl (V.loadAgg rfl rfl rfl rfl rfl (Nat.le_of_ble_eq_true rfl)) rfl ?_
      exact RA.to hall (RA.lr ro12_1111100000 rfl rfl)
     ·skip
      refine RO.v rfl rfl (V.mv (d := I i) rfl rfl) rfl ?_
      exact RA.to hall (RA.lr ro12_1011110000 rfl rfl)
    have ro12_1101010000 : RA E B all 6 #[true, true, false, true, false, true, false, false, false, false] ⟨37, [(1, I i), (2, .obj b1 ((Node.c n).map .r)), (4, .obj b2 [I 0, I 0, I 0, I 0, I 0, .r (.v (.slice none 0 0)), I 0, I 0, .r (.v (.slice none 0 0)), I 0, I 0, I 0, .r (.v (.slice none 0 0)), .r (.v (.slice none 0 0))]), (6, .obj b10 [I n.id, I n.term_, I n.vote, I n.role, I n.lead, .w (sl 1 cI (confAtS n i)) (g11 0 0), I n.log.start, I n.log.startTerm, .w (sl 3 Entry.c n.log.entries) (g9 0 8), I n.commit, I n.clock, I n.limit, .w (sl 1 cI n.votes) (g9 0 12), .w (sl 4 Peer.c n.peers) (g9 0 13)]), (28, .agg ((Log.c n.log).map .r)), (30, .pt 2 b1 6), (32, I i)]⟩ K := by
     refine RA.of hall (RA.step (L := [2, 4]) (by kernel_rfl) (by simp) (RA.each ?_ (RA.each ?_ (RA.each0))))
     ·skip
      refine RO.v rfl rfl (V.mv (d := I i) rfl rfl) rfl ?_
      exact RA.to hall (RA.lr ro12_1111010000 rfl rfl)
     ·skip
      refine RO.v rfl rfl (V.loadAgg rfl rfl rfl rfl rfl (Nat.le_of_ble_eq_true rfl)) rfl ?_
      exact RA.to hall (RA.lr ro12_1101110000 rfl rfl)
    have ro12_1101100000 : RA E B all 6 #[true, true, false, true, true, false, false, false, false, false] ⟨37, [(1, I i), (4, .obj b2 [I 0, I 0, I 0, I 0, I 0, .r (.v (.slice none 0 0)), I 0, I 0, .r (.v (.slice none 0 0)), I 0, I 0, I 0, .r (.v (.slice none 0 0)), .r (.v (.slice none 0 0))]), (6, .obj b10 [I n.id, I n.term_, I n.vote, I n.role, I n.lead, .w (sl 1 cI (confAtS n i)) (g11 0 0), I n.log.start, I n.log.startTerm, .w (sl 3 Entry.c n.log.entries) (g9 0 8), I n.commit, I n.clock, I n.limit, .w (sl 1 cI n.votes) (g9 0 12), .w (sl 4 Peer.c n.peers) (g9 0 13)]), (28, .agg ((Log.c n.log).map .r)), (31, .agg ((Log.c n.log).map .r))]⟩ K := by
     refine RA.of hall (RA.step (L := [2, 5]) (by kernel_rfl) (by simp) (RA.each ?_ (RA.each ?_ (RA.each0))))
     ·skip
      refine RO.v rfl rfl (V.mv (d := I i) rfl rfl) rfl ?_
      exact RA.to hall (RA.lr ro12_1111100000 rfl rfl)
     ·skip
      refine RO.v rfl rfl (V.mv (d := I i) rfl rfl) rfl ?_
      exact RA.to hall (RA.lr ro12_1101110000 rfl rfl)
    have ro12_1110010000 : RA E B all 6 #[true, true, true, false, false, true, false, false, false, false] ⟨37, [(2, .obj b1 ((Node.c n).map .r)), (4, .obj b2 [I 0, I 0, I 0, I 0, I 0, .r (.v (.slice none 0 0)), I 0, I 0, .r (.v (.slice none 0 0)), I 0, I 0, I 0, .r (.v (.slice none 0 0)), .r (.v (.slice none 0 0))]), (6, .obj b10 [I n.id, I n.term_, I n.vote, I n.role, I n.lead, .w (sl 1 cI (confAtS n i)) (g11 0 0), I n.log.start, I n.log.startTerm, .w (sl 3 Entry.c n.log.entries) (g9 0 8), I n.commit, I n.clock, I n.limit, .w (sl 1 cI n.votes) (g9 0 12), .w (sl 4 Peer.c n.peers) (g9 0 13)]), (28, .agg ((Log.c n.log).map .r)), (29, I i), (32, I i)]⟩ K := by
     refine RA.of hall (RA.step (L := [3]) (by kernel_rfl) (by simp) (RA.each ?_ (RA.each0)))
     ·skip
      refine RO.v rfl rfl (V.field rfl rfl rfl rfl (by decide) rfl) rfl ?_
      exact RA.to hall (RA.lr ro12_1111010000 rfl rfl)
    have ro12_1111000000 : RA E B all 6 #[true, true, true, true, false, false, false, false, false, false] ⟨37, [(1, I i), (2, .obj b1 ((Node.c n).map .r)), (4, .obj b2 [I 0, I 0, I 0, I 0, I 0, .r (.v (.slice none 0 0)), I 0, I 0, .r (.v (.slice none 0 0)), I 0, I 0, I 0, .r (.v (.slice none 0 0)), .r (.v (.slice none 0 0))]), (6, .obj b10 [I n.id, I n.term_, I n.vote, I n.role, I n.lead, .w (sl 1 cI (confAtS n i)) (g11 0 0), I n.log.start, I n.log.startTerm, .w (sl 3 Entry.c n.log.entries) (g9 0 8), I n.commit, I n.clock, I n.limit, .w (sl 1 cI n.votes) (g9 0 12), .w (sl 4 Peer.c n.peers) (g9 0 13)]), (28, .agg ((Log.c n.log).map .r)), (29, I i), (30, .pt 2 b1 6)]⟩ K := by
     refine RA.of hall (RA.step (L := [4, 5]) (by kernel_rfl) (by simp) (RA.each ?_ (RA.each ?_ (RA.each0))))
     ·skip
      refine RO.v rfl rfl (V.loadAgg rfl rfl rfl rfl rfl (Nat.le_of_ble_eq_true rfl)) rfl ?_
      exact RA.to hall (RA.lr ro12_1111100000 rfl rfl)
     ·skip
      refine RO.v rfl rfl (V.mv (d := I i) rfl rfl) rfl ?_
      exact RA.to hall (RA.lr ro12_1111010000 rfl rfl)
    have ro12_0001110000 : RA E B all 7 #[false, false, false, true, true, true, false, false, false, false] ⟨37, [(1, I i), (2, .obj b1 ((Node.c n).map .r)), (4, .obj b2 [I 0, I 0, I 0, I 0, I 0, .r (.v (.slice none 0 0)), I 0, I 0, .r (.v (.slice none 0 0)), I 0, I 0, I 0, .r (.v (.slice none 0 0)), .r (.v (.slice none 0 0))]), (6, .obj b10 [I n.id, I n.term_, I n.vote, I n.role, I n.lead, .w (sl 1 cI (confAtS n i)) (g11 0 0), I n.log.start, I n.log.startTerm, .w (sl 3 Entry.c n.log.entries) (g9 0 8), I n.commit, I n.clock, I n.limit, .w (sl 1 cI n.votes) (g9 0 12), .w (sl 4 Peer.c n.peers) (g9 0 13)]), (31, .agg ((Log.c n.log).map .r)), (32, I i)]⟩ K := by
     refine RA.of hall (RA.step (L := [0, 2, 6]) (by kernel_rfl) (by simp) (RA.each ?_ (RA.each ?_ (RA.each ?_ (RA.each0)))))
     ·skip
      refine RO.v rfl rfl (V.field rfl rfl rfl rfl (by decide) rfl) rfl ?_
      exact RA.to hall (RA.lr ro12_1001110000 rfl rfl)
     ·skip
      refine RO.v rfl rfl (V.mv (d := I i) rfl rfl) rfl ?_
      exact RA.to hall (RA.lr ro12_0011110000 rfl rfl)
     ·skip
      refine RO.call rfl rfl (spec_LogTerm_fn n.log i hs hi) rfl (.cons (.agg (.cons (.r .r) (.cons (.r .r) (.cons (.r .r) (.nil))))) (.cons (.one (.r .r)) (.nil))) rfl fun go12_6_1 => ?_
      exact RA.to hall (RA.lr (ro12_0001111000 go12_6_1) rfl rfl)
    have ro12_0011010000 : RA E B all 7 #[false, false, true, true, false, true, false, false, false, false] ⟨37, [(2, .obj b1 ((Node.c n).map .r)), (4, .obj b2 [I 0, I 0, I 0, I 0, I 0, .r (.v (.slice none 0 0)), I 0, I 0, .r (.v (.slice none 0 0)), I 0, I 0, I 0, .r (.v (.slice none 0 0)), .r (.v (.slice none 0 0))]), (6, .obj b10 [I n.id, I n.term_, I n.vote, I n.role, I n.lead, .w (sl 1 cI (confAtS n i)) (g11 0 0), I n.log.start, I n.log.startTerm, .w (sl 3 Entry.c n.log.entries) (g9 0 8), I n.commit, I n.clock, I n.limit, .w (sl 1 cI n.votes) (g9 0 12), .w (sl 4 Peer.c n.peers) (g9 0 13)]), (29, I i), (30, .pt 2 b1 6), (32, I i)]⟩ K := by
     refine RA.of hall (RA.step (L := [0, 4]) (by kernel_rfl) (by simp) (RA.each ?_ (RA.each ?_ (RA.each0))))
     ·skip
      refine RO.v rfl rfl (V.field rfl rfl rfl rfl (by decide) rfl) rfl ?_
      exact RA.to hall (RA.lr ro12_1011010000 rfl rfl)
     ·skip
      refine RO.v rfl rfl (V.loadAgg rfl rfl rfl rfl rfl (Nat.le_of_ble_eq_true rfl)) rfl ?_
      exact RA.to hall (RA.lr ro12_0011110000 rfl rfl)
    have ro12_0011100000 : RA E B all 7 #[false, false, true, true, true, false, false, false, false, false] ⟨37, [(1, I i), (2, .obj b1 ((Node.c n).map .r)), (4, .obj b2 [I 0, I 0, I 0, I 0, I 0, .r (.v (.slice none 0 0)), I 0, I 0, .r (.v (.slice none 0 0)), I 0, I 0, I 0, .r (.v (.slice none 0 0)), .r (.v (.slice none 0 0))]), (6, .obj b10 [I n.id, I n.term_, I n.vote, I n.role, I n.lead, .w (sl 1 cI (confAtS n i)) (g11 0 0), I n.log.start, I n.log.startTerm, .w (sl 3 Entry.c n.log.entries) (g9 0 8), I n.commit, I n.clock, I n.limit, .w (sl 1 cI n.votes) (g9 0 12), .w (sl 4 Peer.c n.peers) (g9 0 13)]), (29, I i), (31, .agg ((Log.c n.log).map .r))]⟩ K := by
     refine RA.of hall (RA.step (L := [0, 5]) (by kernel_rfl) (by simp) (RA.each ?_ (RA.each ?_ (RA.each0))))
     ·skip
      refine RO.v rfl rfl (V.field rfl rfl rfl rfl (by decide) rfl) rfl ?_
      exact RA.to hall (RA.lr ro12_1011100000 rfl rfl)
     ·skip
      refine RO.v rfl rfl (V.mv (d := I i) rfl rfl) rfl ?_
      exact RA.to hall (RA.lr ro12_0011110000 rfl rfl)
    have ro12_1001010000 : RA E B all 7 #[true, false, false, true, false, true, false, false, false, false] ⟨37, [(1, I i), (2, .obj b1 ((Node.c n).map .r)), (4, .obj b2 [I 0, I 0, I 0, I 0, I 0, .r (.v (.slice none 0 0)), I 0, I 0, .r (.v (.slice none 0 0)), I 0, I 0, I 0, .r (.v (.slice none 0 0)), .r (.v (.slice none 0 0))]), (6, .obj b10 [I n.id, I n.term_, I n.vote, I n.role, I n.lead, .w (sl 1 cI (confAtS n i)) (g11 0 0), I n.log.start, I n.log.startTerm, .w (sl 3 Entry.c n.log.entries) (g9 0 8), I n.commit, I n.clock, I n.limit, .w (sl 1 cI n.votes) (g9 0 12), .w (sl 4 Peer.c n.peers) (g9 0 13)]), (27, .pt 2 b1 6), (30, .pt 2 b1 6), (32, I i)]⟩ K := by
     refine RA.of hall (RA.step (L := [1, 2, 4]) (by kernel_rfl) (by simp) (RA.each ?_ (RA.each ?_ (RA.each ?_ (RA.each0)))))
     ·skip
      refine RO.v rfl rfl (V.loadAgg rfl rfl rfl rfl rfl (Nat.le_of_ble_eq_true rfl)) rfl ?_
      exact RA.to hall (RA.lr ro12_1101010000 rfl rfl)
     ·skip
      refine RO.v rfl rfl (V.mv (d := I i) rfl rfl) rfl ?_
      exact RA.to hall (RA.lr ro12_1011010000 rfl rfl)
     ·skip
      refine RO.v rfl rfl (V.loadAgg rfl rfl rfl rfl rfl (Nat.le_of_ble_eq_true rfl)) rfl ?_
      exact RA.to hall (RA.lr ro12_1001110000 rfl rfl)
    have ro12_1001100000 : RA E B all 7 #[true, false, false, true, true, false, false, false, false, false] ⟨37, [(1, I i), (2, .obj b1 ((Node.c n).map .r)), (4, .obj b2 [I 0, I 0, I 0, I 0, I 0, .r (.v (.slice none 0 0)), I 0, I 0, .r (.v (.slice none 0 0)), I 0, I 0, I 0, .r (.v (.slice none 0 0)), .r (.v (.slice none 0 0))]), (6, .obj b10 [I n.id, I n.term_, I n.vote, I n.role, I n.lead, .w (sl 1 cI (confAtS n i)) (g11 0 0), I n.log.start, I n.log.startTerm, .w (sl 3 Entry.c n.log.entries) (g9 0 8), I n.commit, I n.clock, I n.limit, .w (sl 1 cI n.votes) (g9 0 12), .w (sl 4 Peer.c n.peers) (g9 0 13)]), (27, .pt 2 b1 6), (31, .agg ((Log.c n.log).map .r))]⟩ K := by
     refine RA.of hall (RA.step (L := [1, 2, 5]) (by kernel_rfl) (by simp) (RA.each ?_ (RA.each ?_ (RA.each ?_ (RA.each0)))))
     ·skip
      refine RO.v rfl rfl (V.loadAgg rfl rfl rfl rfl rfl (Nat.le_of_ble_eq_true rfl)) rfl ?_
      exact RA.to hall (RA.lr ro12_1101100000 rfl rfl)
     ·skip
      refine RO.v rfl rfl (V.mv (d := I i) rfl rfl) rfl ?_
      exact RA.to hall (RA.lr ro12_1011100000 rfl rfl)
     ·skip
      refine RO.v rfl rfl (V.mv (d := I i) rfl rfl) rfl ?_
      exact RA.to hall (RA.lr ro12_1001110000 rfl rfl)
    have ro12_1010010000 : RA E B all 7 #[true, false, true, false, false, true, false, false, false, false] ⟨37, [(2, .obj b1 ((Node.c n).map .r)), (4, .obj b2 [I 0, I 0, I 0, I 0, I 0, .r (.v (.slice none 0 0)), I 0, I 0, .r (.v (.slice none 0 0)), I 0, I 0, I 0, .r (.v (.slice none 0 0)), .r (.v (.slice none 0 0))]), (6, .obj b10 [I n.id, I n.term_, I n.vote, I n.role, I n.lead, .w (sl 1 cI (confAtS n i)) (g11 0 0), I n.log.start, I n.log.startTerm, .w (sl 3 Entry.c n.log.entries) (g9 0 8), I n.commit, I n.clock, I n.limit, .w (sl 1 cI n.votes) (g9 0 12), .w (sl 4 Peer.c n.peers) (g9 0 13)]), (27, .pt 2 b1 6), (29, I i), (32, I i)]⟩ K := by
     refine RA.of hall (RA.step (L := [1, 3]) (by kernel_rfl) (by simp) (RA.each ?_ (RA.each ?_ (RA.each0))))
     ·skip
      refine RO.v rfl rfl (V.loadAgg rfl rfl rfl rfl rfl (Nat.le_of_ble_eq_true rfl)) rfl ?_
      exact RA.to hall (RA.lr ro12_1110010000 rfl rfl)
     ·skip
      refine RO.v rfl rfl (V.field rfl rfl rfl rfl (by decide) rfl) rfl ?_
      exact RA.to hall (RA.lr ro12_1011010000 rfl rfl)
    have ro12_1011000000 : RA E B all 7 #[true, false, true, true, false, false, false, false, false, false] ⟨37, [(1, I i), (2, .obj b1 ((Node.c n).map .r)), (4, .obj b2 [I 0, I 0, I 0, I 0, I 0, .r (.v (.slice none 0 0)), I 0, I 0, .r (.v (.slice none 0 0)), I 0, I 0, I 0, .r (.v (.slice none 0 0)), .r (.v (.slice none 0 0))]), (6, .obj b10 [I n.id, I n.term_, I n.vote, I n.role, I n.lead, .w (sl 1 cI (confAtS n i)) (g11 0 0), I n.log.start, I n.log.startTerm, .w (sl 3 Entry.c n.log.entries) (g9 0 8), I n.commit, I n.clock, I n.limit, .w (sl 1 cI n.votes) (g9 0 12), .w (sl 4 Peer.c n.peers) (g9 0 13)]), (27, .pt 2 b1 6), (29, I i), (30, .pt 2 b1 6)]⟩ K := by
     refine RA.of hall (RA.step (L := [1, 4, 5]) (by kernel_rfl) (by simp) (RA.each ?_ (RA.each ?_ (RA.each ?_ (RA.each0)))))
     ·skip
      refine RO.v rfl rfl (V.loadAgg rfl rfl rfl rfl rfl (Nat.le_of_ble_eq_true rfl)) rfl ?_
      exact RA.to hall (RA.lr ro12_1111000000 rfl rfl)
     ·skip
      refine RO.v rfl rfl (V.loadAgg rfl rfl rfl rfl rfl (Nat.le_of_ble_eq_true rfl)) rfl ?_
      exact RA.to hall (RA.lr ro12_1011100000 rfl rfl)
     ·skip
      refine RO.v rfl rfl (V.mv (d := I i) rfl rfl) rfl ?_
      exact RA.to hall (RA.lr ro12_1011010000 rfl rfl)
    have ro12_1100010000 : RA E B all 7 #[true, true, false, false, false, true, false, false, false, false] ⟨37, [(1, I i), (2, .obj b1 ((Node.c n).map .r)), (4, .obj b2 [I 0, I 0, I 0, I 0, I 0, .r (.v (.slice none 0 0)), I 0, I 0, .r (.v (.slice none 0 0)), I 0, I 0, I 0, .r (.v (.slice none 0 0)), .r (.v (.slice none 0 0))]), (6, .obj b10 [I n.id, I n.term_, I n.vote, I n.role, I n.lead, .w (sl 1 cI (confAtS n i)) (g11 0 0), I n.log.start, I n.log.startTerm, .w (sl 3 Entry.c n.log.entries) (g9 0 8), I n.commit, I n.clock, I n.limit, .w (sl 1 cI n.votes) (g9 0 12), .w (sl 4 Peer.c n.peers) (g9 0 13)]), (28, .agg ((Log.c n.log).map .r)), (32, I i)]⟩ K := by
     refine RA.of hall (RA.step (L := [2, 3]) (by kernel_rfl) (by simp) (RA.each ?_ (RA.each ?_ (RA.each0))))
     ·skip
      refine RO.v rfl rfl (V.mv (d := I i) rfl rfl) rfl ?_
      exact RA.to hall (RA.lr ro12_1110010000 rfl rfl)
     ·skip
      refine RO.v rfl rfl (V.field rfl rfl rfl rfl (by decide) rfl) rfl ?_
      exact RA.to hall (RA.lr ro12_1101010000 rfl rfl)
    have ro12_1101000000 : RA E B all 7 #[true, true, false, true, false, false, false, false, false, false] ⟨37, [(1, I i), (2, .obj b1 ((Node.c n).map .r)), (4, .obj b2 [I 0, I 0, I 0, I 0, I 0, .r (.v (.slice none 0 0)), I 0, I 0, .r (.v (.slice none 0 0)), I 0, I 0, I 0, .r (.v (.slice none 0 0)), .r (.v (.slice none 0 0))]), (6, .obj b10 [I n.id, I n.term_, I n.vote, I n.role, I n.lead, .w (sl 1 cI (confAtS n i)) (g11 0 0), I n.log.start, I n.log.startTerm, .w (sl 3 Entry.c n.log.entries) (g9 0 8), I n.commit, I n.clock, I n.limit, .w (sl 1 cI n.votes) (g9 0 12), .w (sl 4 Peer.c n.peers) (g9 0 13)]), (28, .agg ((Log.c n.log).map .r)), (30, .pt 2 b1 6)]⟩ K := by
     refine RA.of hall (RA.step (L := [2, 4, 5]) (by kernel_rfl) (by simp) (RA.each ?_ (RA.each ?_ (RA.each ?_ (RA.each0)))))
     ·skip
      refine RO.v rfl rfl (V.mv (d := I i) rfl rfl) rfl ?_
      exact RA.to hall (RA.lr ro12_1111000000 rfl rfl)
     ·skip
      refine RO.v rfl rfl (V.loadAgg rfl rfl rfl rfl rfl (Nat.le_of_ble_eq_true rfl)) rfl ?_
      exact RA.to hall (RA.lr ro12_1101100000 rfl rfl)
     ·skip
      refine RO.v rfl rfl (V.mv (d := I i) rfl rfl) rfl ?_
      exact RA.to hall (RA.lr ro12_1101010000 rfl rfl)
    have ro12_1110000000 : RA E B all 7 #[true, true, true, false, false, false, false, false, false, false] ⟨37, [(1, I i), (2, .obj b1 ((Node.c n).map .r)), (4, .obj b2 [I 0, I 0, I 0, I 0, I 0, .r (.v (.slice none 0 0)), I 0, I 0, .r (.v (.slice none 0 0)), I 0, I 0, I 0, .r (.v (.slice none 0 0)), .r (.v (.slice none 0 0))]), (6, .obj b10 [I n.id, I n.term_, I n.vote, I n.role, I n.lead, .w (sl 1 cI (confAtS n i)) (g11 0 0), I n.log.start, I n.log.startTerm, .w (sl 3 Entry.c n.log.entries) (g9 0 8), I n.commit, I n.clock, I n.limit, .w (sl 1 cI n.votes) (g9 0 12), .w (sl 4 Peer.c n.peers) (g9 0 13)]), (28, .agg ((Log.c n.log).map .r)), (29, I i)]⟩ K := by
     refine RA.of hall (RA.step (L := [3, 5]) (by kernel_rfl) (by simp) (RA.each ?_ (RA.each ?_ (RA.each0))))
     ·skip
      refine RO.v rfl rfl (V.field rfl rfl rfl rfl (by decide) rfl) rfl ?_
      exact RA.to hall (RA.lr ro12_1111000000 rfl rfl)
     ·skip
      refine RO.v rfl rfl (V.mv (d := I i) rfl rfl) rfl ?_
      exact RA.to hall (RA.lr ro12_1110010000 rfl rfl)
    have ro12_0001010000 : RA E B all 8 #[false, false, false, true, false, true, false, false, false, false] ⟨37, [(1, I i), (2, .obj b1 ((Node.c n).map .r)), (4, .obj b2 [I 0, I 0, I 0, I 0, I 0, .r (.v (.slice none 0 0)), I 0, I 0, .r (.v (.slice none 0 0)), I 0, I 0, I 0, .r (.v (.slice none 0 0)), .r (.v (.slice none 0 0))]), (6, .obj b10 [I n.id, I n.term_, I n.vote, I n.role, I n.lead, .w (sl 1 cI (confAtS n i)) (g11 0 0), I n.log.start, I n.log.startTerm, .w (sl 3 Entry.c n.log.entries) (g9 0 8), I n.commit, I n.clock, I n.limit, .w (sl 1 cI n.votes) (g9 0 12), .w (sl 4 Peer.c n.peers) (g9 0 13)]), (30, .pt 2 b1 6), (32, I i)]⟩ K := by
     refine RA.of hall (RA.step (L := [0, 2, 4]) (by kernel_rfl) (by simp) (RA.each ?_ (RA.each ?_ (RA.each ?_ (RA.each0)))))
     ·skip
      refine RO.v rfl rfl (V.field rfl rfl rfl rfl (by decide) rfl) rfl ?_
      exact RA.to hall (RA.lr ro12_1001010000 rfl rfl)
     ·skip
      refine RO.v rfl rfl (V.mv (d := I i) rfl rfl) rfl ?_
      exact RA.to hall (RA.lr ro12_0011010000 rfl rfl)
     ·skip
      refine RO.v rfl rfl (V.loadAgg rfl rfl rfl rfl rfl (Nat.le_of_ble_eq_true rfl)) rfl ?_
      exact RA.to hall (RA.lr ro12_0001110000 rfl rfl)
    have ro12_0001100000 : RA E B all 8 #[false, false, false, true, true, false, false, false, false, false] ⟨37, [(1, I i), (2, .obj b1 ((Node.c n).map .r)), (4, .obj b2 [I 0, I 0, I 0, I 0, I 0, .r (.v (.slice none 0 0)), I 0, I 0, .r (.v (.slice none 0 0)), I 0, I 0, I 0, .r (.v (.slice none 0 0)), .r (.v (.slice none 0 0))]), (6, .obj b10 [I n.id, I n.term_, I n.vote, I n.role, I n.lead, .w (sl 1 cI (confAtS n i)) (g11 0 0), I n.log.start, I n.log.startTerm, .w (sl 3 Entry.c n.log.entries) (g9 0 8), I n.commit, I n.clock, I n.limit, .w (sl 1 cI n.votes) (g9 0 12), .w (sl 4 Peer.c n.peers) (g9 0 13)]), (31, .agg ((Log.c n.log).map .r))]⟩ K := by
     refine RA.of hall (RA.step (L := [0, 2, 5]) (by kernel_rfl) (by simp) (RA.each ?_ (RA.each ?_ (RA.each ?_ (RA.each0)))))
     ·skip
      refine RO.v rfl rfl (V.field rfl rfl rfl rfl (by decide) rfl) rfl ?_
      exact RA.to hall (RA.lr ro12_1001100000 rfl rfl)
     ·skip
      refine RO.v rfl rfl (V.mv (d := I i) rfl rfl) rfl ?_
      exact RA.to hall (RA.lr ro12_0011100000 rfl rfl)
     ·skip
      refine RO.v rfl rfl (V.mv (d := I i) rfl rfl) rfl ?_
      exact RA.to hall (RA.lr ro12_0001110000 rfl rfl)
    have ro12_0010010000 : RA E B all 8 #[false, false, true, false, false, true, false, false, false, false] ⟨37, [(2, .obj b1 ((Node.c n).map .r)), (4, .obj b2 [I 0, I 0, I 0, I 0, I 0, .r (.v (.slice none 0 0)), I 0, I 0, .r (.v (.slice none 0 0)), I 0, I 0, I 0, .r (.v (.slice none 0 0)), .r (.v (.slice none 0 0))]), (6, .obj b10 [I n.id, I n.term_, I n.vote, I n.role, I n.lead, .w (sl 1 cI (confAtS n i)) (g11 0 0), I n.log.start, I n.log.startTerm, .w (sl 3 Entry.c n.log.entries) (g9 0 8), I n.commit, I n.clock, I n.limit, .w (sl 1 cI n.votes) (g9 0 12), .w (sl 4 Peer.c n.peers) (g9 0 13)]), (29, I i), (32, I i)]⟩ K := by
     refine RA.of hall (RA.step (L := [0, 3]) (by kernel_rfl) (by simp) (RA.each ?_ (RA.each ?_ (RA.each0))))
     ·skip
      refine RO.v rfl rfl (V.field rfl rfl rfl rfl (by decide) rfl) rfl ?_
      exact RA.to hall (RA.lr ro12_1010010000 rfl rfl)
     ·skip
      refine RO.v rfl rfl (V.field rfl rfl rfl rfl (by decide) rfl) rfl ?_
      exact RA.to hall (RA.lr ro12_0011010000 rfl rfl)
    have ro12_0011000000 : RA E B all 8 #[false, false, true, true, false, false, false, false, false, false] ⟨37, [(1, I i), (2, .obj b1 ((Node.c n).map .r)), (4, .obj b2 [I 0, I 0, I 0, I 0, I 0, .r (.v (.slice none 0 0)), I 0, I 0, .r (.v (.slice none 0 0)), I 0, I 0, I 0, .r (.v (.slice none 0 0)), .r (.v (.slice none 0 0))]), (6, .obj b10 [I n.id, I n.term_, I n.vote, I n.role, I n.lead, .w (sl 1 cI (confAtS n i)) (g11 0 0), I n.log.start, I n.log.startTerm, .w (sl 3 Entry.c n.log.entries) (g9 0 8), I n.commit, I n.clock, I n.limit, .w (sl 1 cI n.votes) (g9 0 12), .w (sl 4 Peer.c n.peers) (g9 0 13)]), (29, I i), (30, .pt 2 b1 6)]⟩ K := by
     refine RA.of hall (RA.step (L := [0, 4, 5]) (by kernel_rfl) (by simp) (RA.each ?_ (RA.each ?_ (RA.each ?_ (RA.each0)))))
     ·skip
      refine RO.v rfl rfl (V.field rfl rfl rfl rfl (by decide) rfl) rfl ?_
      exact RA.to hall (RA.lr ro12_1011000000 rfl rfl)
     ·skip
      refine RO.v rfl rfl (V.loadAgg rfl rfl rfl rfl rfl (Nat.le_of_ble_eq_true rfl)) rfl ?_
      exact RA.to hall (RA.lr ro12_0011100000 rfl rfl)
     ·skip
      refine RO.v rfl rfl (V.mv (d := I i) rfl rfl) rfl ?_
      exact RA.to hall (RA.lr ro12_0011010000 rfl rfl)
    have ro12_1000010000 : RA E B all 8 #[true, false, false, false, false, true, false, false, false, false] ⟨37, [(1, I i), (2, .obj b1 ((Node.c n).map .r)), (4, .obj b2 [I 0, I 0, I 0, I 0, I 0, .r (.v (.slice none 0 0)), I 0, I 0, .r (.v (.slice none 0 0)), I 0, I 0, I 0, .r (.v (.slice none 0 0)), .r (.v (.slice none 0 0))]), (6, .obj b10 [I n.id, I n.term_, I n.vote, I n.role, I n.lead, .w (sl 1 cI (confAtS n i)) (g11 0 0), I n.log.start, I n.log.startTerm, .w (sl 3 Entry.c n.log.entries) (g9 0 8), I n.commit, I n.clock, I n.limit, .w (sl 1 cI n.votes) (g9 0 12), .w (sl 4 Peer.c n.peers) (g9 0 13)]), (27, .pt 2 b1 6), (32, I i)]⟩ K := by
     refine RA.of hall (RA.step (L := [1, 2, 3]) (by kernel_rfl) (by simp) (RA.each ?_ (RA.each ?_ (RA.each ?_ (RA.each0)))))
     ·skip
      refine RO.v rfl rfl (V.loadAgg rfl rfl rfl rfl rfl (Nat.le_of_ble_eq_true rfl)) rfl ?_
      exact RA.to hall (RA.lr ro12_1100010000 rfl rfl)
     ·skip
      refine RO.v rfl rfl (V.mv (d := I i) rfl rfl) rfl ?_
      exact RA.to hall (RA.lr ro12_1010010000 rfl rfl)
     ·skip
      refine RO.v rfl rfl (V.field rfl rfl rfl rfl (by decide) rfl) rfl ?_
      exact RA.to hall (RA.lr ro12_1001010000 rfl rfl)
    have ro12_1001000000 : RA E B all 8 #[true, false, false, true, false, false, false, false, false, false] ⟨37, [(1, I i), (2, .obj b1 ((Node.c n).map .r)), (4, .obj b2 [I 0, I 0, I 0, I 0, I 0, .r (.v (.slice none 0 0)), I 0, I 0, .r (.v (.slice none 0 0)), I 0, I 0, I 0, .r (.v (.slice none 0 0)), .r (.v (.slice none 0 0))]), (6, .obj b10 [I n.id, I n.term_, I n.vote, I n.role, I n.lead, .w (sl 1 cI (confAtS n i)) (g11 0 0), I n.log.start, I n.log.startTerm, .w (sl 3 Entry.c n.log.entries) (g9 0 8), I n.commit, I n.clock, I n.limit, .w (sl 1 cI n.votes) (g9 0 12), .w (sl 4 Peer.c n.peers) (g9 0 13)]), (27, .pt 2 b1 6), (30, .pt 2 b1 6)]⟩ K := by
     refine RA.of hall (RA.step (L := [1, 2, 4, 5]) (by kernel_rfl) (by simp) (RA.each ?_ (RA.each ?_ (RA.each ?_ (RA.each ?_ (RA.each0))))))
     ·skip
      refine RO.v rfl rfl (V.loadAgg rfl rfl rfl rfl rfl (Nat.le_of_ble_eq_true rfl)) rfl ?_
      exact RA.to hall (RA.lr ro12_1101000000 rfl rfl)
     ·skip
      refine RO.v rfl rfl (V.mv (d := I i) rfl rfl) rfl ?_
      exact RA.to hall (RA.lr ro12_1011000000 rfl rfl)
     ·skip
      refine RO.v rfl rfl (V.loadAgg rfl rfl rfl rfl rfl (Nat.le_of_ble_eq_true rfl)) rfl ?_
      exact RA.to hall (RA.lr ro12_1001100000 rfl rfl)
     ·skip
      refine RO.v rfl rfl (V.mv (d := I i) rfl rfl) rfl ?_
      exact RA.to hall (RA.lr ro12_1001010000 rfl rfl)
    have ro12_1010000000 : RA E B all 8 #[true, false, true, false, false, false, false, false, false, false] ⟨37, [(1, I i), (2, .obj b1 ((Node.c n).map .r)), (4, .obj b2 [I 0, I 0, I 0, I 0, I 0, .r (.v (.slice none 0 0)), I 0, I 0, .r (.v (.slice none 0 0)), I 0, I 0, I 0, .r (.v (.slice none 0 0)), .r (.v (.slice none 0 0))]), (6, .obj b10 [I n.id, I n.term_, I n.vote, I n.role, I n.lead, .w (sl 1 cI (confAtS n i)) (g11 0 0), I n.log.start, I n.log.startTerm, .w (sl 3 Entry.c n.log.entries) (g9 0 8), I n.commit, I n.clock, I n.limit, .w (sl 1 cI n.votes) (g9 0 12), .w (sl 4 Peer.c n.peers) (g9 0 13)]), (27, .pt 2 b1 6), (29, I i)]⟩ K := by
     refine RA.of hall (RA.step (L := [1, 3, 5]) (by kernel_rfl) (by simp) (RA.each ?_ (RA.each ?_ (RA.each ?_ (RA.each0)))))
     ·skip
      refine RO.v rfl rfl (V.loadAgg rfl rfl rfl rfl rfl (Nat.le_of_ble_eq_true rfl)) rfl ?_
      exact RA.to hall (RA.lr ro12_1110000000 rfl rfl)
     ·skip
      refine RO.v rfl rfl (V.field rfl rfl rfl rfl (by decide) rfl) rfl ?_
      exact RA.to hall (RA.lr ro12_1011000000 rfl rfl)
     ·skip
      refine RO.v rfl rfl (V.mv (d := I i) rfl rfl) rfl ?_
      exact RA.to hall (RA.lr ro12_1010010000 rfl rfl)
    have ro12_1100000000 : RA E B all 8 #[true, true, false, false, false, false, false, false, false, false] ⟨37, [(1, I i), (2, .obj b1 ((Node.c n).map .r)), (4, .obj b2 [I 0, I 0, I 0, I 0, I 0, .r (.v (.slice none 0 0)), I 0, I 0, .r (.v (.slice none 0 0)), I 0, I 0, I 0, .r (.v (.slice none 0 0)), .r (.v (.slice none 0 0))]), (6, .obj b10 [I n.id, I n.term_, I n.vote, I n.role, I n.lead, .w (sl 1 cI (confAtS n i)) (g11 0 0), I n.log.start, I n.log.startTerm, .w (sl 3 Entry.c n.log.entries) (g9 0 8), I n.commit, I n.clock, I n.limit, .w (sl 1 cI n.votes) (g9 0 12), .w (sl 4 Peer.c n.peers) (g9 0 13)]), (28, .agg ((Log.c n.log).map .r))]⟩ K := by
     refine RA.of hall (RA.step (L := [2, 3, 5]) (by kernel_rfl) (by simp) (RA.each ?_ (RA.each ?_ (RA.each ?_ (RA.each0)))))
     ·skip
      refine RO.v rfl rfl (V.mv (d := I i) rfl rfl) rfl ?_
      exact RA.to hall (RA.lr ro12_1110000000 rfl rfl)
     ·skip
      refine RO.v rfl rfl (V.field rfl rfl rfl rfl (by decide) rfl) rfl ?_
      exact RA.to hall (RA.lr ro12_1101000000 rfl rfl)
     ·skip
      refine RO.v rfl rfl (V.mv (d := I i) rfl rfl) rfl ?_
      exact RA.to hall (RA.lr ro12_1100010000 rfl rfl)
    have ro12_0000010000 : RA E B all 9 #[false, false, false, false, false, true, false, false, false, false] ⟨37, [(1, I i), (2, .obj b1 ((Node.c n).map .r)), (4, .obj b2 [I 0, I 0, I 0, I 0, I 0, .r (.v (.slice none 0 0)), I 0, I 0, .r (.v (.slice none 0 0)), I 0, I 0, I 0, .r (.v (.slice none 0 0)), .r (.v (.slice none 0 0))]), (6, .obj b10 [I n.id, I n.term_, I n.vote, I n.role, I n.lead, .w (sl 1 cI (confAtS n i)) (g11 0 0), I n.log.start, I n.log.startTerm, .w (sl 3 Entry.c n.log.entries) (g9 0 8), I n.commit, I n.clock, I n.limit, .w (sl 1 cI n.votes) (g9 0 12), .w (sl 4 Peer.c n.peers) (g9 0 13)]), (32, I i)]⟩ K := by
     refine RA.of hall (RA.step (L := [0, 2, 3]) (by kernel_rfl) (by simp) (RA.each ?_ (RA.each ?_ (RA.each ?_ (RA.each0)))))
     ·skip
      refine RO.v rfl rfl (V.field rfl rfl rfl rfl (by decide) rfl) rfl ?_
      exact RA.to hall (RA.lr ro12_1000010000 rfl rfl)
     ·skip
      refine RO.v rfl rfl (V.mv (d := I i) rfl rfl) rfl ?_
      exact RA.to hall (RA.lr ro12_0010010000 rfl rfl)
     ·skip
      refine RO.v rfl rfl (V.field rfl rfl rfl rfl (by decide) rfl) rfl ?_
      exact RA.to hall (RA.lr ro12_0001010000 rfl rfl)
    have ro12_0001000000 : RA E B all 9 #[false, false, false, true, false, false, false, false, false, false] ⟨37, [(1, I i), (2, .obj b1 ((Node.c n).map .r)), (4, .obj b2 [I 0, I 0, I 0, I 0, I 0, .r (.v (.slice none 0 0)), I 0, I 0, .r (.v (.slice none 0 0)), I 0, I 0, I 0, .r (.v (.slice none 0 0)), .r (.v (.slice none 0 0))]), (6, .obj b10 [I n.id, I n.term_, I n.vote, I n.role, I n.lead, .w (sl 1 cI (confAtS n i)) (g11 0 0), I n.log.start, I n.log.startTerm, .w (sl 3 Entry.c n.log.entries) (g9 0 8), I n.commit, I n.clock, I n.limit, .w (sl 1 cI n.votes) (g9 0 12), .w (sl 4 Peer.c n.peers) (g9 0 13)]), (30, .pt 2 b1 6)]⟩ K := by
     refine RA.of hall (RA.step (L := [0, 2, 4, 5]) (by kernel_rfl) (by simp) (RA.each ?_ (RA.each ?_ (RA.each ?_ (RA.each ?_ (RA.each0))))))
     ·skip
      refine RO.v rfl rfl (V.field rfl rfl rfl rfl (by decide) rfl) rfl ?_
      exact RA.to hall (RA.lr ro12_1001000000 rfl rfl)
     ·skip
      refine RO.v rfl rfl (V.mv (d := I i) rfl rfl) rfl ?_
      exact RA.to hall (RA.lr ro12_0011000000 rfl rfl)
     ·skip
      refine RO.v rfl rfl (V.loadAgg rfl rfl rfl rfl rfl (Nat.le_of_ble_eq_true rfl)) rfl ?_
      exact RA.to hall (RA.lr ro12_0001100000 rfl rfl)
     ·skip
      refine RO.v rfl rfl (V.mv (d := I i) rfl rfl) rfl ?_
      exact RA.to hall (RA.lr ro12_0001010000 rfl rfl)
    have ro12_0010000000 : RA E B all 9 #[false, false, true, false, false, false, false, false, false, false] ⟨37, [(1, I i), (2, .obj b1 ((Node.c n).map .r)), (4, .obj b2 [I 0, I 0, I 0, I 0, I 0, .r (.v (.slice none 0 0)), I 0, I 0, .r (.v (.slice none 0 0)), I 0, I 0, I 0, .r (.v (.slice none 0 0)), .r (.v (.slice none 0 0))]), (6, .obj b10 [I n.id, I n.term_, I n.vote, I n.role, I n.lead, .w (sl 1 cI (confAtS n i)) (g11 0 0), I n.log.start, I n.log.startTerm, .w (sl 3 Entry.c n.log.entries) (g9 0 8), I n.commit, I n.clock, I n.limit, .w (sl 1 cI n.votes) (g9 0 12), .w (sl 4 Peer.c n.peers) (g9 0 13)]), (29, I i)]⟩ K := by
     refine RA.of hall (RA.step (L := [0, 3, 5]) (by kernel_rfl) (by simp) (RA.each ?_ (RA.each ?_ (RA.each ?_ (RA.each0)))))
     ·skip
      refine RO.v rfl rfl (V.field rfl rfl rfl rfl (by decide) rfl) rfl ?_
      exact RA.to hall (RA.lr ro12_1010000000 rfl rfl)
     ·skip
      refine RO.v rfl rfl (V.field rfl rfl rfl rfl (by decide) rfl) rfl ?_
      exact RA.to hall (RA.lr ro12_0011000000 rfl rfl)
     ·skip
      refine RO.v rfl rfl (V.mv (d := I i) rfl rfl) rfl ?_
      exact RA.to hall (RA.lr ro12_0010010000 rfl rfl)
    have ro12_1000000000 : RA E B all 9 #[true, false, false, false, false, false, false, false, false, false] ⟨37, [(1, I i), (2, .obj b1 ((Node.c n).map .r)), (4, .obj b2 [I 0, I 0, I 0, I 0, I 0, .r (.v (.slice none 0 0)), I 0, I 0, .r (.v (.slice none 0 0)), I 0, I 0, I 0, .r (.v (.slice none 0 0)), .r (.v (.slice none 0 0))]), (6, .obj b10 [I n.id, I n.term_, I n.vote, I n.role, I n.lead, .w (sl 1 cI (confAtS n i)) (g11 0 0), I n.log.start, I n.log.startTerm, .w (sl 3 Entry.c n.log.entries) (g9 0 8), I n.commit, I n.clock, I n.limit, .w (sl 1 cI n.votes) (g9 0 12), .w (sl 4 Peer.c n.peers) (g9 0 13)]), (27, .pt 2 b1 6)]⟩ K := by
     refine RA.of hall (RA.step (L := [1, 2, 3, 5]) (by kernel_rfl) (by simp) (RA.each ?_ (RA.each ?_ (RA.each ?_ (RA.each ?_ (RA.each0))))))
     ·skip
      refine RO.v rfl rfl (V.loadAgg rfl rfl rfl rfl rfl (Nat.le_of_ble_eq_true rfl)) rfl ?_
      exact RA.to hall (RA.lr ro12_1100000000 rfl rfl)
     ·skip
      refine RO.v rfl rfl (V.mv (d := I i) rfl rfl) rfl ?_
      exact RA.to hall (RA.lr ro12_1010000000 rfl rfl)
     ·skip
      refine RO.v rfl rfl (V.field rfl rfl rfl rfl (by decide) rfl) rfl ?_
      exact RA.to hall (RA.lr ro12_1001000000 rfl rfl)
     ·skip
      refine RO.v rfl rfl (V.mv (d := I i) rfl rfl) rfl ?_
      exact RA.to hall (RA.lr ro12_1000010000 rfl rfl)
    have ro12_0000000000 : RA E B all 10 #[false, false, false, false, false, false, false, false, false, false] ⟨37, [(1, I i), (2, .obj b1 ((Node.c n).map .r)), (4, .obj b2 [I 0, I 0, I 0, I 0, I 0, .r (.v (.slice none 0 0)), I 0, I 0, .r (.v (.slice none 0 0)), I 0, I 0, I 0, .r (.v (.slice none 0 0)), .r (.v (.slice none 0 0))]), (6, .obj b10 [I n.id, I n.term_, I n.vote, I n.role, I n.lead, .w (sl 1 cI (confAtS n i)) (g11 0 0), I n.log.start, I n.log.startTerm, .w (sl 3 Entry.c n.log.entries) (g9 0 8), I n.commit, I n.clock, I n.limit, .w (sl 1 cI n.votes) (g9 0 12), .w (sl 4 Peer.c n.peers) (g9 0 13)])]⟩ K := by
     refine RA.of hall (RA.step (L := [0, 2, 3, 5]) (by kernel_rfl) (by simp) (RA.each ?_ (RA.each ?_ (RA.each ?_ (RA.each ?_ (RA.each0))))))
     ·skip
      refine RO.v rfl rfl (V.field rfl rfl rfl rfl (by decide) rfl) rfl ?_
      exact RA.to hall (RA.lr ro12_1000000000 rfl rfl)
     ·skip
      refine RO.v rfl rfl (V.mv (d := I i) rfl rfl) rfl ?_
      exact RA.to hall (RA.lr ro12_0010000000 rfl rfl)
     ·skip
      refine RO.v rfl rfl (V.field rfl rfl rfl rfl (by decide) rfl) rfl ?_
      exact RA.to hall (RA.lr ro12_0001000000 rfl rfl)
     ·skip
      refine RO.v rfl rfl (V.mv (d := I i) rfl rfl) rfl ?_
      exact RA.to hall (RA.lr ro12_0000010000 rfl rfl)
    exact RA.start (by kernel_rfl) (by kernel_rfl) (RA.lr ro12_0000000000 rfl rfl)
   ·rintro ⟨go12_6_1, go12_7_1⟩
    refine CW.seq ?_
    refine CW.region ?_
    refine RW.v rfl (V.loadAgg rfl rfl rfl rfl rfl (Nat.le_of_ble_eq_true rfl)) ?_
    refine RW.storeAgg (es := [I n.id, I n.term_, I n.vote, I n.role, I n.lead, .al 6 (some 5) 1 ((confAtS n i).length) (g11 0 0) 0, I ((logBehind n.log i (logTerm n.log i)).start), I ((logBehind n.log i (logTerm n.log i)).startTerm), .al 6 (some 8) 3 (((logBehind n.log i (logTerm n.log i)).entries).length) (go12_7_1 0 2) 0, I n.commit, I n.clock, I n.limit, .al 6 (some 12) 1 n.votes.length (g9 0 12) 0, .al 6 (some 13) 4 n.peers.length (g9 0 13) 0]) rfl rfl rfl rfl rfl rfl rfl rfl (Nat.le_of_ble_eq_true rfl) rfl ?_
    refine RW.le [(4, .obj b2 [I n.id, I n.term_, I n.vote, I n.role, I n.lead, .al 6 (some 5) 1 ((confAtS n i).length) (g11 0 0) 0, I ((logBehind n.log i (logTerm n.log i)).start), I ((logBehind n.log i (logTerm n.log i)).startTerm), .al 6 (some 8) 3 (((logBehind n.log i (logTerm n.log i)).entries).length) (go12_7_1 0 2) 0, I n.commit, I n.clock, I n.limit, .al 6 (some 12) 1 n.votes.length (g9 0 12) 0, .al 6 (some 13) 4 n.peers.length (g9 0 13) 0]), (6, .obj b10 [I n.id, I n.term_, I n.vote, I n.role, I n.lead, .w (sl 1 cI (confAtS n i)) (g11 0 0), I ((logBehind n.log i (logTerm n.log i)).start), I ((logBehind n.log i (logTerm n.log i)).startTerm), .w (sl 3 Entry.c ((logBehind n.log i (logTerm n.log i)).entries)) (go12_7_1 0 2), I n.commit, I n.clock, I n.limit, .w (sl 1 cI n.votes) (g9 0 12), .w (sl 4 Peer.c n.peers) (g9 0 13)])] rfl (Le.of rfl) ?_
    refine RW.pullO (k := 4) (l := 6) (j := 5) 4 6 5 rfl rfl rfl (by decide) rfl rfl rfl rfl ?_
    refine RW.le [(4, .obj b2 [I n.id, I n.term_, I n.vote, I n.role, I n.lead, .w (sl 1 cI (confAtS n i)) (g11 0 0), I ((logBehind n.log i (logTerm n.log i)).start), I ((logBehind n.log i (logTerm n.log i)).startTerm), .al 6 (some 8) 3 (((logBehind n.log i (logTerm n.log i)).entries).length) (go12_7_1 0 2) 0, I n.commit, I n.clock, I n.limit, .al 6 (some 12) 1 n.votes.length (g9 0 12) 0, .al 6 (some 13) 4 n.peers.length (g9 0 13) 0]), (6, .obj b10 [I n.id, I n.term_, I n.vote, I n.role, I n.lead, .u, I ((logBehind n.log i (logTerm n.log i)).start), I ((logBehind n.log i (logTerm n.log i)).startTerm), .w (sl 3 Entry.c ((logBehind n.log i (logTerm n.log i)).entries)) (go12_7_1 0 2), I n.commit, I n.clock, I n.limit, .w (sl 1 cI n.votes) (g9 0 12), .w (sl 4 Peer.c n.peers) (g9 0 13)])] rfl (Le.of rfl) ?_
    refine RW.pullO (k := 4) (l := 6) (j := 8) 4 6 8 rfl rfl rfl (by decide) rfl rfl rfl rfl ?_
    refine RW.le [(4, .obj b2 [I n.id, I n.term_, I n.vote, I n.role, I n.lead, .w (sl 1 cI (confAtS n i)) (g11 0 0), I ((logBehind n.log i (logTerm n.log i)).start), I ((logBehind n.log i (logTerm n.log i)).startTerm), .w (sl 3 Entry.c ((logBehind n.log i (logTerm n.log i)).entries)) (go12_7_1 0 2), I n.commit, I n.clock, I n.limit, .al 6 (some 12) 1 n.votes.length (g9 0 12) 0, .al 6 (some 13) 4 n.peers.length (g9 0 13) 0]), (6, .obj b10 [I n.id, I n.term_, I n.vote, I n.role, I n.lead, .u, I ((logBehind n.log i (logTerm n.log i)).start), I ((logBehind n.log i (logTerm n.log i)).startTerm), .u, I n.commit, I n.clock, I n.limit, .w (sl 1 cI n.votes) (g9 0 12), .w (sl 4 Peer.c n.peers) (g9 0 13)])] rfl (Le.of rfl) ?_
    refine RW.pullO (k := 4) (l := 6) (j := 12) 4 6 12 rfl rfl rfl (by decide) rfl rfl rfl rfl ?_
    refine RW.le [(4, .obj b2 [I n.id, I n.term_, I n.vote, I n.role, I n.lead, .w (sl 1 cI (confAtS n i)) (g11 0 0), I ((logBehind n.log i (logTerm n.log i)).start), I ((logBehind n.log i (logTerm n.log i)).startTerm), .w (sl 3 Entry.c ((logBehind n.log i (logTerm n.log i)).entries)) (go12_7_1 0 2), I n.commit, I n.clock, I n.limit, .w (sl 1 cI n.votes) (g9 0 12), .al 6 (some 13) 4 n.peers.length (g9 0 13) 0]), (6, .obj b10 [I n.id, I n.term_, I n.vote, I n.role, I n.lead, .u, I ((logBehind n.log i (logTerm n.log i)).start), I ((logBehind n.log i (logTerm n.log i)).startTerm), .u, I n.commit, I n.clock, I n.limit, .u, .w (sl 4 Peer.c n.peers) (g9 0 13)])] rfl (Le.of rfl) ?_
    refine RW.pullO (k := 4) (l := 6) (j := 13) 4 6 13 rfl rfl rfl (by decide) rfl rfl rfl rfl ?_
    refine RW.le [(4, .obj b2 [I n.id, I n.term_, I n.vote, I n.role, I n.lead, .w (sl 1 cI (confAtS n i)) (g11 0 0), I ((logBehind n.log i (logTerm n.log i)).start), I ((logBehind n.log i (logTerm n.log i)).startTerm), .w (sl 3 Entry.c ((logBehind n.log i (logTerm n.log i)).entries)) (go12_7_1 0 2), I n.commit, I n.clock, I n.limit, .w (sl 1 cI n.votes) (g9 0 12), .w (sl 4 Peer.c n.peers) (g9 0 13)])] rfl (Le.of rfl) ?_
    refine RW.v rfl (V.as (d := Bo true) rfl rfl) ?_
    refine RW.nil ?_
    refine CW.le [(4, .obj b2 [I n.id, I n.term_, I n.vote, I n.role, I n.lead, .w (sl 1 cI (confAtS n i)) (g11 0 0), I ((logBehind n.log i (logTerm n.log i)).start), I ((logBehind n.log i (logTerm n.log i)).startTerm), .w (sl 3 Entry.c ((logBehind n.log i (logTerm n.log i)).entries)) (go12_7_1 0 2), I n.commit, I n.clock, I n.limit, .w (sl 1 cI n.votes) (g9 0 12), .w (sl 4 Peer.c n.peers) (g9 0 13)]), (5, Bo true)] rfl (Le.of rfl) ?_
    refine CW.ret ?_
    exact Post.tup (by decide) (RVs.c (RV.c (f := fun e => (Node.c e).map .w) (e' := (⟨n.id, n.term_, n.vote, n.role, n.lead, confAtS n i, (logBehind n.log i (logTerm n.log i)), n.commit, n.clock, n.limit, n.votes, n.peers⟩ : Node)) rfl rfl rfl rfl (DT.v (DT.v (DT.v (DT.v (DT.v (DT.w (DT.v (DT.v (DT.w (DT.v (DT.v (DT.v (DT.w (DT.w DT.e)))))))))))))) (by rw [settle_yes hn hin])) (RVs.c (RV.b rfl (by rw [settle_yes hn hin])) RVs.e)) (AOs.a rfl (AOs.r AOs.e))
end Go.Proofs.Ytbiocicogminlaa.Y
