import Derived.Test.YtbiocicogminlaaWAloneC
namespace Go.Proofs.Ytbiocicogminlaa.Y
open Go Go.RowKit Go.Eng Go.Proofs
theorem prop_v (n : Node) (kind : Int) (data : ByteArray) : (!(nodeOk n) || (n.role != 2) || !(entOk ⟨n.term_, kind, data⟩) || decide ((n.log.entries.length : Int) ≥ 60) || decide ((logLast n.log).1 ≥ 1000000)) = !(nodeOk n && n.role == 2 && entOk ⟨n.term_, kind, data⟩ && room n.log) := by
  have e1 : decide ((n.log.entries.length : Int) ≥ 60) = !decide ((n.log.entries.length : Int) < 60) := by by_cases h : (n.log.entries.length : Int) < 60 <;> simp [h] <;> omega
  have e2 : decide ((logLast n.log).1 ≥ 1000000) = !decide ((logLast n.log).1 < 1000000) := by by_cases h : (logLast n.log).1 < 1000000 <;> simp [h] <;> omega
  unfold room
  rw [e1, e2]
  cases nodeOk n <;> cases h : (n.role == 2) <;> cases entOk ⟨n.term_, kind, data⟩ <;> cases decide ((n.log.entries.length : Int) < 60) <;> cases decide ((logLast n.log).1 < 1000000) <;> simp [bne, h]
set_option maxHeartbeats 4000000 in
theorem impl_Propose_fn (n : Node) (kind : Int) (data : ByteArray) (hok : okToNode n) (hd : data.size ≤ 1048576) : Eng.Fn E.P 34 [.agg ((Node.c n).map .r), .one (.r (.v (.int .i64 kind))), .one (.r (.v (.string data)))] (.tup [.agg ((Node.c ((proposeN n kind data).1)).map .w), .one (.w (sl 12 Message.c ((proposeN n kind data).2.1))), .one (.w (.v (.int .i64 ((proposeN n kind data).2.2.1)))), .one (.w (.v (.bool ((proposeN n kind data).2.2.2))))]) [.agg ((Node.c n).map .r), .one (.r (.v (.int .i64 kind))), .one (.r (.v (.string data)))] := by
 refine Eng.Fn.intro (E := E) (rvs := [.cell 6 47, .tmp 7, .tmp 8, .tmp 9]) Try.func34 rfl rfl rfl (by simp [outSlots, moved, rvSlot, sl]) ?_
 intro B g bo
 refine CW.le [(0, .agg ((Node.c n).map .r)), (1, I kind), (2, S data)] rfl (Le.of rfl) ?_
 refine CW.seq ?_
 refine CW.region ?_
 refine RW.box (ds := ((Node.c n).map .r)) rfl rfl rfl fun b1 => ?_
 refine RW.alloc (ds := [I 0, I 0, I 0, I 0, I 0, .r (.v (.slice none 0 0)), I 0, I 0, .r (.v (.slice none 0 0)), I 0, I 0, I 0, .r (.v (.slice none 0 0)), .r (.v (.slice none 0 0))]) rfl rfl rfl rfl fun b2 => ?_
 refine RW.v rfl (V.as (d := .r (.v (.slice none 0 0))) rfl rfl) ?_
 refine RW.v rfl (V.as (d := I 0) rfl rfl) ?_
 refine RW.v rfl (V.as (d := Bo false) rfl rfl) ?_
 refine RW.nil ?_
 refine CW.le [(1, I kind), (2, S data), (3, .obj b1 ((Node.c n).map .r)), (6, .obj b2 [I 0, I 0, I 0, I 0, I 0, .r (.v (.slice none 0 0)), I 0, I 0, .r (.v (.slice none 0 0)), I 0, I 0, I 0, .r (.v (.slice none 0 0)), .r (.v (.slice none 0 0))])] rfl (Le.of rfl) ?_
 refine CW.seq ?_
 refine CW.region ?_
 refine RW.v rfl (V.field rfl rfl rfl rfl (by decide) rfl) ?_
 refine RW.v rfl (V.loadAgg rfl rfl rfl rfl rfl (Nat.le_of_ble_eq_true rfl)) ?_
 refine RW.call rfl (impl_LogLast_fn n.log (hok.2.1)) rfl (.cons (.agg (.cons (.r .r) (.cons (.r .r) (.cons (.r .r) (.nil))))) (.nil)) fun g3 => ?_
 refine RW.moveMove rfl rfl rfl (by decide) (Nat.le_of_ble_eq_true rfl) (Nat.le_of_ble_eq_true rfl) ?_
 refine RW.extract (d := I ((logLast n.log).1)) rfl rfl rfl (by decide) (Nat.le_of_ble_eq_true rfl) rfl rfl ?_
 refine RW.extract (d := I ((logLast n.log).2)) rfl rfl rfl (by decide) (Nat.le_of_ble_eq_true rfl) rfl rfl ?_
 refine RW.v rfl (V.as (d := I ((logLast n.log).1)) rfl rfl) ?_
 refine RW.v rfl (V.as (d := I ((logLast n.log).2)) rfl rfl) ?_
 refine RW.nil ?_
 refine CW.le [(1, I kind), (2, S data), (3, .obj b1 ((Node.c n).map .r)), (6, .obj b2 [I 0, I 0, I 0, I 0, I 0, .r (.v (.slice none 0 0)), I 0, I 0, .r (.v (.slice none 0 0)), I 0, I 0, I 0, .r (.v (.slice none 0 0)), .r (.v (.slice none 0 0))]), (10, I ((logLast n.log).1))] rfl (Le.of rfl) ?_
 refine CW.seq ?_
 refine CW.region ?_
 refine RW.v rfl (V.field rfl rfl rfl rfl (by decide) rfl) ?_
 refine RW.v rfl (V.loadPrim (d := I n.term_) rfl rfl (.inl rfl) rfl rfl rfl) ?_
 refine RW.v rfl (V.mv (d := I kind) rfl rfl) ?_
 refine RW.v rfl (V.mv (d := S data) rfl rfl) ?_
 refine RW.v rfl (V.build (ds := [I n.term_, I kind, S data]) rfl rfl rfl rfl (.one rfl rfl rfl (Nat.le_of_ble_eq_true rfl) (.one rfl rfl rfl (Nat.le_of_ble_eq_true rfl) (.one rfl rfl rfl (Nat.le_of_ble_eq_true rfl) (.nil))))) ?_
 refine RW.alloc (ds := [I 0, I 0, S (⟨#[]⟩)]) rfl rfl rfl rfl fun b4 => ?_
 refine RW.storeAgg (es := [I n.term_, I kind, S data]) rfl rfl rfl rfl rfl rfl rfl rfl (Nat.le_of_ble_eq_true rfl) rfl ?_
 refine RW.nil ?_
 refine CW.le [(1, I kind), (2, S data), (3, .obj b1 ((Node.c n).map .r)), (6, .obj b2 [I 0, I 0, I 0, I 0, I 0, .r (.v (.slice none 0 0)), I 0, I 0, .r (.v (.slice none 0 0)), I 0, I 0, I 0, .r (.v (.slice none 0 0)), .r (.v (.slice none 0 0))]), (10, I ((logLast n.log).1)), (12, .obj b4 [I n.term_, I kind, S data])] rfl (Le.of rfl) ?_
 refine CW.seq ?_
 refine CW.seqJ 115 (fun (v5 : Bool) => [(1, I kind), (2, S data), (3, .obj b1 ((Node.c n).map .r)), (6, .obj b2 [I 0, I 0, I 0, I 0, I 0, .r (.v (.slice none 0 0)), I 0, I 0, .r (.v (.slice none 0 0)), I 0, I 0, I 0, .r (.v (.slice none 0 0)), .r (.v (.slice none 0 0))]), (10, I ((logLast n.log).1)), (12, .obj b4 [I n.term_, I kind, S data]), (52, Bo v5)]) (fun v5 => v5 = (((((!(nodeOk n)) || (n.role != 2)) || (!(entOk (⟨n.term_, kind, data⟩ : Entry)))) || decide ((n.log.entries.length : Int) ≥ 60)) || decide (((logLast n.log).1) ≥ 1000000))) ?_ ?_
 ·refine CW.region ?_
  refine RW.v rfl (V.loadAgg rfl rfl rfl rfl rfl (Nat.le_of_ble_eq_true rfl)) ?_
  refine RW.call rfl (impl_NodeOk_fn n hok) rfl (.cons (.agg (.cons (.r .r) (.cons (.r .r) (.cons (.r .r) (.cons (.r .r) (.cons (.r .r) (.cons (.r .r) (.cons (.r .r) (.cons (.r .r) (.cons (.r .r) (.cons (.r .r) (.cons (.r .r) (.cons (.r .r) (.cons (.r .r) (.cons (.r .r) (.nil)))))))))))))))) (.nil)) fun g6 => ?_
  refine RW.v rfl (V.not rfl rfl) ?_
  refine RW.v rfl (V.mv (d := Bo (!(nodeOk n))) rfl rfl) ?_
  refine RW.gv rfl rfl rfl rfl (fun h7 => V.field rfl rfl rfl rfl (by decide) rfl) (fun h7 => ?_) (fun h7 => ?_)
  ·skip
   refine RW.gt rfl rfl rfl rfl (V.loadPrim (d := I n.role) rfl rfl (.inl rfl) rfl rfl rfl) ?_
   refine RW.gt rfl rfl rfl rfl (V.cmpInt rfl rfl rfl rfl) ?_
   refine RW.v rfl (V.pickF (d := Bo (n.role != 2)) rfl rfl rfl) ?_
   refine RW.v rfl (V.mv (d := Bo (n.role != 2)) rfl rfl) ?_
   refine RW.gv rfl rfl rfl rfl (fun h8 => V.loadAgg rfl rfl rfl rfl rfl (Nat.le_of_ble_eq_true rfl)) (fun h8 => ?_) (fun h8 => ?_)
   ·skip
    refine RW.gcall rfl rfl rfl rfl (impl_EntryOk_fn (⟨n.term_, kind, data⟩ : Entry) hd) rfl (.cons (.agg (.cons (.r .r) (.cons (.r .r) (.cons (.r .r) (.nil))))) (.nil)) fun g9 => ?_
    refine RW.gt rfl rfl rfl rfl (V.not rfl rfl) ?_
    refine RW.v rfl (V.pickF (d := Bo (!(entOk (⟨n.term_, kind, data⟩ : Entry)))) rfl rfl rfl) ?_
    refine RW.v rfl (V.mv (d := Bo (!(entOk (⟨n.term_, kind, data⟩ : Entry)))) rfl rfl) ?_
    refine RW.gv rfl rfl rfl rfl (fun h10 => V.field rfl rfl rfl rfl (by decide) rfl) (fun h10 => ?_) (fun h10 => ?_)
    ·skip
     refine RW.gt rfl rfl rfl rfl (V.field rfl rfl rfl rfl (by decide) rfl) ?_
     refine RW.gt rfl rfl rfl rfl (V.loadPrim (d := .r (sl 3 Entry.c n.log.entries)) rfl rfl (.inr ⟨_, rfl⟩) rfl rfl rfl) ?_
     refine RW.gt rfl rfl rfl rfl (V.lenT (n := n.log.entries.length) rfl rfl rfl .r) ?_
     refine RW.gt rfl rfl rfl rfl (V.cmpInt rfl rfl rfl rfl) ?_
     refine RW.v rfl (V.pickF (d := Bo (decide ((n.log.entries.length : Int) ≥ 60))) rfl rfl rfl) ?_
     refine RW.v rfl (V.mv (d := Bo (decide ((n.log.entries.length : Int) ≥ 60))) rfl rfl) ?_
     refine RW.gv rfl rfl rfl rfl (fun h11 => V.mv (d := I ((logLast n.log).1)) rfl rfl) (fun h11 => ?_) (fun h11 => ?_)
     ·skip
      refine RW.gt rfl rfl rfl rfl (V.cmpInt rfl rfl rfl rfl) ?_
      refine RW.v rfl (V.pickF (d := Bo (decide (((logLast n.log).1) ≥ 1000000))) rfl rfl rfl) ?_
      refine RW.nil ?_
      exact ⟨_, by first | rfl | (simp_all; done) | (simp_all; omega) | grind, rfl, Le.c rfl <| Le.c rfl <| Le.c rfl <| Le.c rfl <| Le.c rfl <| Le.c rfl <| Le.c rfl <| Le.e⟩
     ·skip
      refine RW.guardF rfl rfl rfl rfl ?_
      refine RW.v rfl (V.pickT (d := Bo true) rfl rfl rfl) ?_
      refine RW.nil ?_
      exact ⟨_, by first | rfl | (simp_all; done) | (simp_all; omega) | grind, rfl, Le.c rfl <| Le.c rfl <| Le.c rfl <| Le.c rfl <| Le.c rfl <| Le.c rfl <| Le.c rfl <| Le.e⟩
    ·skip
     refine RW.guardF rfl rfl rfl rfl ?_
     refine RW.guardF rfl rfl rfl rfl ?_
     refine RW.guardF rfl rfl rfl rfl ?_
     refine RW.guardF rfl rfl rfl rfl ?_
     refine RW.v rfl (V.pickT (d := Bo true) rfl rfl rfl) ?_
     refine RW.v rfl (V.mv (d := Bo true) rfl rfl) ?_
     refine RW.guardF rfl rfl rfl rfl ?_
     refine RW.guardF rfl rfl rfl rfl ?_
     refine RW.v rfl (V.pickT (d := Bo true) rfl rfl rfl) ?_
     refine RW.nil ?_
     exact ⟨_, by first | rfl | (simp_all; done) | (simp_all; omega) | grind, rfl, Le.c rfl <| Le.c rfl <| Le.c rfl <| Le.c rfl <| Le.c rfl <| Le.c rfl <| Le.c rfl <| Le.e⟩
   ·skip
    refine RW.guardF rfl rfl rfl rfl ?_
    refine RW.guardF rfl rfl rfl rfl ?_
    refine RW.v rfl (V.pickT (d := Bo true) rfl rfl rfl) ?_
    refine RW.v rfl (V.mv (d := Bo true) rfl rfl) ?_
    refine RW.guardF rfl rfl rfl rfl ?_
    refine RW.guardF rfl rfl rfl rfl ?_
    refine RW.guardF rfl rfl rfl rfl ?_
    refine RW.guardF rfl rfl rfl rfl ?_
    refine RW.guardF rfl rfl rfl rfl ?_
    refine RW.v rfl (V.pickT (d := Bo true) rfl rfl rfl) ?_
    refine RW.v rfl (V.mv (d := Bo true) rfl rfl) ?_
    refine RW.guardF rfl rfl rfl rfl ?_
    refine RW.guardF rfl rfl rfl rfl ?_
    refine RW.v rfl (V.pickT (d := Bo true) rfl rfl rfl) ?_
    refine RW.nil ?_
    exact ⟨_, by first | rfl | (simp_all; done) | (simp_all; omega) | grind, rfl, Le.c rfl <| Le.c rfl <| Le.c rfl <| Le.c rfl <| Le.c rfl <| Le.c rfl <| Le.c rfl <| Le.e⟩
  ·skip
   refine RW.guardF rfl rfl rfl rfl ?_
   refine RW.guardF rfl rfl rfl rfl ?_
   refine RW.v rfl (V.pickT (d := Bo true) rfl rfl rfl) ?_
   refine RW.v rfl (V.mv (d := Bo true) rfl rfl) ?_
   refine RW.guardF rfl rfl rfl rfl ?_
   refine RW.guardF rfl rfl rfl rfl ?_
   refine RW.guardF rfl rfl rfl rfl ?_
   refine RW.v rfl (V.pickT (d := Bo true) rfl rfl rfl) ?_
   refine RW.v rfl (V.mv (d := Bo true) rfl rfl) ?_
   refine RW.guardF rfl rfl rfl rfl ?_
   refine RW.guardF rfl rfl rfl rfl ?_
   refine RW.guardF rfl rfl rfl rfl ?_
   refine RW.guardF rfl rfl rfl rfl ?_
   refine RW.guardF rfl rfl rfl rfl ?_
   refine RW.v rfl (V.pickT (d := Bo true) rfl rfl rfl) ?_
   refine RW.v rfl (V.mv (d := Bo true) rfl rfl) ?_
   refine RW.guardF rfl rfl rfl rfl ?_
   refine RW.guardF rfl rfl rfl rfl ?_
   refine RW.v rfl (V.pickT (d := Bo true) rfl rfl rfl) ?_
   refine RW.nil ?_
   exact ⟨_, by first | rfl | (simp_all; done) | (simp_all; omega) | grind, rfl, Le.c rfl <| Le.c rfl <| Le.c rfl <| Le.c rfl <| Le.c rfl <| Le.c rfl <| Le.c rfl <| Le.e⟩
 ·intro v5 hv12
  refine CW.cond rfl (fun h13 => ?_) (fun h13 => ?_)
  ·skip
   have hbad : (nodeOk n && n.role == 2 && entOk ⟨n.term_, kind, data⟩ && room n.log) = false := by have h9 := (prop_v n kind data).symm.trans (hv12.symm.trans h13); rwa [Bool.not_eq_true'] at h9
   refine CW.seq ?_
   refine CW.region ?_
   refine RW.v rfl (V.build (ds := [I 0, I 0, I 0, I 0, I 0, .r (.v (.slice none 0 0)), I 0, I 0, .r (.v (.slice none 0 0)), I 0, I 0, I 0, .r (.v (.slice none 0 0)), .r (.v (.slice none 0 0))]) rfl rfl rfl rfl (.nil)) ?_
   refine RW.storeAgg (es := [I 0, I 0, I 0, I 0, I 0, .r (.v (.slice none 0 0)), I 0, I 0, .r (.v (.slice none 0 0)), I 0, I 0, I 0, .r (.v (.slice none 0 0)), .r (.v (.slice none 0 0))]) rfl rfl rfl rfl rfl rfl rfl rfl (Nat.le_of_ble_eq_true rfl) rfl ?_
   refine RW.v rfl (V.as (d := .r (.v (.slice none 0 0))) rfl rfl) ?_
   refine RW.v rfl (V.as (d := I 0) rfl rfl) ?_
   refine RW.v rfl (V.as (d := Bo false) rfl rfl) ?_
   refine RW.nil ?_
   refine CW.le [(6, .obj b2 [I 0, I 0, I 0, I 0, I 0, .r (.v (.slice none 0 0)), I 0, I 0, .r (.v (.slice none 0 0)), I 0, I 0, I 0, .r (.v (.slice none 0 0)), .r (.v (.slice none 0 0))]), (7, .r (.v (.slice none 0 0))), (8, I 0), (9, Bo false)] rfl (Le.of rfl) ?_
   refine CW.ret ?_
   exact Post.tup (by decide) (RVs.c (RV.c (f := fun e => (Node.c e).map .w) (e' := (⟨0, 0, 0, 0, 0, [], (⟨0, 0, []⟩ : Log), 0, 0, 0, [], []⟩ : Node)) rfl rfl rfl rfl (DT.v (DT.v (DT.v (DT.v (DT.v (DT.n (DT.v (DT.v (DT.n (DT.v (DT.v (DT.v (DT.n (DT.n DT.e)))))))))))))) (by first | (rw [prop_bad hbad]; done) | (rw [prop_bad hbad]; rfl))) (RVs.c (RV.n rfl (by first | (rw [prop_bad hbad]; done) | (rw [prop_bad hbad]; rfl))) (RVs.c (RV.i rfl (by first | (rw [prop_bad hbad]; done) | (rw [prop_bad hbad]; rfl))) (RVs.c (RV.b rfl (by first | (rw [prop_bad hbad]; done) | (rw [prop_bad hbad]; rfl))) RVs.e)))) (AOs.a rfl (AOs.r (AOs.r AOs.e)))
  ·skip
   have hgd : (nodeOk n && n.role == 2 && entOk ⟨n.term_, kind, data⟩ && room n.log) = true := by have h9 := (prop_v n kind data).symm.trans (hv12.symm.trans h13); simpa using h9
   have hgd2 := hgd
   simp only [Bool.and_eq_true] at hgd2
   have hn := hgd2.1.1.1
   have hr2 : n.role = 2 := by simpa using hgd2.1.1.2
   have hl : logB n.log := logOk_hs (nodeOk_in hn).1
   have htm : 0 ≤ n.term_ := by have h9 := (nodeOk_in hn).2.1; unfold inR at h9; simp at h9; omega
   have hr60 : n.log.entries.length < 60 := by have h9 := hgd2.2; unfold room at h9; simp at h9; omega
   have hcm : n.commit ≤ 9223372036854775807 := by have h9 := (nodeOk_facts hn).2.2.1; rw [logLast_1 hl] at h9; unfold inR at h9; simp at h9; have h8 := hl.2.1; omega
   have hps := nodeOk_peers hn hl hr2
   have hOut : okToNode (outP n kind data) := outP_ok hok hr60 hd
   refine CW.skip ?_
   refine CW.le [(1, I kind), (2, S data), (3, .obj b1 ((Node.c n).map .r)), (6, .obj b2 [I 0, I 0, I 0, I 0, I 0, .r (.v (.slice none 0 0)), I 0, I 0, .r (.v (.slice none 0 0)), I 0, I 0, I 0, .r (.v (.slice none 0 0)), .r (.v (.slice none 0 0))]), (10, I ((logLast n.log).1)), (12, .obj b4 [I n.term_, I kind, S data])] rfl (Le.of rfl) ?_
   refine CW.seq ?_
   refine CW.seqJ 115 (fun (v14 : Bool) => [(1, I kind), (3, .obj b1 ((Node.c n).map .r)), (6, .obj b2 [I 0, I 0, I 0, I 0, I 0, .r (.v (.slice none 0 0)), I 0, I 0, .r (.v (.slice none 0 0)), I 0, I 0, I 0, .r (.v (.slice none 0 0)), .r (.v (.slice none 0 0))]), (10, I ((logLast n.log).1)), (12, .obj b4 [I n.term_, I kind, S data]), (61, Bo v14)]) (fun v14 => v14 = ((kind == 2) && (!(mayTurn n data)))) ?_ ?_
   ·refine CW.region ?_
    refine RW.v rfl (V.mv (d := I kind) rfl rfl) ?_
    refine RW.v rfl (V.cmpInt rfl rfl rfl rfl) ?_
    refine RW.v rfl (V.mv (d := Bo (kind == 2)) rfl rfl) ?_
    refine RW.gv rfl rfl rfl rfl (fun h15 => V.loadAgg rfl rfl rfl rfl rfl (Nat.le_of_ble_eq_true rfl)) (fun h15 => ?_) (fun h15 => ?_)
    ·skip
     refine RW.gt rfl rfl rfl rfl (V.mv (d := S data) rfl rfl) ?_
     refine RW.gcall rfl rfl rfl rfl (impl_mayTurn_fn n data hok hl hcm hd) rfl (.cons (.agg (.cons (.r .r) (.cons (.r .r) (.cons (.r .r) (.cons (.r .r) (.cons (.r .r) (.cons (.r .r) (.cons (.r .r) (.cons (.r .r) (.cons (.r .r) (.cons (.r .r) (.cons (.r .r) (.cons (.r .r) (.cons (.r .r) (.cons (.r .r) (.nil)))))))))))))))) (.cons (.one (.r .r)) (.nil))) fun g16 => ?_
     refine RW.gt rfl rfl rfl rfl (V.not rfl rfl) ?_
     refine RW.v rfl (V.pickT (d := Bo (!(mayTurn n data))) rfl rfl rfl) ?_
     refine RW.nil ?_
     exact ⟨_, by first | rfl | (simp_all; done) | (simp_all; omega) | grind, rfl, Le.c rfl <| Le.c rfl <| Le.c rfl <| Le.c rfl <| Le.c rfl <| Le.c rfl <| Le.e⟩
    ·skip
     refine RW.guardF rfl rfl rfl rfl ?_
     refine RW.guardF rfl rfl rfl rfl ?_
     refine RW.guardF rfl rfl rfl rfl ?_
     refine RW.v rfl (V.pickF (d := Bo false) rfl rfl rfl) ?_
     refine RW.nil ?_
     exact ⟨_, by first | rfl | (simp_all; done) | (simp_all; omega) | grind, rfl, Le.c rfl <| Le.c rfl <| Le.c rfl <| Le.c rfl <| Le.c rfl <| Le.c rfl <| Le.e⟩
   ·intro v14 hv17
    refine CW.cond rfl (fun h18 => ?_) (fun h18 => ?_)
    ·skip
     have hno : (kind == 2 && !mayTurn n data) = true := hv17.symm.trans h18
     refine CW.seq ?_
     refine CW.region ?_
     refine RW.v rfl (V.build (ds := [I 0, I 0, I 0, I 0, I 0, .r (.v (.slice none 0 0)), I 0, I 0, .r (.v (.slice none 0 0)), I 0, I 0, I 0, .r (.v (.slice none 0 0)), .r (.v (.slice none 0 0))]) rfl rfl rfl rfl (.nil)) ?_
     refine RW.storeAgg (es := [I 0, I 0, I 0, I 0, I 0, .r (.v (.slice none 0 0)), I 0, I 0, .r (.v (.slice none 0 0)), I 0, I 0, I 0, .r (.v (.slice none 0 0)), .r (.v (.slice none 0 0))]) rfl rfl rfl rfl rfl rfl rfl rfl (Nat.le_of_ble_eq_true rfl) rfl ?_
     refine RW.v rfl (V.as (d := .r (.v (.slice none 0 0))) rfl rfl) ?_
     refine RW.v rfl (V.as (d := I 0) rfl rfl) ?_
     refine RW.v rfl (V.as (d := Bo false) rfl rfl) ?_
     refine RW.nil ?_
     refine CW.le [(6, .obj b2 [I 0, I 0, I 0, I 0, I 0, .r (.v (.slice none 0 0)), I 0, I 0, .r (.v (.slice none 0 0)), I 0, I 0, I 0, .r (.v (.slice none 0 0)), .r (.v (.slice none 0 0))]), (7, .r (.v (.slice none 0 0))), (8, I 0), (9, Bo false)] rfl (Le.of rfl) ?_
     refine CW.ret ?_
     exact Post.tup (by decide) (RVs.c (RV.c (f := fun e => (Node.c e).map .w) (e' := (⟨0, 0, 0, 0, 0, [], (⟨0, 0, []⟩ : Log), 0, 0, 0, [], []⟩ : Node)) rfl rfl rfl rfl (DT.v (DT.v (DT.v (DT.v (DT.v (DT.n (DT.v (DT.v (DT.n (DT.v (DT.v (DT.v (DT.n (DT.n DT.e)))))))))))))) (by first | (rw [prop_no hgd hno]; done) | (rw [prop_no hgd hno]; rfl))) (RVs.c (RV.n rfl (by first | (rw [prop_no hgd hno]; done) | (rw [prop_no hgd hno]; rfl))) (RVs.c (RV.i rfl (by first | (rw [prop_no hgd hno]; done) | (rw [prop_no hgd hno]; rfl))) (RVs.c (RV.b rfl (by first | (rw [prop_no hgd hno]; done) | (rw [prop_no hgd hno]; rfl))) RVs.e)))) (AOs.a rfl (AOs.r (AOs.r AOs.e)))
    ·skip
     have hyes : (kind == 2 && !mayTurn n data) = false := hv17.symm.trans h18
     refine CW.skip ?_
     refine CW.le [(1, I kind), (3, .obj b1 ((Node.c n).map .r)), (6, .obj b2 [I 0, I 0, I 0, I 0, I 0, .r (.v (.slice none 0 0)), I 0, I 0, .r (.v (.slice none 0 0)), I 0, I 0, I 0, .r (.v (.slice none 0 0)), .r (.v (.slice none 0 0))]), (10, I ((logLast n.log).1)), (12, .obj b4 [I n.term_, I kind, S data])] rfl (Le.of rfl) ?_
     refine CW.seq ?_
     refine CW.region ?_
     refine RW.v rfl (V.loadAgg rfl rfl rfl rfl rfl (Nat.le_of_ble_eq_true rfl)) ?_
     refine RW.call rfl (impl_copyNode_fn n hok) rfl (.cons (.agg (.cons (.r .r) (.cons (.r .r) (.cons (.r .r) (.cons (.r .r) (.cons (.r .r) (.cons (.r .r) (.cons (.r .r) (.cons (.r .r) (.cons (.r .r) (.cons (.r .r) (.cons (.r .r) (.cons (.r .r) (.cons (.r .r) (.cons (.r .r) (.nil)))))))))))))))) (.nil)) fun g19 => ?_
     refine RW.alloc (ds := [I 0, I 0, I 0, I 0, I 0, .r (.v (.slice none 0 0)), I 0, I 0, .r (.v (.slice none 0 0)), I 0, I 0, I 0, .r (.v (.slice none 0 0)), .r (.v (.slice none 0 0))]) rfl rfl rfl rfl fun b20 => ?_
     refine RW.storeAgg (es := [I n.id, I n.term_, I n.vote, I n.role, I n.lead, .al 64 (some 5) 1 n.conf.length (g19 0 5) 0, I n.log.start, I n.log.startTerm, .al 64 (some 8) 3 n.log.entries.length (g19 0 8) 0, I n.commit, I n.clock, I n.limit, .al 64 (some 12) 1 n.votes.length (g19 0 12) 0, .al 64 (some 13) 4 n.peers.length (g19 0 13) 0]) rfl rfl rfl rfl rfl rfl rfl rfl (Nat.le_of_ble_eq_true rfl) rfl ?_
     refine RW.le [(1, I kind), (3, .obj b1 ((Node.c n).map .r)), (6, .obj b2 [I 0, I 0, I 0, I 0, I 0, .r (.v (.slice none 0 0)), I 0, I 0, .r (.v (.slice none 0 0)), I 0, I 0, I 0, .r (.v (.slice none 0 0)), .r (.v (.slice none 0 0))]), (10, I ((logLast n.log).1)), (12, .obj b4 [I n.term_, I kind, S data]), (13, .obj b20 [I n.id, I n.term_, I n.vote, I n.role, I n.lead, .al 64 (some 5) 1 n.conf.length (g19 0 5) 0, I n.log.start, I n.log.startTerm, .al 64 (some 8) 3 n.log.entries.length (g19 0 8) 0, I n.commit, I n.clock, I n.limit, .al 64 (some 12) 1 n.votes.length (g19 0 12) 0, .al 64 (some 13) 4 n.peers.length (g19 0 13) 0]), (64, .agg [I n.id, I n.term_, I n.vote, I n.role, I n.lead, .w (sl 1 cI n.conf) (g19 0 5), I n.log.start, I n.log.startTerm, .w (sl 3 Entry.c n.log.entries) (g19 0 8), I n.commit, I n.clock, I n.limit, .w (sl 1 cI n.votes) (g19 0 12), .w (sl 4 Peer.c n.peers) (g19 0 13)])] rfl (Le.of rfl) ?_
     refine RW.pullA (k := 13) (l := 64) (j := 5) 13 64 5 rfl rfl rfl (by decide) rfl rfl rfl rfl ?_
     refine RW.le [(1, I kind), (3, .obj b1 ((Node.c n).map .r)), (6, .obj b2 [I 0, I 0, I 0, I 0, I 0, .r (.v (.slice none 0 0)), I 0, I 0, .r (.v (.slice none 0 0)), I 0, I 0, I 0, .r (.v (.slice none 0 0)), .r (.v (.slice none 0 0))]), (10, I ((logLast n.log).1)), (12, .obj b4 [I n.term_, I kind, S data]), (13, .obj b20 [I n.id, I n.term_, I n.vote, I n.role, I n.lead, .w (sl 1 cI n.conf) (g19 0 5), I n.log.start, I n.log.startTerm, .al 64 (some 8) 3 n.log.entries.length (g19 0 8) 0, I n.commit, I n.clock, I n.limit, .al 64 (some 12) 1 n.votes.length (g19 0 12) 0, .al 64 (some 13) 4 n.peers.length (g19 0 13) 0]), (64, .agg [I n.id, I n.term_, I n.vote, I n.role, I n.lead, .u, I n.log.start, I n.log.startTerm, .w (sl 3 Entry.c n.log.entries) (g19 0 8), I n.commit, I n.clock, I n.limit, .w (sl 1 cI n.votes) (g19 0 12), .w (sl 4 Peer.c n.peers) (g19 0 13)])] rfl (Le.of rfl) ?_
     refine RW.pullA (k := 13) (l := 64) (j := 8) 13 64 8 rfl rfl rfl (by decide) rfl rfl rfl rfl ?_
     refine RW.le [(1, I kind), (3, .obj b1 ((Node.c n).map .r)), (6, .obj b2 [I 0, I 0, I 0, I 0, I 0, .r (.v (.slice none 0 0)), I 0, I 0, .r (.v (.slice none 0 0)), I 0, I 0, I 0, .r (.v (.slice none 0 0)), .r (.v (.slice none 0 0))]), (10, I ((logLast n.log).1)), (12, .obj b4 [I n.term_, I kind, S data]), (13, .obj b20 [I n.id, I n.term_, I n.vote, I n.role, I n.lead, .w (sl 1 cI n.conf) (g19 0 5), I n.log.start, I n.log.startTerm, .w (sl 3 Entry.c n.log.entries) (g19 0 8), I n.commit, I n.clock, I n.limit, .al 64 (some 12) 1 n.votes.length (g19 0 12) 0, .al 64 (some 13) 4 n.peers.length (g19 0 13) 0]), (64, .agg [I n.id, I n.term_, I n.vote, I n.role, I n.lead, .u, I n.log.start, I n.log.startTerm, .u, I n.commit, I n.clock, I n.limit, .w (sl 1 cI n.votes) (g19 0 12), .w (sl 4 Peer.c n.peers) (g19 0 13)])] rfl (Le.of rfl) ?_
     refine RW.pullA (k := 13) (l := 64) (j := 12) 13 64 12 rfl rfl rfl (by decide) rfl rfl rfl rfl ?_
     refine RW.le [(1, I kind), (3, .obj b1 ((Node.c n).map .r)), (6, .obj b2 [I 0, I 0, I 0, I 0, I 0, .r (.v (.slice none 0 0)), I 0, I 0, .r (.v (.slice none 0 0)), I 0, I 0, I 0, .r (.v (.slice none 0 0)), .r (.v (.slice none 0 0))]), (10, I ((logLast n.log).1)), (12, .obj b4 [I n.term_, I kind, S data]), (13, .obj b20 [I n.id, I n.term_, I n.vote, I n.role, I n.lead, .w (sl 1 cI n.conf) (g19 0 5), I n.log.start, I n.log.startTerm, .w (sl 3 Entry.c n.log.entries) (g19 0 8), I n.commit, I n.clock, I n.limit, .w (sl 1 cI n.votes) (g19 0 12), .al 64 (some 13) 4 n.peers.length (g19 0 13) 0]), (64, .agg [I n.id, I n.term_, I n.vote, I n.role, I n.lead, .u, I n.log.start, I n.log.startTerm, .u, I n.commit, I n.clock, I n.limit, .u, .w (sl 4 Peer.c n.peers) (g19 0 13)])] rfl (Le.of rfl) ?_
     refine RW.pullA (k := 13) (l := 64) (j := 13) 13 64 13 rfl rfl rfl (by decide) rfl rfl rfl rfl ?_
     refine RW.le [(1, I kind), (3, .obj b1 ((Node.c n).map .r)), (6, .obj b2 [I 0, I 0, I 0, I 0, I 0, .r (.v (.slice none 0 0)), I 0, I 0, .r (.v (.slice none 0 0)), I 0, I 0, I 0, .r (.v (.slice none 0 0)), .r (.v (.slice none 0 0))]), (10, I ((logLast n.log).1)), (12, .obj b4 [I n.term_, I kind, S data]), (13, .obj b20 [I n.id, I n.term_, I n.vote, I n.role, I n.lead, .w (sl 1 cI n.conf) (g19 0 5), I n.log.start, I n.log.startTerm, .w (sl 3 Entry.c n.log.entries) (g19 0 8), I n.commit, I n.clock, I n.limit, .w (sl 1 cI n.votes) (g19 0 12), .w (sl 4 Peer.c n.peers) (g19 0 13)])] rfl (Le.of rfl) ?_
     refine RW.nil ?_
     refine CW.le [(1, I kind), (3, .obj b1 ((Node.c n).map .r)), (6, .obj b2 [I 0, I 0, I 0, I 0, I 0, .r (.v (.slice none 0 0)), I 0, I 0, .r (.v (.slice none 0 0)), I 0, I 0, I 0, .r (.v (.slice none 0 0)), .r (.v (.slice none 0 0))]), (10, I ((logLast n.log).1)), (12, .obj b4 [I n.term_, I kind, S data]), (13, .obj b20 [I n.id, I n.term_, I n.vote, I n.role, I n.lead, .w (sl 1 cI n.conf) (g19 0 5), I n.log.start, I n.log.startTerm, .w (sl 3 Entry.c n.log.entries) (g19 0 8), I n.commit, I n.clock, I n.limit, .w (sl 1 cI n.votes) (g19 0 12), .w (sl 4 Peer.c n.peers) (g19 0 13)])] rfl (Le.of rfl) ?_
     refine CW.seq ?_
     refine CW.region ?_
     refine RW.v rfl (V.field rfl rfl rfl rfl (by decide) rfl) ?_
     refine RW.v rfl (V.field rfl rfl rfl rfl (by decide) rfl) ?_
     refine RW.v rfl (V.loadPrim (d := .al 13 (some 8) 3 n.log.entries.length (g19 0 8) 0) rfl rfl (.inr ⟨_, rfl⟩) rfl rfl rfl) ?_
     refine RW.v rfl (V.loadAgg rfl rfl rfl rfl rfl (Nat.le_of_ble_eq_true rfl)) ?_
     refine RW.build1 (c := Entry.c) (v := (⟨n.term_, kind, data⟩ : Entry)) rfl rfl rfl rfl rfl rfl (DW.v (DW.v (DW.v DW.e))) Entry.len (by decide) (by decide) fun X21 => ?_
     refine RW.takeO 67 13 8 (by decide) rfl rfl rfl ?_
     refine RW.appendSR (c := Entry.c) (l1 := n.log.entries) (l2 := [(⟨n.term_, kind, data⟩ : Entry)]) rfl rfl rfl rfl rfl rfl rfl rfl (.al (k := none) (i := 69) (sz := 3) (V := X21) rfl rfl nofun) (by decide) (Nat.le_of_ble_eq_true rfl) Entry.len (fun _ => rfl) rfl (by first | (simp only [maxLen, List.length_singleton]; omega) | (simp only [maxLen, List.length_append, List.length_map, List.length_take, List.length_singleton]; omega)) (by first | (simp only [maxLen, List.length_singleton]; omega) | (simp only [maxLen, List.length_append, List.length_map, List.length_take, List.length_singleton]; omega)) fun X22 => ?_
     refine RW.v rfl (V.field rfl rfl rfl rfl (by decide) rfl) ?_
     refine RW.v rfl (V.field rfl rfl rfl rfl (by decide) rfl) ?_
     refine RW.store (d := .al 70 none 3 ((n.log.entries ++ ([(⟨n.term_, kind, data⟩ : Entry)])).length) X22 0) rfl rfl rfl rfl rfl rfl rfl (Nat.le_of_ble_eq_true rfl) rfl rfl ?_
     refine RW.le [(1, I kind), (3, .obj b1 ((Node.c n).map .r)), (6, .obj b2 [I 0, I 0, I 0, I 0, I 0, .r (.v (.slice none 0 0)), I 0, I 0, .r (.v (.slice none 0 0)), I 0, I 0, I 0, .r (.v (.slice none 0 0)), .r (.v (.slice none 0 0))]), (10, I ((logLast n.log).1)), (13, .obj b20 [I n.id, I n.term_, I n.vote, I n.role, I n.lead, .w (sl 1 cI n.conf) (g19 0 5), I n.log.start, I n.log.startTerm, .al 70 none 3 ((n.log.entries ++ ([(⟨n.term_, kind, data⟩ : Entry)])).length) X22 0, I n.commit, I n.clock, I n.limit, .w (sl 1 cI n.votes) (g19 0 12), .w (sl 4 Peer.c n.peers) (g19 0 13)]), (70, .w (sl 3 Entry.c (n.log.entries ++ ([(⟨n.term_, kind, data⟩ : Entry)]))) X22)] rfl (Le.of rfl) ?_
     refine RW.pullT (k := 13) (l := 70) (j := 8) 13 70 8 rfl rfl rfl (by decide) rfl rfl rfl ?_
     refine RW.le [(1, I kind), (3, .obj b1 ((Node.c n).map .r)), (6, .obj b2 [I 0, I 0, I 0, I 0, I 0, .r (.v (.slice none 0 0)), I 0, I 0, .r (.v (.slice none 0 0)), I 0, I 0, I 0, .r (.v (.slice none 0 0)), .r (.v (.slice none 0 0))]), (10, I ((logLast n.log).1)), (13, .obj b20 [I n.id, I n.term_, I n.vote, I n.role, I n.lead, .w (sl 1 cI n.conf) (g19 0 5), I n.log.start, I n.log.startTerm, .w (sl 3 Entry.c (n.log.entries ++ ([(⟨n.term_, kind, data⟩ : Entry)]))) X22, I n.commit, I n.clock, I n.limit, .w (sl 1 cI n.votes) (g19 0 12), .w (sl 4 Peer.c n.peers) (g19 0 13)])] rfl (Le.of rfl) ?_
     refine RW.nil ?_
     refine CW.le [(1, I kind), (3, .obj b1 ((Node.c n).map .r)), (6, .obj b2 [I 0, I 0, I 0, I 0, I 0, .r (.v (.slice none 0 0)), I 0, I 0, .r (.v (.slice none 0 0)), I 0, I 0, I 0, .r (.v (.slice none 0 0)), .r (.v (.slice none 0 0))]), (10, I ((logLast n.log).1)), (13, .obj b20 [I n.id, I n.term_, I n.vote, I n.role, I n.lead, .w (sl 1 cI n.conf) (g19 0 5), I n.log.start, I n.log.startTerm, .w (sl 3 Entry.c (n.log.entries ++ ([(⟨n.term_, kind, data⟩ : Entry)]))) X22, I n.commit, I n.clock, I n.limit, .w (sl 1 cI n.votes) (g19 0 12), .w (sl 4 Peer.c n.peers) (g19 0 13)])] rfl (Le.of rfl) ?_
     refine CW.seq ?_
     refine CW.seq ?_
     refine CW.region ?_
     refine RW.v rfl (V.mv (d := I kind) rfl rfl) ?_
     refine RW.v rfl (V.cmpInt rfl rfl rfl rfl) ?_
     refine RW.nil ?_
     refine CW.le [(3, .obj b1 ((Node.c n).map .r)), (6, .obj b2 [I 0, I 0, I 0, I 0, I 0, .r (.v (.slice none 0 0)), I 0, I 0, .r (.v (.slice none 0 0)), I 0, I 0, I 0, .r (.v (.slice none 0 0)), .r (.v (.slice none 0 0))]), (10, I ((logLast n.log).1)), (13, .obj b20 [I n.id, I n.term_, I n.vote, I n.role, I n.lead, .w (sl 1 cI n.conf) (g19 0 5), I n.log.start, I n.log.startTerm, .w (sl 3 Entry.c (n.log.entries ++ ([(⟨n.term_, kind, data⟩ : Entry)]))) X22, I n.commit, I n.clock, I n.limit, .w (sl 1 cI n.votes) (g19 0 12), .w (sl 4 Peer.c n.peers) (g19 0 13)]), (74, Bo (kind == 2))] rfl (Le.of rfl) ?_
     refine CW.cond rfl (fun h23 => ?_) (fun h23 => ?_)
     ·skip
      refine CW.seq ?_
      refine CW.region ?_
      refine RW.build0 Peer.c rfl rfl rfl rfl rfl fun X24 => ?_
      refine RW.assignMove rfl rfl rfl (by decide) (Nat.le_of_ble_eq_true rfl) (Nat.le_of_ble_eq_true rfl) ?_
      refine RW.nil ?_
      refine CW.le [(3, .obj b1 ((Node.c n).map .r)), (6, .obj b2 [I 0, I 0, I 0, I 0, I 0, .r (.v (.slice none 0 0)), I 0, I 0, .r (.v (.slice none 0 0)), I 0, I 0, I 0, .r (.v (.slice none 0 0)), .r (.v (.slice none 0 0))]), (10, I ((logLast n.log).1)), (13, .obj b20 [I n.id, I n.term_, I n.vote, I n.role, I n.lead, .w (sl 1 cI n.conf) (g19 0 5), I n.log.start, I n.log.startTerm, .w (sl 3 Entry.c (n.log.entries ++ ([(⟨n.term_, kind, data⟩ : Entry)]))) X22, I n.commit, I n.clock, I n.limit, .w (sl 1 cI n.votes) (g19 0 12), .w (sl 4 Peer.c n.peers) (g19 0 13)]), (14, .w (sl 4 Peer.c ([] : List Peer)) X24)] rfl (Le.of rfl) ?_
      refine CW.seq ?_
      refine CW.anyJ (fc := [(6, b2, [.int .i64 0, .int .i64 0, .int .i64 0, .int .i64 0, .int .i64 0, .slice none 0 0, .int .i64 0, .int .i64 0, .slice none 0 0, .int .i64 0, .int .i64 0, .int .i64 0, .slice none 0 0, .slice none 0 0]), (13, b20, [.int .i64 n.id, .int .i64 n.term_, .int .i64 n.vote, .int .i64 n.role, .int .i64 n.lead, (g19 0 5), .int .i64 n.log.start, .int .i64 n.log.startTerm, X22, .int .i64 n.commit, .int .i64 n.clock, .int .i64 n.limit, (g19 0 12), (g19 0 13)])]) 115 (fun (zz : (Nat → Nat → Value) × (Nat → Nat → Value)) => match zz with | (go25_1_1, go25_4_1) => [(3, .obj b1 ((Node.c n).map .r)), (6, .obj b2 [I 0, I 0, I 0, I 0, I 0, .r (.v (.slice none 0 0)), I 0, I 0, .r (.v (.slice none 0 0)), I 0, I 0, I 0, .r (.v (.slice none 0 0)), .r (.v (.slice none 0 0))]), (10, I ((logLast n.log).1)), (13, .obj b20 [I n.id, I n.term_, I n.vote, I n.role, I n.lead, .w (sl 1 cI n.conf) (g19 0 5), I n.log.start, I n.log.startTerm, .w (sl 3 Entry.c (n.log.entries ++ ([(⟨n.term_, kind, data⟩ : Entry)]))) X22, I n.commit, I n.clock, I n.limit, .w (sl 1 cI n.votes) (g19 0 12), .w (sl 4 Peer.c n.peers) (g19 0 13)]), (14, .w (sl 4 Peer.c ([] : List Peer)) X24), (80, .w (sl 1 cI (others ((lastC (⟨n.id, n.term_, n.vote, n.role, n.lead, n.conf, (⟨n.log.start, n.log.startTerm, (n.log.entries ++ ([(⟨n.term_, kind, data⟩ : Entry)]))⟩ : Log), n.commit, n.clock, n.limit, n.votes, n.peers⟩ : Node) (logLast (⟨n.id, n.term_, n.vote, n.role, n.lead, n.conf, (⟨n.log.start, n.log.startTerm, (n.log.entries ++ ([(⟨n.term_, kind, data⟩ : Entry)]))⟩ : Log), n.commit, n.clock, n.limit, n.votes, n.peers⟩ : Node).log).1).2) n.id)) (go25_4_1 0 0)), (81, I ((others ((lastC (⟨n.id, n.term_, n.vote, n.role, n.lead, n.conf, (⟨n.log.start, n.log.startTerm, (n.log.entries ++ ([(⟨n.term_, kind, data⟩ : Entry)]))⟩ : Log), n.commit, n.clock, n.limit, n.votes, n.peers⟩ : Node) (logLast (⟨n.id, n.term_, n.vote, n.role, n.lead, n.conf, (⟨n.log.start, n.log.startTerm, (n.log.entries ++ ([(⟨n.term_, kind, data⟩ : Entry)]))⟩ : Log), n.commit, n.clock, n.limit, n.votes, n.peers⟩ : Node).log).1).2) n.id).length : Int)), (82, I 0)]) (fun all hall K hK => ?_) ?_
      ·skip
       have ro25_1111111 : ∀ (go25_1_1 : Nat → Nat → Value), ∀ (go25_4_1 : Nat → Nat → Value), RA [(6, b2, [.int .i64 0, .int .i64 0, .int .i64 0, .int .i64 0, .int .i64 0, .slice none 0 0, .int .i64 0, .int .i64 0, .slice none 0 0, .int .i64 0, .int .i64 0, .int .i64 0, .slice none 0 0, .slice none 0 0]), (13, b20, [.int .i64 n.id, .int .i64 n.term_, .int .i64 n.vote, .int .i64 n.role, .int .i64 n.lead, (g19 0 5), .int .i64 n.log.start, .int .i64 n.log.startTerm, X22, .int .i64 n.commit, .int .i64 n.clock, .int .i64 n.limit, (g19 0 12), (g19 0 13)])] E B all 0 #[true, true, true, true, true, true, true] ⟨115, [(3, .obj b1 ((Node.c n).map .r)), (6, .obj b2 [I 0, I 0, I 0, I 0, I 0, .r (.v (.slice none 0 0)), I 0, I 0, .r (.v (.slice none 0 0)), I 0, I 0, I 0, .r (.v (.slice none 0 0)), .r (.v (.slice none 0 0))]), (10, I ((logLast n.log).1)), (13, .obj b20 [I n.id, I n.term_, I n.vote, I n.role, I n.lead, .w (sl 1 cI n.conf) (g19 0 5), I n.log.start, I n.log.startTerm, .w (sl 3 Entry.c (n.log.entries ++ ([(⟨n.term_, kind, data⟩ : Entry)]))) X22, I n.commit, I n.clock, I n.limit, .w (sl 1 cI n.votes) (g19 0 12), .w (sl 4 Peer.c n.peers) (g19 0 13)]), (14, .w (sl 4 Peer.c ([] : List Peer)) X24), (80, .w (sl 1 cI (others ((lastC (⟨n.id, n.term_, n.vote, n.role, n.lead, n.conf, (⟨n.log.start, n.log.startTerm, (n.log.entries ++ ([(⟨n.term_, kind, data⟩ : Entry)]))⟩ : Log), n.commit, n.clock, n.limit, n.votes, n.peers⟩ : Node) (logLast (⟨n.id, n.term_, n.vote, n.role, n.lead, n.conf, (⟨n.log.start, n.log.startTerm, (n.log.entries ++ ([(⟨n.term_, kind, data⟩ : Entry)]))⟩ : Log), n.commit, n.clock, n.limit, n.votes, n.peers⟩ : Node).log).1).2) n.id)) (go25_4_1 0 0)), (81, I ((others ((lastC (⟨n.id, n.term_, n.vote, n.role, n.lead, n.conf, (⟨n.log.start, n.log.startTerm, (n.log.entries ++ ([(⟨n.term_, kind, data⟩ : Entry)]))⟩ : Log), n.commit, n.clock, n.limit, n.votes, n.peers⟩ : Node) (logLast (⟨n.id, n.term_, n.vote, n.role, n.lead, n.conf, (⟨n.log.start, n.log.startTerm, (n.log.entries ++ ([(⟨n.term_, kind, data⟩ : Entry)]))⟩ : Log), n.commit, n.clock, n.limit, n.votes, n.peers⟩ : Node).log).1).2) n.id).length : Int)), (82, I 0)]⟩ K := by
        intro go25_1_1 go25_4_1
        exact RA.of hall (RA.finH (Tell.c rfl rfl (Tell.c rfl rfl Tell.e)) (by kernel_rfl) (hK (go25_1_1, go25_4_1) _ rfl (Le.of rfl)))
       have ro25_1111001 : ∀ (go25_1_1 : Nat → Nat → Value), RA [(6, b2, [.int .i64 0, .int .i64 0, .int .i64 0, .int .i64 0, .int .i64 0, .slice none 0 0, .int .i64 0, .int .i64 0, .slice none 0 0, .int .i64 0, .int .i64 0, .int .i64 0, .slice none 0 0, .slice none 0 0]), (13, b20, [.int .i64 n.id, .int .i64 n.term_, .int .i64 n.vote, .int .i64 n.role, .int .i64 n.lead, (g19 0 5), .int .i64 n.log.start, .int .i64 n.log.startTerm, X22, .int .i64 n.commit, .int .i64 n.clock, .int .i64 n.limit, (g19 0 12), (g19 0 13)])] E B all 2 #[true, true, true, true, false, false, true] ⟨115, [(3, .obj b1 ((Node.c n).map .r)), (6, .obj b2 [I 0, I 0, I 0, I 0, I 0, .r (.v (.slice none 0 0)), I 0, I 0, .r (.v (.slice none 0 0)), I 0, I 0, I 0, .r (.v (.slice none 0 0)), .r (.v (.slice none 0 0))]), (10, I ((logLast n.log).1)), (13, .obj b20 [I n.id, I n.term_, I n.vote, I n.role, I n.lead, .w (sl 1 cI n.conf) (g19 0 5), I n.log.start, I n.log.startTerm, .w (sl 3 Entry.c (n.log.entries ++ ([(⟨n.term_, kind, data⟩ : Entry)]))) X22, I n.commit, I n.clock, I n.limit, .w (sl 1 cI n.votes) (g19 0 12), .w (sl 4 Peer.c n.peers) (g19 0 13)]), (14, .w (sl 4 Peer.c ([] : List Peer)) X24), (77, .w (sl 1 cI ((lastC (⟨n.id, n.term_, n.vote, n.role, n.lead, n.conf, (⟨n.log.start, n.log.startTerm, (n.log.entries ++ ([(⟨n.term_, kind, data⟩ : Entry)]))⟩ : Log), n.commit, n.clock, n.limit, n.votes, n.peers⟩ : Node) (logLast (⟨n.id, n.term_, n.vote, n.role, n.lead, n.conf, (⟨n.log.start, n.log.startTerm, (n.log.entries ++ ([(⟨n.term_, kind, data⟩ : Entry)]))⟩ : Log), n.commit, n.clock, n.limit, n.votes, n.peers⟩ : Node).log).1).2)) (go25_1_1 0 0)), (79, I n.id), (82, I 0)]⟩ K := by
        intro go25_1_1
        refine RA.of hall (RA.stepH (L := [4]) (Tell.c rfl rfl (Tell.c rfl rfl Tell.e)) (by kernel_rfl) (by simp) (RA.each ?_ (RA.each0)))
        ·skip
         refine RO.callOwn rfl rfl (impl_without_fn ((lastC (⟨n.id, n.term_, n.vote, n.role, n.lead, n.conf, (⟨n.log.start, n.log.startTerm, (n.log.entries ++ ([(⟨n.term_, kind, data⟩ : Entry)]))⟩ : Log), n.commit, n.clock, n.limit, n.votes, n.peers⟩ : Node) (logLast (⟨n.id, n.term_, n.vote, n.role, n.lead, n.conf, (⟨n.log.start, n.log.startTerm, (n.log.entries ++ ([(⟨n.term_, kind, data⟩ : Entry)]))⟩ : Log), n.commit, n.clock, n.limit, n.votes, n.peers⟩ : Node).log).1).2) n.id (lastC_len hOut _)) rfl (.cons (.one (.r (.al (k := none) (i := 77) (sz := 1) (V := (go25_1_1 0 0)) rfl rfl nofun))) (.cons (.one (.r .r)) (.nil))) rfl rfl fun go25_4_1 => ?_
         refine RA.first (i := 5) (ls' := #[true, true, true, true, true, true, true]) (Tell.c rfl rfl (Tell.c rfl rfl Tell.e)) (by kernel_rfl) rfl rfl rfl (VF.p (V.lenT (n := (others ((lastC (⟨n.id, n.term_, n.vote, n.role, n.lead, n.conf, (⟨n.log.start, n.log.startTerm, (n.log.entries ++ ([(⟨n.term_, kind, data⟩ : Entry)]))⟩ : Log), n.commit, n.clock, n.limit, n.votes, n.peers⟩ : Node) (logLast (⟨n.id, n.term_, n.vote, n.role, n.lead, n.conf, (⟨n.log.start, n.log.startTerm, (n.log.entries ++ ([(⟨n.term_, kind, data⟩ : Entry)]))⟩ : Log), n.commit, n.clock, n.limit, n.votes, n.peers⟩ : Node).log).1).2) n.id).length) rfl rfl rfl (.al rfl rfl nofun))) ?_
         exact RA.to hall (RA.lr (ro25_1111111 go25_1_1 go25_4_1) rfl rfl)
       have ro25_1011001 : RA [(6, b2, [.int .i64 0, .int .i64 0, .int .i64 0, .int .i64 0, .int .i64 0, .slice none 0 0, .int .i64 0, .int .i64 0, .slice none 0 0, .int .i64 0, .int .i64 0, .int .i64 0, .slice none 0 0, .slice none 0 0]), (13, b20, [.int .i64 n.id, .int .i64 n.term_, .int .i64 n.vote, .int .i64 n.role, .int .i64 n.lead, (g19 0 5), .int .i64 n.log.start, .int .i64 n.log.startTerm, X22, .int .i64 n.commit, .int .i64 n.clock, .int .i64 n.limit, (g19 0 12), (g19 0 13)])] E B all 3 #[true, false, true, true, false, false, true] ⟨115, [(3, .obj b1 ((Node.c n).map .r)), (6, .obj b2 [I 0, I 0, I 0, I 0, I 0, .r (.v (.slice none 0 0)), I 0, I 0, .r (.v (.slice none 0 0)), I 0, I 0, I 0, .r (.v (.slice none 0 0)), .r (.v (.slice none 0 0))]), (10, I ((logLast n.log).1)), (13, .obj b20 [I n.id, I n.term_, I n.vote, I n.role, I n.lead, .w (sl 1 cI n.conf) (g19 0 5), I n.log.start, I n.log.startTerm, .w (sl 3 Entry.c (n.log.entries ++ ([(⟨n.term_, kind, data⟩ : Entry)]))) X22, I n.commit, I n.clock, I n.limit, .w (sl 1 cI n.votes) (g19 0 12), .w (sl 4 Peer.c n.peers) (g19 0 13)]), (14, .w (sl 4 Peer.c ([] : List Peer)) X24), (76, .agg [I n.id, I n.term_, I n.vote, I n.role, I n.lead, .al 13 (some 5) 1 n.conf.length (g19 0 5) 0, I n.log.start, I n.log.startTerm, .al 13 (some 8) 3 ((n.log.entries ++ ([(⟨n.term_, kind, data⟩ : Entry)])).length) X22 0, I n.commit, I n.clock, I n.limit, .al 13 (some 12) 1 n.votes.length (g19 0 12) 0, .al 13 (some 13) 4 n.peers.length (g19 0 13) 0]), (79, I n.id), (82, I 0)]⟩ K := by
        refine RA.of hall (RA.stepH (L := [1]) (Tell.c rfl rfl (Tell.c rfl rfl Tell.e)) (by kernel_rfl) (by simp) (RA.each ?_ (RA.each0)))
        ·skip
         refine RO.callOwn rfl rfl (impl_ConfOf_fn (⟨n.id, n.term_, n.vote, n.role, n.lead, n.conf, (⟨n.log.start, n.log.startTerm, (n.log.entries ++ ([(⟨n.term_, kind, data⟩ : Entry)]))⟩ : Log), n.commit, n.clock, n.limit, n.votes, n.peers⟩ : Node) hOut) rfl (.cons (.agg (.cons (.r .r) (.cons (.r .r) (.cons (.r .r) (.cons (.r .r) (.cons (.r .r) (.cons (.r (.alo (k := none) (i := 13) (j := 5) (sz := 1) (V := (g19 0 5)) rfl rfl rfl nofun)) (.cons (.r .r) (.cons (.r .r) (.cons (.r (.alo (k := none) (i := 13) (j := 8) (sz := 3) (V := X22) rfl rfl rfl nofun)) (.cons (.r .r) (.cons (.r .r) (.cons (.r .r) (.cons (.r (.alo (k := none) (i := 13) (j := 12) (sz := 1) (V := (g19 0 12)) rfl rfl rfl nofun)) (.cons (.r (.alo (k := none) (i := 13) (j := 13) (sz := 4) (V := (g19 0 13)) rfl rfl rfl nofun)) (.nil)))))))))))))))) (.nil)) rfl rfl fun go25_1_1 => ?_
         exact RA.to hall (RA.lr (ro25_1111001 go25_1_1) rfl rfl)
       have ro25_1110001 : ∀ (go25_1_1 : Nat → Nat → Value), RA [(6, b2, [.int .i64 0, .int .i64 0, .int .i64 0, .int .i64 0, .int .i64 0, .slice none 0 0, .int .i64 0, .int .i64 0, .slice none 0 0, .int .i64 0, .int .i64 0, .int .i64 0, .slice none 0 0, .slice none 0 0]), (13, b20, [.int .i64 n.id, .int .i64 n.term_, .int .i64 n.vote, .int .i64 n.role, .int .i64 n.lead, (g19 0 5), .int .i64 n.log.start, .int .i64 n.log.startTerm, X22, .int .i64 n.commit, .int .i64 n.clock, .int .i64 n.limit, (g19 0 12), (g19 0 13)])] E B all 3 #[true, true, true, false, false, false, true] ⟨115, [(3, .obj b1 ((Node.c n).map .r)), (6, .obj b2 [I 0, I 0, I 0, I 0, I 0, .r (.v (.slice none 0 0)), I 0, I 0, .r (.v (.slice none 0 0)), I 0, I 0, I 0, .r (.v (.slice none 0 0)), .r (.v (.slice none 0 0))]), (10, I ((logLast n.log).1)), (13, .obj b20 [I n.id, I n.term_, I n.vote, I n.role, I n.lead, .w (sl 1 cI n.conf) (g19 0 5), I n.log.start, I n.log.startTerm, .w (sl 3 Entry.c (n.log.entries ++ ([(⟨n.term_, kind, data⟩ : Entry)]))) X22, I n.commit, I n.clock, I n.limit, .w (sl 1 cI n.votes) (g19 0 12), .w (sl 4 Peer.c n.peers) (g19 0 13)]), (14, .w (sl 4 Peer.c ([] : List Peer)) X24), (77, .w (sl 1 cI ((lastC (⟨n.id, n.term_, n.vote, n.role, n.lead, n.conf, (⟨n.log.start, n.log.startTerm, (n.log.entries ++ ([(⟨n.term_, kind, data⟩ : Entry)]))⟩ : Log), n.commit, n.clock, n.limit, n.votes, n.peers⟩ : Node) (logLast (⟨n.id, n.term_, n.vote, n.role, n.lead, n.conf, (⟨n.log.start, n.log.startTerm, (n.log.entries ++ ([(⟨n.term_, kind, data⟩ : Entry)]))⟩ : Log), n.commit, n.clock, n.limit, n.votes, n.peers⟩ : Node).log).1).2)) (go25_1_1 0 0)), (78, .pt 3 b1 0), (82, I 0)]⟩ K := by
        intro go25_1_1
        refine RA.of hall (RA.stepH (L := [3]) (Tell.c rfl rfl (Tell.c rfl rfl Tell.e)) (by kernel_rfl) (by simp) (RA.each ?_ (RA.each0)))
        ·skip
         refine RO.v rfl rfl (V.loadPrim (d := I n.id) rfl rfl (.inl rfl) rfl rfl rfl) rfl ?_
         exact RA.to hall (RA.lr (ro25_1111001 go25_1_1) rfl rfl)
       have ro25_1010001 : RA [(6, b2, [.int .i64 0, .int .i64 0, .int .i64 0, .int .i64 0, .int .i64 0, .slice none 0 0, .int .i64 0, .int .i64 0, .slice none 0 0, .int .i64 0, .int .i64 0, .int .i64 0, .slice none 0 0, .slice none 0 0]), (13, b20, [.int .i64 n.id, .int .i64 n.term_, .int .i64 n.vote, .int .i64 n.role, .int .i64 n.lead, (g19 0 5), .int .i64 n.log.start, .int .i64 n.log.startTerm, X22, .int .i64 n.commit, .int .i64 n.clock, .int .i64 n.limit, (g19 0 12), (g19 0 13)])] E B all 4 #[true, false, true, false, false, false, true] ⟨115, [(3, .obj b1 ((Node.c n).map .r)), (6, .obj b2 [I 0, I 0, I 0, I 0, I 0, .r (.v (.slice none 0 0)), I 0, I 0, .r (.v (.slice none 0 0)), I 0, I 0, I 0, .r (.v (.slice none 0 0)), .r (.v (.slice none 0 0))]), (10, I ((logLast n.log).1)), (13, .obj b20 [I n.id, I n.term_, I n.vote, I n.role, I n.lead, .w (sl 1 cI n.conf) (g19 0 5), I n.log.start, I n.log.startTerm, .w (sl 3 Entry.c (n.log.entries ++ ([(⟨n.term_, kind, data⟩ : Entry)]))) X22, I n.commit, I n.clock, I n.limit, .w (sl 1 cI n.votes) (g19 0 12), .w (sl 4 Peer.c n.peers) (g19 0 13)]), (14, .w (sl 4 Peer.c ([] : List Peer)) X24), (76, .agg [I n.id, I n.term_, I n.vote, I n.role, I n.lead, .al 13 (some 5) 1 n.conf.length (g19 0 5) 0, I n.log.start, I n.log.startTerm, .al 13 (some 8) 3 ((n.log.entries ++ ([(⟨n.term_, kind, data⟩ : Entry)])).length) X22 0, I n.commit, I n.clock, I n.limit, .al 13 (some 12) 1 n.votes.length (g19 0 12) 0, .al 13 (some 13) 4 n.peers.length (g19 0 13) 0]), (78, .pt 3 b1 0), (82, I 0)]⟩ K := by
        refine RA.of hall (RA.stepH (L := [1, 3]) (Tell.c rfl rfl (Tell.c rfl rfl Tell.e)) (by kernel_rfl) (by simp) (RA.each ?_ (RA.each ?_ (RA.each0))))
        ·skip
         refine RO.callOwn rfl rfl (impl_ConfOf_fn (⟨n.id, n.term_, n.vote, n.role, n.lead, n.conf, (⟨n.log.start, n.log.startTerm, (n.log.entries ++ ([(⟨n.term_, kind, data⟩ : Entry)]))⟩ : Log), n.commit, n.clock, n.limit, n.votes, n.peers⟩ : Node) hOut) rfl (.cons (.agg (.cons (.r .r) (.cons (.r .r) (.cons (.r .r) (.cons (.r .r) (.cons (.r .r) (.cons (.r (.alo (k := none) (i := 13) (j := 5) (sz := 1) (V := (g19 0 5)) rfl rfl rfl nofun)) (.cons (.r .r) (.cons (.r .r) (.cons (.r (.alo (k := none) (i := 13) (j := 8) (sz := 3) (V := X22) rfl rfl rfl nofun)) (.cons (.r .r) (.cons (.r .r) (.cons (.r .r) (.cons (.r (.alo (k := none) (i := 13) (j := 12) (sz := 1) (V := (g19 0 12)) rfl rfl rfl nofun)) (.cons (.r (.alo (k := none) (i := 13) (j := 13) (sz := 4) (V := (g19 0 13)) rfl rfl rfl nofun)) (.nil)))))))))))))))) (.nil)) rfl rfl fun go25_1_1 => ?_
         exact RA.to hall (RA.lr (ro25_1110001 go25_1_1) rfl rfl)
        ·skip
         refine RO.v rfl rfl (V.loadPrim (d := I n.id) rfl rfl (.inl rfl) rfl rfl rfl) rfl ?_
         exact RA.to hall (RA.lr ro25_1011001 rfl rfl)
       have ro25_S : RA [(6, b2, [.int .i64 0, .int .i64 0, .int .i64 0, .int .i64 0, .int .i64 0, .slice none 0 0, .int .i64 0, .int .i64 0, .slice none 0 0, .int .i64 0, .int .i64 0, .int .i64 0, .slice none 0 0, .slice none 0 0]), (13, b20, [.int .i64 n.id, .int .i64 n.term_, .int .i64 n.vote, .int .i64 n.role, .int .i64 n.lead, (g19 0 5), .int .i64 n.log.start, .int .i64 n.log.startTerm, X22, .int .i64 n.commit, .int .i64 n.clock, .int .i64 n.limit, (g19 0 12), (g19 0 13)])] E B all 7 #[false, false, false, false, false, false, false] ⟨115, [(3, .obj b1 ((Node.c n).map .r)), (6, .obj b2 [I 0, I 0, I 0, I 0, I 0, .r (.v (.slice none 0 0)), I 0, I 0, .r (.v (.slice none 0 0)), I 0, I 0, I 0, .r (.v (.slice none 0 0)), .r (.v (.slice none 0 0))]), (10, I ((logLast n.log).1)), (13, .obj b20 [I n.id, I n.term_, I n.vote, I n.role, I n.lead, .w (sl 1 cI n.conf) (g19 0 5), I n.log.start, I n.log.startTerm, .w (sl 3 Entry.c (n.log.entries ++ ([(⟨n.term_, kind, data⟩ : Entry)]))) X22, I n.commit, I n.clock, I n.limit, .w (sl 1 cI n.votes) (g19 0 12), .w (sl 4 Peer.c n.peers) (g19 0 13)]), (14, .w (sl 4 Peer.c ([] : List Peer)) X24)]⟩ K := by
        refine RA.of hall ?_
        refine RA.first (i := 0) (ls' := #[true, false, false, false, false, false, false]) (Tell.c rfl rfl (Tell.c rfl rfl Tell.e)) (by kernel_rfl) rfl rfl rfl (VF.loadAgg (m := 1) rfl rfl rfl rfl rfl rfl rfl (Nat.le_of_ble_eq_true rfl)) ?_
        refine RA.first (i := 2) (ls' := #[true, false, true, false, false, false, false]) (Tell.c rfl rfl (Tell.c rfl rfl Tell.e)) (by kernel_rfl) rfl rfl rfl (VF.p (V.field rfl rfl rfl rfl (by decide) rfl)) ?_
        refine RA.first (i := 6) (ls' := #[true, false, true, false, false, false, true]) (Tell.c rfl rfl (Tell.c rfl rfl Tell.e)) (by kernel_rfl) rfl rfl rfl (VF.p (V.mv (d := I 0) rfl rfl)) ?_
        exact RA.to hall (RA.lr ro25_1010001 rfl rfl)
       exact RA.start (by kernel_rfl) (by kernel_rfl) (RA.lr ro25_S rfl rfl)
      ·rintro ⟨go25_1_1, go25_4_1⟩
       obtain ⟨L26, hn27⟩ : ∃ z : List Int, z = others ((lastC (⟨n.id, n.term_, n.vote, n.role, n.lead, n.conf, (⟨n.log.start, n.log.startTerm, (n.log.entries ++ ([(⟨n.term_, kind, data⟩ : Entry)]))⟩ : Log), n.commit, n.clock, n.limit, n.votes, n.peers⟩ : Node) (logLast (⟨n.id, n.term_, n.vote, n.role, n.lead, n.conf, (⟨n.log.start, n.log.startTerm, (n.log.entries ++ ([(⟨n.term_, kind, data⟩ : Entry)]))⟩ : Log), n.commit, n.clock, n.limit, n.votes, n.peers⟩ : Node).log).1).2) n.id := ⟨_, rfl⟩
       refine CW.le [(3, .obj b1 ((Node.c n).map .r)), (6, .obj b2 [I 0, I 0, I 0, I 0, I 0, .r (.v (.slice none 0 0)), I 0, I 0, .r (.v (.slice none 0 0)), I 0, I 0, I 0, .r (.v (.slice none 0 0)), .r (.v (.slice none 0 0))]), (10, I ((logLast n.log).1)), (13, .obj b20 [I n.id, I n.term_, I n.vote, I n.role, I n.lead, .w (sl 1 cI n.conf) (g19 0 5), I n.log.start, I n.log.startTerm, .w (sl 3 Entry.c (n.log.entries ++ ([(⟨n.term_, kind, data⟩ : Entry)]))) X22, I n.commit, I n.clock, I n.limit, .w (sl 1 cI n.votes) (g19 0 12), .w (sl 4 Peer.c n.peers) (g19 0 13)]), (14, .w (sl 4 Peer.c ([] : List Peer)) X24), (80, .w (sl 1 cI L26) (go25_4_1 0 0)), (81, I (L26.length : Int)), (82, I 0)] rfl (Le.c rfl <| Le.c rfl <| Le.c rfl <| Le.c rfl <| Le.c rfl <| Le.c (by subst hn27; rfl) <| Le.c (by subst hn27; rfl) <| Le.c rfl <| Le.e) ?_
       refine CW.block ?_
       refine CW.loopI 115 (fun (zz : Nat × Value) => match zz with | (i, X) => [(3, .obj b1 ((Node.c n).map .r)), (6, .obj b2 [I 0, I 0, I 0, I 0, I 0, .r (.v (.slice none 0 0)), I 0, I 0, .r (.v (.slice none 0 0)), I 0, I 0, I 0, .r (.v (.slice none 0 0)), .r (.v (.slice none 0 0))]), (10, I ((logLast n.log).1)), (13, .obj b20 [I n.id, I n.term_, I n.vote, I n.role, I n.lead, .w (sl 1 cI n.conf) (g19 0 5), I n.log.start, I n.log.startTerm, .w (sl 3 Entry.c (n.log.entries ++ ([(⟨n.term_, kind, data⟩ : Entry)]))) X22, I n.commit, I n.clock, I n.limit, .w (sl 1 cI n.votes) (g19 0 12), .w (sl 4 Peer.c n.peers) (g19 0 13)]), (14, .w (sl 4 Peer.c ((L26.take i).map (pickP n))) X), (80, .w (sl 1 cI L26) (go25_4_1 0 0)), (81, I (L26.length : Int)), (82, I (i : Int))]) (fun (zz : Nat × Value) => match zz with | (i, X) => i ≤ L26.length) (fun (zz : Nat × Value) => match zz with | (i, X) => L26.length - i) (0, _) rfl (Le.c rfl <| Le.c rfl <| Le.c rfl <| Le.c rfl <| Le.c rfl <| Le.c rfl <| Le.c rfl <| Le.c rfl <| Le.e) (by omega) ?_
       rintro ⟨i, X⟩ hb
       have hlL : L26.length ≤ 1048576 := by rw [hn27]; exact Nat.le_trans (others_len _ _) (lastC_len hOut _)
       have hl0 : L26.length ≤ maxLen := Nat.le_trans hlL (by decide)
       refine CW.seq ?_
       refine CW.region ?_
       refine RW.v rfl (V.cmpInt rfl rfl rfl rfl) ?_
       refine RW.nil ?_
       refine CW.le [(3, .obj b1 ((Node.c n).map .r)), (6, .obj b2 [I 0, I 0, I 0, I 0, I 0, .r (.v (.slice none 0 0)), I 0, I 0, .r (.v (.slice none 0 0)), I 0, I 0, I 0, .r (.v (.slice none 0 0)), .r (.v (.slice none 0 0))]), (10, I ((logLast n.log).1)), (13, .obj b20 [I n.id, I n.term_, I n.vote, I n.role, I n.lead, .w (sl 1 cI n.conf) (g19 0 5), I n.log.start, I n.log.startTerm, .w (sl 3 Entry.c (n.log.entries ++ ([(⟨n.term_, kind, data⟩ : Entry)]))) X22, I n.commit, I n.clock, I n.limit, .w (sl 1 cI n.votes) (g19 0 12), .w (sl 4 Peer.c n.peers) (g19 0 13)]), (14, .w (sl 4 Peer.c ((L26.take i).map (pickP n))) X), (80, .w (sl 1 cI L26) (go25_4_1 0 0)), (81, I (L26.length : Int)), (82, I (i : Int)), (83, Bo (decide ((i : Int) < (L26.length : Int))))] rfl (Le.of rfl) ?_
       refine CW.seq ?_
       refine CW.cond rfl (fun h28 => ?_) (fun h28 => ?_)
       ·skip
        have hii : i < L26.length := by have := h28; simp at this; first | exact this | omega | (simp; done) | (simp; omega)
        obtain ⟨ei, hei⟩ : ∃ e, L26[i]? = some e := ⟨_, List.getElem?_eq_getElem hii⟩
        have hdi := drop_get hei
        refine CW.skip ?_
        refine CW.le [(3, .obj b1 ((Node.c n).map .r)), (6, .obj b2 [I 0, I 0, I 0, I 0, I 0, .r (.v (.slice none 0 0)), I 0, I 0, .r (.v (.slice none 0 0)), I 0, I 0, I 0, .r (.v (.slice none 0 0)), .r (.v (.slice none 0 0))]), (10, I ((logLast n.log).1)), (13, .obj b20 [I n.id, I n.term_, I n.vote, I n.role, I n.lead, .w (sl 1 cI n.conf) (g19 0 5), I n.log.start, I n.log.startTerm, .w (sl 3 Entry.c (n.log.entries ++ ([(⟨n.term_, kind, data⟩ : Entry)]))) X22, I n.commit, I n.clock, I n.limit, .w (sl 1 cI n.votes) (g19 0 12), .w (sl 4 Peer.c n.peers) (g19 0 13)]), (14, .w (sl 4 Peer.c ((L26.take i).map (pickP n))) X), (80, .w (sl 1 cI L26) (go25_4_1 0 0)), (81, I (L26.length : Int)), (82, I (i : Int))] rfl (Le.of rfl) ?_
        refine CW.seq ?_
        refine CW.block ?_
        refine CW.seq ?_
        refine CW.region ?_
        refine RW.v rfl (V.indexW rfl rfl rfl rfl rfl rfl rfl hii) ?_
        refine RW.v rfl (V.loadF (m := i) (off := 0) rfl rfl (.inl rfl) rfl rfl cI.len hei (by decide) rfl) ?_
        refine RW.alloc (ds := [I 0]) rfl rfl rfl rfl fun b29 => ?_
        refine RW.store (d := I ei) rfl rfl rfl rfl rfl rfl rfl (Nat.le_of_ble_eq_true rfl) rfl rfl ?_
        refine RW.nil ?_
        refine CW.le [(3, .obj b1 ((Node.c n).map .r)), (6, .obj b2 [I 0, I 0, I 0, I 0, I 0, .r (.v (.slice none 0 0)), I 0, I 0, .r (.v (.slice none 0 0)), I 0, I 0, I 0, .r (.v (.slice none 0 0)), .r (.v (.slice none 0 0))]), (10, I ((logLast n.log).1)), (13, .obj b20 [I n.id, I n.term_, I n.vote, I n.role, I n.lead, .w (sl 1 cI n.conf) (g19 0 5), I n.log.start, I n.log.startTerm, .w (sl 3 Entry.c (n.log.entries ++ ([(⟨n.term_, kind, data⟩ : Entry)]))) X22, I n.commit, I n.clock, I n.limit, .w (sl 1 cI n.votes) (g19 0 12), .w (sl 4 Peer.c n.peers) (g19 0 13)]), (14, .w (sl 4 Peer.c ((L26.take i).map (pickP n))) X), (16, .obj b29 [I ei]), (80, .w (sl 1 cI L26) (go25_4_1 0 0)), (81, I (L26.length : Int)), (82, I (i : Int))] rfl (Le.of rfl) ?_
        refine CW.seq ?_
        refine CW.region ?_
        refine RW.v rfl (V.field rfl rfl rfl rfl (by decide) rfl) ?_
        refine RW.v rfl (V.loadPrim (d := .r (sl 4 Peer.c n.peers)) rfl rfl (.inr ⟨_, rfl⟩) rfl rfl rfl) ?_
        refine RW.freezeB (ts := [.v (.int .i64 ei)]) 16 rfl (DRd.r DRd.e) ?_
        refine RW.v rfl (V.mkFunc rfl rfl) ?_
        refine RW.call rfl (impl_Peer__fn n.peers 100 ([.v (.int .i64 ei)]) (fun p => p.id == ei) (fun p => impl_Propose_1_fn p ei)) rfl (.cons (.one (.r .r)) (.cons (.one (.r .r)) (.nil))) fun g30 => ?_
        refine RW.v rfl (V.as (d := I (idxF (fun p => p.id == ei) n.peers)) rfl rfl) ?_
        refine RW.nil ?_
        refine CW.le [(3, .obj b1 ((Node.c n).map .r)), (6, .obj b2 [I 0, I 0, I 0, I 0, I 0, .r (.v (.slice none 0 0)), I 0, I 0, .r (.v (.slice none 0 0)), I 0, I 0, I 0, .r (.v (.slice none 0 0)), .r (.v (.slice none 0 0))]), (10, I ((logLast n.log).1)), (13, .obj b20 [I n.id, I n.term_, I n.vote, I n.role, I n.lead, .w (sl 1 cI n.conf) (g19 0 5), I n.log.start, I n.log.startTerm, .w (sl 3 Entry.c (n.log.entries ++ ([(⟨n.term_, kind, data⟩ : Entry)]))) X22, I n.commit, I n.clock, I n.limit, .w (sl 1 cI n.votes) (g19 0 12), .w (sl 4 Peer.c n.peers) (g19 0 13)]), (14, .w (sl 4 Peer.c ((L26.take i).map (pickP n))) X), (16, .rp [.v (.int .i64 ei)]), (17, I (idxF (fun p => p.id == ei) n.peers)), (80, .w (sl 1 cI L26) (go25_4_1 0 0)), (81, I (L26.length : Int)), (82, I (i : Int))] rfl (Le.of rfl) ?_
        refine CW.seq ?_
        refine CW.region ?_
        refine RW.v rfl (V.mv (d := I (idxF (fun p => p.id == ei) n.peers)) rfl rfl) ?_
        refine RW.v rfl (V.cmpInt rfl rfl rfl rfl) ?_
        refine RW.nil ?_
        refine CW.le [(3, .obj b1 ((Node.c n).map .r)), (6, .obj b2 [I 0, I 0, I 0, I 0, I 0, .r (.v (.slice none 0 0)), I 0, I 0, .r (.v (.slice none 0 0)), I 0, I 0, I 0, .r (.v (.slice none 0 0)), .r (.v (.slice none 0 0))]), (10, I ((logLast n.log).1)), (13, .obj b20 [I n.id, I n.term_, I n.vote, I n.role, I n.lead, .w (sl 1 cI n.conf) (g19 0 5), I n.log.start, I n.log.startTerm, .w (sl 3 Entry.c (n.log.entries ++ ([(⟨n.term_, kind, data⟩ : Entry)]))) X22, I n.commit, I n.clock, I n.limit, .w (sl 1 cI n.votes) (g19 0 12), .w (sl 4 Peer.c n.peers) (g19 0 13)]), (14, .w (sl 4 Peer.c ((L26.take i).map (pickP n))) X), (16, .rp [.v (.int .i64 ei)]), (17, I (idxF (fun p => p.id == ei) n.peers)), (80, .w (sl 1 cI L26) (go25_4_1 0 0)), (81, I (L26.length : Int)), (82, I (i : Int)), (91, Bo (decide ((idxF (fun p => p.id == ei) n.peers) < 0)))] rfl (Le.of rfl) ?_
        refine CW.cond rfl (fun h31 => ?_) (fun h31 => ?_)
        ·skip
         have hfd := idxF_neg (p := fun p : Peer => p.id == ei) (a := n.peers) (by simpa using h31)
         refine CW.region ?_
         refine RW.v rfl (V.mv (d := .al 14 none 4 (((L26.take i).map (pickP n)).length) X 0) rfl rfl) ?_
         refine RW.v rfl (V.loadPrimR (t0 := .v (.int .i64 ei)) rfl rfl (.inl rfl) rfl rfl) ?_
         refine RW.v rfl (V.mv (d := I ((logLast n.log).1)) rfl rfl) ?_
         refine RW.v rfl (V.arInt rfl rfl rfl rfl) ?_
         refine RW.v rfl (V.build (ds := [I ei, I (IntKind.i64.wrap (((logLast n.log).1) + 1)), I 0, I 0]) rfl rfl rfl rfl (.one rfl rfl rfl (Nat.le_of_ble_eq_true rfl) (.one rfl rfl rfl (Nat.le_of_ble_eq_true rfl) (.nil)))) ?_
         refine RW.build1 (c := Peer.c) (v := (⟨ei, (IntKind.i64.wrap (((logLast n.log).1) + 1)), 0, 0⟩ : Peer)) rfl rfl rfl rfl rfl rfl (DW.v (DW.v (DW.v (DW.v DW.e)))) Peer.len (by decide) (by decide) fun X32 => ?_
         refine RW.appendSR (c := Peer.c) (l1 := ((L26.take i).map (pickP n))) (l2 := [(⟨ei, (IntKind.i64.wrap (((logLast n.log).1) + 1)), 0, 0⟩ : Peer)]) rfl rfl rfl rfl rfl rfl rfl rfl (.al (k := none) (i := 97) (sz := 4) (V := X32) rfl rfl nofun) (by decide) (Nat.le_of_ble_eq_true rfl) Peer.len (fun _ => rfl) rfl (by first | (simp only [maxLen, List.length_singleton]; omega) | (simp only [maxLen, List.length_append, List.length_map, List.length_take, List.length_singleton]; omega)) (by first | (simp only [maxLen, List.length_singleton]; omega) | (simp only [maxLen, List.length_append, List.length_map, List.length_take, List.length_singleton]; omega)) fun X33 => ?_
         refine RW.assignMove rfl rfl rfl (by decide) (Nat.le_of_ble_eq_true rfl) (Nat.le_of_ble_eq_true rfl) ?_
         refine RW.nil ?_
         refine CW.le [(3, .obj b1 ((Node.c n).map .r)), (6, .obj b2 [I 0, I 0, I 0, I 0, I 0, .r (.v (.slice none 0 0)), I 0, I 0, .r (.v (.slice none 0 0)), I 0, I 0, I 0, .r (.v (.slice none 0 0)), .r (.v (.slice none 0 0))]), (10, I ((logLast n.log).1)), (13, .obj b20 [I n.id, I n.term_, I n.vote, I n.role, I n.lead, .w (sl 1 cI n.conf) (g19 0 5), I n.log.start, I n.log.startTerm, .w (sl 3 Entry.c (n.log.entries ++ ([(⟨n.term_, kind, data⟩ : Entry)]))) X22, I n.commit, I n.clock, I n.limit, .w (sl 1 cI n.votes) (g19 0 12), .w (sl 4 Peer.c n.peers) (g19 0 13)]), (14, .w (sl 4 Peer.c (((L26.take i).map (pickP n)) ++ ([(⟨ei, (IntKind.i64.wrap (((logLast n.log).1) + 1)), 0, 0⟩ : Peer)]))) X33), (80, .w (sl 1 cI L26) (go25_4_1 0 0)), (81, I (L26.length : Int)), (82, I (i : Int))] rfl (Le.of rfl) ?_
         refine CW.region ?_
         refine RW.v rfl (V.inc rfl rfl rfl hii hl0) ?_
         refine RW.v rfl (V.mv (d := I ((i + 1 : Nat) : Int)) rfl rfl) ?_
         refine RW.nil ?_
         exact ⟨(i + 1, _), by show L26.length - (i + 1) < L26.length - i; omega, (by omega), rfl, Le.c rfl <| Le.c rfl <| Le.c rfl <| Le.c rfl <| Le.c (Dw_congr (by rw [take_snoc hei, List.map_append]; simp only [List.map_cons, List.map_nil, pickP, hfd])) <| Le.c rfl <| Le.c rfl <| Le.c rfl <| Le.e⟩
        ·skip
         obtain ⟨q, eq_, hq1, hq2, hfd⟩ := idxF_find (p := fun p : Peer => p.id == ei) (a := n.peers) (by simpa using h31)
         refine CW.region ?_
         refine RW.v rfl (V.mv (d := .al 14 none 4 (((L26.take i).map (pickP n)).length) X 0) rfl rfl) ?_
         refine RW.v rfl (V.field rfl rfl rfl rfl (by decide) rfl) ?_
         refine RW.v rfl (V.loadPrim (d := .r (sl 4 Peer.c n.peers)) rfl rfl (.inr ⟨_, rfl⟩) rfl rfl rfl) ?_
         refine RW.v rfl (V.mv (d := I (idxF (fun p => p.id == ei) n.peers)) rfl rfl) ?_
         refine RW.v rfl (V.indexZ (m := q) (v := eq_) rfl rfl rfl rfl rfl rfl hq1 Peer.len hq2) ?_
         refine RW.v rfl (V.loadAggR rfl rfl rfl rfl (Nat.le_of_ble_eq_true rfl)) ?_
         refine RW.build1 (c := Peer.c) (v := eq_) rfl rfl rfl rfl rfl rfl (DW.v (DW.v (DW.v (DW.v DW.e)))) Peer.len (by decide) (by decide) fun X34 => ?_
         refine RW.appendSR (c := Peer.c) (l1 := ((L26.take i).map (pickP n))) (l2 := [eq_]) rfl rfl rfl rfl rfl rfl rfl rfl (.al (k := none) (i := 105) (sz := 4) (V := X34) rfl rfl nofun) (by decide) (Nat.le_of_ble_eq_true rfl) Peer.len (fun _ => rfl) rfl (by first | (simp only [maxLen, List.length_singleton]; omega) | (simp only [maxLen, List.length_append, List.length_map, List.length_take, List.length_singleton]; omega)) (by first | (simp only [maxLen, List.length_singleton]; omega) | (simp only [maxLen, List.length_append, List.length_map, List.length_take, List.length_singleton]; omega)) fun X35 => ?_
         refine RW.assignMove rfl rfl rfl (by decide) (Nat.le_of_ble_eq_true rfl) (Nat.le_of_ble_eq_true rfl) ?_
         refine RW.nil ?_
         refine CW.le [(3, .obj b1 ((Node.c n).map .r)), (6, .obj b2 [I 0, I 0, I 0, I 0, I 0, .r (.v (.slice none 0 0)), I 0, I 0, .r (.v (.slice none 0 0)), I 0, I 0, I 0, .r (.v (.slice none 0 0)), .r (.v (.slice none 0 0))]), (10, I ((logLast n.log).1)), (13, .obj b20 [I n.id, I n.term_, I n.vote, I n.role, I n.lead, .w (sl 1 cI n.conf) (g19 0 5), I n.log.start, I n.log.startTerm, .w (sl 3 Entry.c (n.log.entries ++ ([(⟨n.term_, kind, data⟩ : Entry)]))) X22, I n.commit, I n.clock, I n.limit, .w (sl 1 cI n.votes) (g19 0 12), .w (sl 4 Peer.c n.peers) (g19 0 13)]), (14, .w (sl 4 Peer.c (((L26.take i).map (pickP n)) ++ ([eq_]))) X35), (80, .w (sl 1 cI L26) (go25_4_1 0 0)), (81, I (L26.length : Int)), (82, I (i : Int))] rfl (Le.of rfl) ?_
         refine CW.region ?_
         refine RW.v rfl (V.inc rfl rfl rfl hii hl0) ?_
         refine RW.v rfl (V.mv (d := I ((i + 1 : Nat) : Int)) rfl rfl) ?_
         refine RW.nil ?_
         exact ⟨(i + 1, _), by show L26.length - (i + 1) < L26.length - i; omega, (by omega), rfl, Le.c rfl <| Le.c rfl <| Le.c rfl <| Le.c rfl <| Le.c (Dw_congr (by rw [take_snoc hei, List.map_append]; simp only [List.map_cons, List.map_nil, pickP, hfd])) <| Le.c rfl <| Le.c rfl <| Le.c rfl <| Le.e⟩
       ·skip
        have hii : L26.length ≤ i := by have := h28; simp at this; first | exact this | omega | (simp; done) | (simp; omega)
        have hdi : L26.drop i = [] := List.drop_eq_nil_of_le hii
        have hLe : ((L26.take i).map (pickP n)) = newPeers n (confN (outP n kind data)) := by rw [List.take_of_length_le hii, hn27]; rfl
        have hLO := prop_ok2 (k := kind) (d := data) hl hok hr60 hd hps
        rw [← hLe] at hLO
        refine CW.exit ?_
        refine CW.le [(6, .obj b2 [I 0, I 0, I 0, I 0, I 0, .r (.v (.slice none 0 0)), I 0, I 0, .r (.v (.slice none 0 0)), I 0, I 0, I 0, .r (.v (.slice none 0 0)), .r (.v (.slice none 0 0))]), (10, I ((logLast n.log).1)), (13, .obj b20 [I n.id, I n.term_, I n.vote, I n.role, I n.lead, .w (sl 1 cI n.conf) (g19 0 5), I n.log.start, I n.log.startTerm, .w (sl 3 Entry.c (n.log.entries ++ ([(⟨n.term_, kind, data⟩ : Entry)]))) X22, I n.commit, I n.clock, I n.limit, .w (sl 1 cI n.votes) (g19 0 12), .w (sl 4 Peer.c n.peers) (g19 0 13)]), (14, .w (sl 4 Peer.c ((L26.take i).map (pickP n))) X)] rfl (Le.of rfl) ?_
        refine CW.region ?_
        refine RW.v rfl (V.mv (d := .al 14 none 4 (((L26.take i).map (pickP n)).length) X 0) rfl rfl) ?_
        refine RW.v rfl (V.field rfl rfl rfl rfl (by decide) rfl) ?_
        refine RW.store (d := .al 14 none 4 (((L26.take i).map (pickP n)).length) X 0) rfl rfl rfl rfl rfl rfl rfl (Nat.le_of_ble_eq_true rfl) rfl rfl ?_
        refine RW.le [(6, .obj b2 [I 0, I 0, I 0, I 0, I 0, .r (.v (.slice none 0 0)), I 0, I 0, .r (.v (.slice none 0 0)), I 0, I 0, I 0, .r (.v (.slice none 0 0)), .r (.v (.slice none 0 0))]), (10, I ((logLast n.log).1)), (13, .obj b20 [I n.id, I n.term_, I n.vote, I n.role, I n.lead, .w (sl 1 cI n.conf) (g19 0 5), I n.log.start, I n.log.startTerm, .w (sl 3 Entry.c (n.log.entries ++ ([(⟨n.term_, kind, data⟩ : Entry)]))) X22, I n.commit, I n.clock, I n.limit, .w (sl 1 cI n.votes) (g19 0 12), .al 14 none 4 (((L26.take i).map (pickP n)).length) X 0]), (14, .w (sl 4 Peer.c ((L26.take i).map (pickP n))) X)] rfl (Le.of rfl) ?_
        refine RW.pullT (k := 13) (l := 14) (j := 13) 13 14 13 rfl rfl rfl (by decide) rfl rfl rfl ?_
        refine RW.le [(6, .obj b2 [I 0, I 0, I 0, I 0, I 0, .r (.v (.slice none 0 0)), I 0, I 0, .r (.v (.slice none 0 0)), I 0, I 0, I 0, .r (.v (.slice none 0 0)), .r (.v (.slice none 0 0))]), (10, I ((logLast n.log).1)), (13, .obj b20 [I n.id, I n.term_, I n.vote, I n.role, I n.lead, .w (sl 1 cI n.conf) (g19 0 5), I n.log.start, I n.log.startTerm, .w (sl 3 Entry.c (n.log.entries ++ ([(⟨n.term_, kind, data⟩ : Entry)]))) X22, I n.commit, I n.clock, I n.limit, .w (sl 1 cI n.votes) (g19 0 12), .w (sl 4 Peer.c ((L26.take i).map (pickP n))) X])] rfl (Le.of rfl) ?_
        refine RW.nil ?_
        refine CW.le [(6, .obj b2 [I 0, I 0, I 0, I 0, I 0, .r (.v (.slice none 0 0)), I 0, I 0, .r (.v (.slice none 0 0)), I 0, I 0, I 0, .r (.v (.slice none 0 0)), .r (.v (.slice none 0 0))]), (10, I ((logLast n.log).1)), (13, .obj b20 [I n.id, I n.term_, I n.vote, I n.role, I n.lead, .w (sl 1 cI n.conf) (g19 0 5), I n.log.start, I n.log.startTerm, .w (sl 3 Entry.c (n.log.entries ++ ([(⟨n.term_, kind, data⟩ : Entry)]))) X22, I n.commit, I n.clock, I n.limit, .w (sl 1 cI n.votes) (g19 0 12), .w (sl 4 Peer.c ((L26.take i).map (pickP n))) X])] rfl (Le.of rfl) ?_
        refine CW.seq ?_
        refine CW.region ?_
        refine RW.callW (k := 13) (__impl_Node__commit_fn (⟨n.id, n.term_, n.vote, n.role, n.lead, n.conf, (⟨n.log.start, n.log.startTerm, (n.log.entries ++ ([(⟨n.term_, kind, data⟩ : Entry)]))⟩ : Log), n.commit, n.clock, n.limit, n.votes, ((L26.take i).map (pickP n))⟩ : Node) hLO.log hLO.ok htm) rfl rfl (Nat.le_of_ble_eq_true rfl) (by decide) (.here (AsW.ob (DT.v (DT.v (DT.v (DT.v (DT.v (DT.w (DT.v (DT.v (DT.w (DT.v (DT.v (DT.v (DT.w (DT.w DT.e)))))))))))))) rfl) (.nil)) rfl fun g36 q37 => ?_
        refine RW.nil ?_
        obtain ⟨m38, hn39⟩ : ∃ z : Node, z = commitN (⟨n.id, n.term_, n.vote, n.role, n.lead, n.conf, (⟨n.log.start, n.log.startTerm, (n.log.entries ++ ([(⟨n.term_, kind, data⟩ : Entry)]))⟩ : Log), n.commit, n.clock, n.limit, n.votes, ((L26.take i).map (pickP n))⟩ : Node) := ⟨_, rfl⟩
        have hSn : logB m38.log ∧ (∀ p ∈ m38.peers, peerB m38.log p) ∧ m38.conf.length ≤ 1048576 ∧ m38.peers.length ≤ 1048576 := by subst hn39; exact hLO.send
        refine CW.le [(6, .obj b2 [I 0, I 0, I 0, I 0, I 0, .r (.v (.slice none 0 0)), I 0, I 0, .r (.v (.slice none 0 0)), I 0, I 0, I 0, .r (.v (.slice none 0 0)), .r (.v (.slice none 0 0))]), (10, I ((logLast n.log).1)), (13, .obj b20 [I m38.id, I m38.term_, I m38.vote, I m38.role, I m38.lead, .w (sl 1 cI m38.conf) (q37 5), I ((m38.log).start), I ((m38.log).startTerm), .w (sl 3 Entry.c ((m38.log).entries)) (q37 8), I m38.commit, I m38.clock, I m38.limit, .w (sl 1 cI m38.votes) (q37 12), .w (sl 4 Peer.c m38.peers) (q37 13)])] rfl (Le.c rfl <| Le.c rfl <| Le.c (by subst hn39; rfl) <| Le.e) ?_
        refine CW.le [(6, .obj b2 [I 0, I 0, I 0, I 0, I 0, .r (.v (.slice none 0 0)), I 0, I 0, .r (.v (.slice none 0 0)), I 0, I 0, I 0, .r (.v (.slice none 0 0)), .r (.v (.slice none 0 0))]), (10, I ((logLast n.log).1)), (13, .obj b20 [I m38.id, I m38.term_, I m38.vote, I m38.role, I m38.lead, .w (sl 1 cI m38.conf) (q37 5), I ((m38.log).start), I ((m38.log).startTerm), .w (sl 3 Entry.c ((m38.log).entries)) (q37 8), I m38.commit, I m38.clock, I m38.limit, .w (sl 1 cI m38.votes) (q37 12), .w (sl 4 Peer.c m38.peers) (q37 13)])] rfl (Le.of rfl) ?_
        refine CW.anyJ (fc := []) 115 (fun (go40_1_1 : (Nat → Nat → Value)) => [(6, .obj b2 [I m38.id, I m38.term_, I m38.vote, I m38.role, I m38.lead, .w (sl 1 cI m38.conf) (q37 5), I ((m38.log).start), I ((m38.log).startTerm), .w (sl 3 Entry.c ((m38.log).entries)) (q37 8), I m38.commit, I m38.clock, I m38.limit, .w (sl 1 cI m38.votes) (q37 12), .w (sl 4 Peer.c m38.peers) (q37 13)]), (7, .w (sl 12 Message.c ((⟨m38.id, m38.term_, m38.vote, m38.role, m38.lead, m38.conf, (m38.log), m38.commit, m38.clock, m38.limit, m38.votes, m38.peers⟩ : Node).peers.map (sendN (⟨m38.id, m38.term_, m38.vote, m38.role, m38.lead, m38.conf, (m38.log), m38.commit, m38.clock, m38.limit, m38.votes, m38.peers⟩ : Node)))) (go40_1_1 0 0)), (8, I (IntKind.i64.wrap (((logLast n.log).1) + 1))), (9, Bo true)]) (fun all hall K hK => ?_) ?_
        ·skip
         have ro40_11111111 : ∀ (go40_1_1 : Nat → Nat → Value), RA [] E B all 0 #[true, true, true, true, true, true, true, true] ⟨115, [(6, .obj b2 [I m38.id, I m38.term_, I m38.vote, I m38.role, I m38.lead, .w (sl 1 cI m38.conf) (q37 5), I ((m38.log).start), I ((m38.log).startTerm), .w (sl 3 Entry.c ((m38.log).entries)) (q37 8), I m38.commit, I m38.clock, I m38.limit, .w (sl 1 cI m38.votes) (q37 12), .w (sl 4 Peer.c m38.peers) (q37 13)]), (7, .w (sl 12 Message.c ((⟨m38.id, m38.term_, m38.vote, m38.role, m38.lead, m38.conf, (m38.log), m38.commit, m38.clock, m38.limit, m38.votes, m38.peers⟩ : Node).peers.map (sendN (⟨m38.id, m38.term_, m38.vote, m38.role, m38.lead, m38.conf, (m38.log), m38.commit, m38.clock, m38.limit, m38.votes, m38.peers⟩ : Node)))) (go40_1_1 0 0)), (8, I (IntKind.i64.wrap (((logLast n.log).1) + 1))), (9, Bo true)]⟩ K := by
          intro go40_1_1
          exact RA.of hall (RA.finH Tell.e (by kernel_rfl) (hK go40_1_1 _ rfl (Le.of rfl)))
         have ro40_11111000 : ∀ (go40_1_1 : Nat → Nat → Value), RA [] E B all 3 #[true, true, true, true, true, false, false, false] ⟨115, [(6, .obj b2 [I m38.id, I m38.term_, I m38.vote, I m38.role, I m38.lead, .w (sl 1 cI m38.conf) (q37 5), I ((m38.log).start), I ((m38.log).startTerm), .w (sl 3 Entry.c ((m38.log).entries)) (q37 8), I m38.commit, I m38.clock, I m38.limit, .w (sl 1 cI m38.votes) (q37 12), .w (sl 4 Peer.c m38.peers) (q37 13)]), (112, .w (sl 12 Message.c ((⟨m38.id, m38.term_, m38.vote, m38.role, m38.lead, m38.conf, (m38.log), m38.commit, m38.clock, m38.limit, m38.votes, m38.peers⟩ : Node).peers.map (sendN (⟨m38.id, m38.term_, m38.vote, m38.role, m38.lead, m38.conf, (m38.log), m38.commit, m38.clock, m38.limit, m38.votes, m38.peers⟩ : Node)))) (go40_1_1 0 0)), (114, I (IntKind.i64.wrap (((logLast n.log).1) + 1)))]⟩ K := by
          intro go40_1_1
          refine RA.of hall (RA.stepH (L := [5]) Tell.e (by kernel_rfl) (by simp) (RA.each ?_ (RA.each0)))
          ·skip
           refine RO.assignMove rfl rfl rfl rfl rfl (by decide) (Nat.le_of_ble_eq_true rfl) (Nat.le_of_ble_eq_true rfl) ?_
           refine RA.first (i := 6) (ls' := #[true, true, true, true, true, true, true, false]) Tell.e (by kernel_rfl) rfl rfl rfl (VF.p (V.as (d := I (IntKind.i64.wrap (((logLast n.log).1) + 1))) rfl rfl)) ?_
           refine RA.first (i := 7) (ls' := #[true, true, true, true, true, true, true, true]) Tell.e (by kernel_rfl) rfl rfl rfl (VF.p (V.as (d := Bo true) rfl rfl)) ?_
           exact RA.to hall (RA.lr (ro40_11111111 go40_1_1) rfl rfl)
         have ro40_11110000 : ∀ (go40_1_1 : Nat → Nat → Value), RA [] E B all 4 #[true, true, true, true, false, false, false, false] ⟨115, [(6, .obj b2 [I 0, I 0, I 0, I 0, I 0, .r (.v (.slice none 0 0)), I 0, I 0, .r (.v (.slice none 0 0)), I 0, I 0, I 0, .r (.v (.slice none 0 0)), .r (.v (.slice none 0 0))]), (13, .obj b20 [I m38.id, I m38.term_, I m38.vote, I m38.role, I m38.lead, .w (sl 1 cI m38.conf) (q37 5), I ((m38.log).start), I ((m38.log).startTerm), .w (sl 3 Entry.c ((m38.log).entries)) (q37 8), I m38.commit, I m38.clock, I m38.limit, .w (sl 1 cI m38.votes) (q37 12), .w (sl 4 Peer.c m38.peers) (q37 13)]), (111, .agg [I m38.id, I m38.term_, I m38.vote, I m38.role, I m38.lead, .al 13 (some 5) 1 m38.conf.length (q37 5) 0, I ((m38.log).start), I ((m38.log).startTerm), .al 13 (some 8) 3 (((m38.log).entries).length) (q37 8) 0, I m38.commit, I m38.clock, I m38.limit, .al 13 (some 12) 1 m38.votes.length (q37 12) 0, .al 13 (some 13) 4 m38.peers.length (q37 13) 0]), (112, .w (sl 12 Message.c ((⟨m38.id, m38.term_, m38.vote, m38.role, m38.lead, m38.conf, (m38.log), m38.commit, m38.clock, m38.limit, m38.votes, m38.peers⟩ : Node).peers.map (sendN (⟨m38.id, m38.term_, m38.vote, m38.role, m38.lead, m38.conf, (m38.log), m38.commit, m38.clock, m38.limit, m38.votes, m38.peers⟩ : Node)))) (go40_1_1 0 0)), (114, I (IntKind.i64.wrap (((logLast n.log).1) + 1)))]⟩ K := by
          intro go40_1_1
          refine RA.of hall (RA.stepH (L := [4]) Tell.e (by kernel_rfl) (by simp) (RA.each ?_ (RA.each0)))
          ·skip
           refine RO.storeAgg (es := [I m38.id, I m38.term_, I m38.vote, I m38.role, I m38.lead, .al 13 (some 5) 1 m38.conf.length (q37 5) 0, I ((m38.log).start), I ((m38.log).startTerm), .al 13 (some 8) 3 (((m38.log).entries).length) (q37 8) 0, I m38.commit, I m38.clock, I m38.limit, .al 13 (some 12) 1 m38.votes.length (q37 12) 0, .al 13 (some 13) 4 m38.peers.length (q37 13) 0]) rfl rfl rfl rfl rfl rfl rfl rfl rfl rfl (Nat.le_of_ble_eq_true rfl) rfl ?_
           refine RA.le [(6, .obj b2 [I m38.id, I m38.term_, I m38.vote, I m38.role, I m38.lead, .al 13 (some 5) 1 m38.conf.length (q37 5) 0, I ((m38.log).start), I ((m38.log).startTerm), .al 13 (some 8) 3 (((m38.log).entries).length) (q37 8) 0, I m38.commit, I m38.clock, I m38.limit, .al 13 (some 12) 1 m38.votes.length (q37 12) 0, .al 13 (some 13) 4 m38.peers.length (q37 13) 0]), (13, .obj b20 [I m38.id, I m38.term_, I m38.vote, I m38.role, I m38.lead, .w (sl 1 cI m38.conf) (q37 5), I ((m38.log).start), I ((m38.log).startTerm), .w (sl 3 Entry.c ((m38.log).entries)) (q37 8), I m38.commit, I m38.clock, I m38.limit, .w (sl 1 cI m38.votes) (q37 12), .w (sl 4 Peer.c m38.peers) (q37 13)]), (112, .w (sl 12 Message.c ((⟨m38.id, m38.term_, m38.vote, m38.role, m38.lead, m38.conf, (m38.log), m38.commit, m38.clock, m38.limit, m38.votes, m38.peers⟩ : Node).peers.map (sendN (⟨m38.id, m38.term_, m38.vote, m38.role, m38.lead, m38.conf, (m38.log), m38.commit, m38.clock, m38.limit, m38.votes, m38.peers⟩ : Node)))) (go40_1_1 0 0)), (114, I (IntKind.i64.wrap (((logLast n.log).1) + 1)))] rfl (Le.of rfl) ?_
           refine RA.pullO (k := 6) (l := 13) (j := 5) 6 13 5 rfl rfl rfl (by decide) rfl rfl rfl rfl ?_
           refine RA.le [(6, .obj b2 [I m38.id, I m38.term_, I m38.vote, I m38.role, I m38.lead, .w (sl 1 cI m38.conf) (q37 5), I ((m38.log).start), I ((m38.log).startTerm), .al 13 (some 8) 3 (((m38.log).entries).length) (q37 8) 0, I m38.commit, I m38.clock, I m38.limit, .al 13 (some 12) 1 m38.votes.length (q37 12) 0, .al 13 (some 13) 4 m38.peers.length (q37 13) 0]), (13, .obj b20 [I m38.id, I m38.term_, I m38.vote, I m38.role, I m38.lead, .u, I ((m38.log).start), I ((m38.log).startTerm), .w (sl 3 Entry.c ((m38.log).entries)) (q37 8), I m38.commit, I m38.clock, I m38.limit, .w (sl 1 cI m38.votes) (q37 12), .w (sl 4 Peer.c m38.peers) (q37 13)]), (112, .w (sl 12 Message.c ((⟨m38.id, m38.term_, m38.vote, m38.role, m38.lead, m38.conf, (m38.log), m38.commit, m38.clock, m38.limit, m38.votes, m38.peers⟩ : Node).peers.map (sendN (⟨m38.id, m38.term_, m38.vote, m38.role, m38.lead, m38.conf, (m38.log), m38.commit, m38.clock, m38.limit, m38.votes, m38.peers⟩ : Node)))) (go40_1_1 0 0)), (114, I (IntKind.i64.wrap (((logLast n.log).1) + 1)))] rfl (Le.of rfl) ?_
           refine RA.pullO (k := 6) (l := 13) (j := 8) 6 13 8 rfl rfl rfl (by decide) rfl rfl rfl rfl ?_
           refine RA.le [(6, .obj b2 [I m38.id, I m38.term_, I m38.vote, I m38.role, I m38.lead, .w (sl 1 cI m38.conf) (q37 5), I ((m38.log).start), I ((m38.log).startTerm), .w (sl 3 Entry.c ((m38.log).entries)) (q37 8), I m38.commit, I m38.clock, I m38.limit, .al 13 (some 12) 1 m38.votes.length (q37 12) 0, .al 13 (some 13) 4 m38.peers.length (q37 13) 0]), (13, .obj b20 [I m38.id, I m38.term_, I m38.vote, I m38.role, I m38.lead, .u, I ((m38.log).start), I ((m38.log).startTerm), .u, I m38.commit, I m38.clock, I m38.limit, .w (sl 1 cI m38.votes) (q37 12), .w (sl 4 Peer.c m38.peers) (q37 13)]), (112, .w (sl 12 Message.c ((⟨m38.id, m38.term_, m38.vote, m38.role, m38.lead, m38.conf, (m38.log), m38.commit, m38.clock, m38.limit, m38.votes, m38.peers⟩ : Node).peers.map (sendN (⟨m38.id, m38.term_, m38.vote, m38.role, m38.lead, m38.conf, (m38.log), m38.commit, m38.clock, m38.limit, m38.votes, m38.peers⟩ : Node)))) (go40_1_1 0 0)), (114, I (IntKind.i64.wrap (((logLast n.log).1) + 1)))] rfl (Le.of rfl) ?_
           refine RA.pullO (k := 6) (l := 13) (j := 12) 6 13 12 rfl rfl rfl (by decide) rfl rfl rfl rfl ?_
           refine RA.le [(6, .obj b2 [I m38.id, I m38.term_, I m38.vote, I m38.role, I m38.lead, .w (sl 1 cI m38.conf) (q37 5), I ((m38.log).start), I ((m38.log).startTerm), .w (sl 3 Entry.c ((m38.log).entries)) (q37 8), I m38.commit, I m38.clock, I m38.limit, .w (sl 1 cI m38.votes) (q37 12), .al 13 (some 13) 4 m38.peers.length (q37 13) 0]), (13, .obj b20 [I m38.id, I m38.term_, I m38.vote, I m38.role, I m38.lead, .u, I ((m38.log).start), I ((m38.log).startTerm), .u, I m38.commit, I m38.clock, I m38.limit, .u, .w (sl 4 Peer.c m38.peers) (q37 13)]), (112, .w (sl 12 Message.c ((⟨m38.id, m38.term_, m38.vote, m38.role, m38.lead, m38.conf, (m38.log), m38.commit, m38.clock, m38.limit, m38.votes, m38.peers⟩ : Node).peers.map (sendN (⟨m38.id, m38.term_, m38.vote, m38.role, m38.lead, m38.conf, (m38.log), m38.commit, m38.clock, m38.limit, m38.votes, m38.peers⟩ : Node)))) (go40_1_1 0 0)), (114, I (IntKind.i64.wrap (((logLast n.log).1) + 1)))] rfl (Le.of rfl) ?_
           refine RA.pullO (k := 6) (l := 13) (j := 13) 6 13 13 rfl rfl rfl (by decide) rfl rfl rfl rfl ?_
           refine RA.le [(6, .obj b2 [I m38.id, I m38.term_, I m38.vote, I m38.role, I m38.lead, .w (sl 1 cI m38.conf) (q37 5), I ((m38.log).start), I ((m38.log).startTerm), .w (sl 3 Entry.c ((m38.log).entries)) (q37 8), I m38.commit, I m38.clock, I m38.limit, .w (sl 1 cI m38.votes) (q37 12), .w (sl 4 Peer.c m38.peers) (q37 13)]), (112, .w (sl 12 Message.c ((⟨m38.id, m38.term_, m38.vote, m38.role, m38.lead, m38.conf, (m38.log), m38.commit, m38.clock, m38.limit, m38.votes, m38.peers⟩ : Node).peers.map (sendN (⟨m38.id, m38.term_, m38.vote, m38.role, m38.lead, m38.conf, (m38.log), m38.commit, m38.clock, m38.limit, m38.votes, m38.peers⟩ : Node)))) (go40_1_1 0 0)), (114, I (IntKind.i64.wrap (((logLast n.log).1) + 1)))] rfl (Le.of rfl) ?_
           exact RA.to hall (RA.lr (ro40_11111000 go40_1_1) rfl rfl)
         have ro40_01110000 : ∀ (go40_1_1 : Nat → Nat → Value), RA [] E B all 5 #[false, true, true, true, false, false, false, false] ⟨115, [(6, .obj b2 [I 0, I 0, I 0, I 0, I 0, .r (.v (.slice none 0 0)), I 0, I 0, .r (.v (.slice none 0 0)), I 0, I 0, I 0, .r (.v (.slice none 0 0)), .r (.v (.slice none 0 0))]), (13, .obj b20 [I m38.id, I m38.term_, I m38.vote, I m38.role, I m38.lead, .w (sl 1 cI m38.conf) (q37 5), I ((m38.log).start), I ((m38.log).startTerm), .w (sl 3 Entry.c ((m38.log).entries)) (q37 8), I m38.commit, I m38.clock, I m38.limit, .w (sl 1 cI m38.votes) (q37 12), .w (sl 4 Peer.c m38.peers) (q37 13)]), (112, .w (sl 12 Message.c ((⟨m38.id, m38.term_, m38.vote, m38.role, m38.lead, m38.conf, (m38.log), m38.commit, m38.clock, m38.limit, m38.votes, m38.peers⟩ : Node).peers.map (sendN (⟨m38.id, m38.term_, m38.vote, m38.role, m38.lead, m38.conf, (m38.log), m38.commit, m38.clock, m38.limit, m38.votes, m38.peers⟩ : Node)))) (go40_1_1 0 0)), (114, I (IntKind.i64.wrap (((logLast n.log).1) + 1)))]⟩ K := by
          intro go40_1_1
          refine RA.of hall (RA.stepH (L := [0]) Tell.e (by kernel_rfl) (by simp) (RA.each ?_ (RA.each0)))
          ·skip
           refine RO.v rfl rfl (V.loadAgg rfl rfl rfl rfl rfl (Nat.le_of_ble_eq_true rfl)) rfl ?_
           exact RA.to hall (RA.lr (ro40_11110000 go40_1_1) rfl rfl)
         have ro40_10110000 : RA [] E B all 5 #[true, false, true, true, false, false, false, false] ⟨115, [(6, .obj b2 [I 0, I 0, I 0, I 0, I 0, .r (.v (.slice none 0 0)), I 0, I 0, .r (.v (.slice none 0 0)), I 0, I 0, I 0, .r (.v (.slice none 0 0)), .r (.v (.slice none 0 0))]), (13, .obj b20 [I m38.id, I m38.term_, I m38.vote, I m38.role, I m38.lead, .w (sl 1 cI m38.conf) (q37 5), I ((m38.log).start), I ((m38.log).startTerm), .w (sl 3 Entry.c ((m38.log).entries)) (q37 8), I m38.commit, I m38.clock, I m38.limit, .w (sl 1 cI m38.votes) (q37 12), .w (sl 4 Peer.c m38.peers) (q37 13)]), (111, .agg [I m38.id, I m38.term_, I m38.vote, I m38.role, I m38.lead, .al 13 (some 5) 1 m38.conf.length (q37 5) 0, I ((m38.log).start), I ((m38.log).startTerm), .al 13 (some 8) 3 (((m38.log).entries).length) (q37 8) 0, I m38.commit, I m38.clock, I m38.limit, .al 13 (some 12) 1 m38.votes.length (q37 12) 0, .al 13 (some 13) 4 m38.peers.length (q37 13) 0]), (114, I (IntKind.i64.wrap (((logLast n.log).1) + 1)))]⟩ K := by
          refine RA.of hall (RA.stepH (L := [1]) Tell.e (by kernel_rfl) (by simp) (RA.each ?_ (RA.each0)))
          ·skip
           refine RO.callOwn rfl rfl (__impl_Node__sendAll_fn (⟨m38.id, m38.term_, m38.vote, m38.role, m38.lead, m38.conf, (m38.log), m38.commit, m38.clock, m38.limit, m38.votes, m38.peers⟩ : Node) hSn.1 hSn.2.1 hSn.2.2.1 hSn.2.2.2) rfl (.cons (.one (.r (.pt rfl rfl (DRd.r (DRd.r (DRd.r (DRd.r (DRd.r (DRd.ow (DRd.r (DRd.r (DRd.ow (DRd.r (DRd.r (DRd.r (DRd.ow (DRd.ow DRd.e)))))))))))))) nofun))) (.nil)) rfl rfl fun go40_1_1 => ?_
           exact RA.to hall (RA.lr (ro40_11110000 go40_1_1) rfl rfl)
         have ro40_00110000 : RA [] E B all 6 #[false, false, true, true, false, false, false, false] ⟨115, [(6, .obj b2 [I 0, I 0, I 0, I 0, I 0, .r (.v (.slice none 0 0)), I 0, I 0, .r (.v (.slice none 0 0)), I 0, I 0, I 0, .r (.v (.slice none 0 0)), .r (.v (.slice none 0 0))]), (13, .obj b20 [I m38.id, I m38.term_, I m38.vote, I m38.role, I m38.lead, .w (sl 1 cI m38.conf) (q37 5), I ((m38.log).start), I ((m38.log).startTerm), .w (sl 3 Entry.c ((m38.log).entries)) (q37 8), I m38.commit, I m38.clock, I m38.limit, .w (sl 1 cI m38.votes) (q37 12), .w (sl 4 Peer.c m38.peers) (q37 13)]), (114, I (IntKind.i64.wrap (((logLast n.log).1) + 1)))]⟩ K := by
          refine RA.of hall (RA.stepH (L := [0, 1]) Tell.e (by kernel_rfl) (by simp) (RA.each ?_ (RA.each ?_ (RA.each0))))
          ·skip
           refine RO.v rfl rfl (V.loadAgg rfl rfl rfl rfl rfl (Nat.le_of_ble_eq_true rfl)) rfl ?_
           exact RA.to hall (RA.lr ro40_10110000 rfl rfl)
          ·skip
           refine RO.callOwn rfl rfl (__impl_Node__sendAll_fn (⟨m38.id, m38.term_, m38.vote, m38.role, m38.lead, m38.conf, (m38.log), m38.commit, m38.clock, m38.limit, m38.votes, m38.peers⟩ : Node) hSn.1 hSn.2.1 hSn.2.2.1 hSn.2.2.2) rfl (.cons (.one (.r (.pt rfl rfl (DRd.r (DRd.r (DRd.r (DRd.r (DRd.r (DRd.ow (DRd.r (DRd.r (DRd.ow (DRd.r (DRd.r (DRd.r (DRd.ow (DRd.ow DRd.e)))))))))))))) nofun))) (.nil)) rfl rfl fun go40_1_1 => ?_
           exact RA.to hall (RA.lr (ro40_01110000 go40_1_1) rfl rfl)
         have ro40_S : RA [] E B all 8 #[false, false, false, false, false, false, false, false] ⟨115, [(6, .obj b2 [I 0, I 0, I 0, I 0, I 0, .r (.v (.slice none 0 0)), I 0, I 0, .r (.v (.slice none 0 0)), I 0, I 0, I 0, .r (.v (.slice none 0 0)), .r (.v (.slice none 0 0))]), (10, I ((logLast n.log).1)), (13, .obj b20 [I m38.id, I m38.term_, I m38.vote, I m38.role, I m38.lead, .w (sl 1 cI m38.conf) (q37 5), I ((m38.log).start), I ((m38.log).startTerm), .w (sl 3 Entry.c ((m38.log).entries)) (q37 8), I m38.commit, I m38.clock, I m38.limit, .w (sl 1 cI m38.votes) (q37 12), .w (sl 4 Peer.c m38.peers) (q37 13)])]⟩ K := by
          refine RA.of hall ?_
          refine RA.first (i := 2) (ls' := #[false, false, true, false, false, false, false, false]) Tell.e (by kernel_rfl) rfl rfl rfl (VF.p (V.mv (d := I ((logLast n.log).1)) rfl rfl)) ?_
          refine RA.first (i := 3) (ls' := #[false, false, true, true, false, false, false, false]) Tell.e (by kernel_rfl) rfl rfl rfl (VF.p (V.arInt rfl rfl rfl rfl)) ?_
          exact RA.to hall (RA.lr ro40_00110000 rfl rfl)
         exact RA.start (by kernel_rfl) (by kernel_rfl) (RA.lr ro40_S rfl rfl)
        ·rintro go40_1_1
         refine CW.ret ?_
         exact Post.tup (by decide) (RVs.c (RV.c (f := fun e => (Node.c e).map .w) (e' := (⟨m38.id, m38.term_, m38.vote, m38.role, m38.lead, m38.conf, (m38.log), m38.commit, m38.clock, m38.limit, m38.votes, m38.peers⟩ : Node)) rfl rfl rfl rfl (DT.v (DT.v (DT.v (DT.v (DT.v (DT.w (DT.v (DT.v (DT.w (DT.v (DT.v (DT.v (DT.w (DT.w DT.e)))))))))))))) (by subst hn39; first | (rw [prop_yes hgd hyes, propS_conf h23, ← hLe]; done) | (rw [prop_yes hgd hyes, propS_conf h23, ← hLe]; rfl))) (RVs.c (RV.w rfl (by subst hn39; first | (rw [prop_yes hgd hyes, propS_conf h23, ← hLe]; done) | (rw [prop_yes hgd hyes, propS_conf h23, ← hLe]; rfl))) (RVs.c (RV.i rfl (by subst hn39; first | (rw [prop_yes hgd hyes, propS_conf h23, ← hLe]; done) | (rw [prop_yes hgd hyes, propS_conf h23, ← hLe]; rfl))) (RVs.c (RV.b rfl (by subst hn39; first | (rw [prop_yes hgd hyes, propS_conf h23, ← hLe]; done) | (rw [prop_yes hgd hyes, propS_conf h23, ← hLe]; rfl))) RVs.e)))) (AOs.a rfl (AOs.r (AOs.r AOs.e)))
     ·skip
      have hLO := prop_ok1 (k := kind) (d := data) hl hok hr60 hd hps
      refine CW.skip ?_
      refine CW.le [(6, .obj b2 [I 0, I 0, I 0, I 0, I 0, .r (.v (.slice none 0 0)), I 0, I 0, .r (.v (.slice none 0 0)), I 0, I 0, I 0, .r (.v (.slice none 0 0)), .r (.v (.slice none 0 0))]), (10, I ((logLast n.log).1)), (13, .obj b20 [I n.id, I n.term_, I n.vote, I n.role, I n.lead, .w (sl 1 cI n.conf) (g19 0 5), I n.log.start, I n.log.startTerm, .w (sl 3 Entry.c (n.log.entries ++ ([(⟨n.term_, kind, data⟩ : Entry)]))) X22, I n.commit, I n.clock, I n.limit, .w (sl 1 cI n.votes) (g19 0 12), .w (sl 4 Peer.c n.peers) (g19 0 13)])] rfl (Le.of rfl) ?_
      refine CW.seq ?_
      refine CW.region ?_
      refine RW.callW (k := 13) (__impl_Node__commit_fn (⟨n.id, n.term_, n.vote, n.role, n.lead, n.conf, (⟨n.log.start, n.log.startTerm, (n.log.entries ++ ([(⟨n.term_, kind, data⟩ : Entry)]))⟩ : Log), n.commit, n.clock, n.limit, n.votes, n.peers⟩ : Node) hLO.log hLO.ok htm) rfl rfl (Nat.le_of_ble_eq_true rfl) (by decide) (.here (AsW.ob (DT.v (DT.v (DT.v (DT.v (DT.v (DT.w (DT.v (DT.v (DT.w (DT.v (DT.v (DT.v (DT.w (DT.w DT.e)))))))))))))) rfl) (.nil)) rfl fun g41 q42 => ?_
      refine RW.nil ?_
      obtain ⟨m43, hn44⟩ : ∃ z : Node, z = commitN (⟨n.id, n.term_, n.vote, n.role, n.lead, n.conf, (⟨n.log.start, n.log.startTerm, (n.log.entries ++ ([(⟨n.term_, kind, data⟩ : Entry)]))⟩ : Log), n.commit, n.clock, n.limit, n.votes, n.peers⟩ : Node) := ⟨_, rfl⟩
      have hSn : logB m43.log ∧ (∀ p ∈ m43.peers, peerB m43.log p) ∧ m43.conf.length ≤ 1048576 ∧ m43.peers.length ≤ 1048576 := by subst hn44; exact hLO.send
      refine CW.le [(6, .obj b2 [I 0, I 0, I 0, I 0, I 0, .r (.v (.slice none 0 0)), I 0, I 0, .r (.v (.slice none 0 0)), I 0, I 0, I 0, .r (.v (.slice none 0 0)), .r (.v (.slice none 0 0))]), (10, I ((logLast n.log).1)), (13, .obj b20 [I m43.id, I m43.term_, I m43.vote, I m43.role, I m43.lead, .w (sl 1 cI m43.conf) (q42 5), I ((m43.log).start), I ((m43.log).startTerm), .w (sl 3 Entry.c ((m43.log).entries)) (q42 8), I m43.commit, I m43.clock, I m43.limit, .w (sl 1 cI m43.votes) (q42 12), .w (sl 4 Peer.c m43.peers) (q42 13)])] rfl (Le.c rfl <| Le.c rfl <| Le.c (by subst hn44; rfl) <| Le.e) ?_
      refine CW.le [(6, .obj b2 [I 0, I 0, I 0, I 0, I 0, .r (.v (.slice none 0 0)), I 0, I 0, .r (.v (.slice none 0 0)), I 0, I 0, I 0, .r (.v (.slice none 0 0)), .r (.v (.slice none 0 0))]), (10, I ((logLast n.log).1)), (13, .obj b20 [I m43.id, I m43.term_, I m43.vote, I m43.role, I m43.lead, .w (sl 1 cI m43.conf) (q42 5), I ((m43.log).start), I ((m43.log).startTerm), .w (sl 3 Entry.c ((m43.log).entries)) (q42 8), I m43.commit, I m43.clock, I m43.limit, .w (sl 1 cI m43.votes) (q42 12), .w (sl 4 Peer.c m43.peers) (q42 13)])] rfl (Le.of rfl) ?_
      refine CW.anyJ (fc := []) 115 (fun (go45_1_1 : (Nat → Nat → Value)) => [(6, .obj b2 [I m43.id, I m43.term_, I m43.vote, I m43.role, I m43.lead, .w (sl 1 cI m43.conf) (q42 5), I ((m43.log).start), I ((m43.log).startTerm), .w (sl 3 Entry.c ((m43.log).entries)) (q42 8), I m43.commit, I m43.clock, I m43.limit, .w (sl 1 cI m43.votes) (q42 12), .w (sl 4 Peer.c m43.peers) (q42 13)]), (7, .w (sl 12 Message.c ((⟨m43.id, m43.term_, m43.vote, m43.role, m43.lead, m43.conf, (m43.log), m43.commit, m43.clock, m43.limit, m43.votes, m43.peers⟩ : Node).peers.map (sendN (⟨m43.id, m43.term_, m43.vote, m43.role, m43.lead, m43.conf, (m43.log), m43.commit, m43.clock, m43.limit, m43.votes, m43.peers⟩ : Node)))) (go45_1_1 0 0)), (8, I (IntKind.i64.wrap (((logLast n.log).1) + 1))), (9, Bo true)]) (fun all hall K hK => ?_) ?_
      ·skip
       have ro45_11111111 : ∀ (go45_1_1 : Nat → Nat → Value), RA [] E B all 0 #[true, true, true, true, true, true, true, true] ⟨115, [(6, .obj b2 [I m43.id, I m43.term_, I m43.vote, I m43.role, I m43.lead, .w (sl 1 cI m43.conf) (q42 5), I ((m43.log).start), I ((m43.log).startTerm), .w (sl 3 Entry.c ((m43.log).entries)) (q42 8), I m43.commit, I m43.clock, I m43.limit, .w (sl 1 cI m43.votes) (q42 12), .w (sl 4 Peer.c m43.peers) (q42 13)]), (7, .w (sl 12 Message.c ((⟨m43.id, m43.term_, m43.vote, m43.role, m43.lead, m43.conf, (m43.log), m43.commit, m43.clock, m43.limit, m43.votes, m43.peers⟩ : Node).peers.map (sendN (⟨m43.id, m43.term_, m43.vote, m43.role, m43.lead, m43.conf, (m43.log), m43.commit, m43.clock, m43.limit, m43.votes, m43.peers⟩ : Node)))) (go45_1_1 0 0)), (8, I (IntKind.i64.wrap (((logLast n.log).1) + 1))), (9, Bo true)]⟩ K := by
        intro go45_1_1
        exact RA.of hall (RA.finH Tell.e (by kernel_rfl) (hK go45_1_1 _ rfl (Le.of rfl)))
       have ro45_11111000 : ∀ (go45_1_1 : Nat → Nat → Value), RA [] E B all 3 #[true, true, true, true, true, false, false, false] ⟨115, [(6, .obj b2 [I m43.id, I m43.term_, I m43.vote, I m43.role, I m43.lead, .w (sl 1 cI m43.conf) (q42 5), I ((m43.log).start), I ((m43.log).startTerm), .w (sl 3 Entry.c ((m43.log).entries)) (q42 8), I m43.commit, I m43.clock, I m43.limit, .w (sl 1 cI m43.votes) (q42 12), .w (sl 4 Peer.c m43.peers) (q42 13)]), (112, .w (sl 12 Message.c ((⟨m43.id, m43.term_, m43.vote, m43.role, m43.lead, m43.conf, (m43.log), m43.commit, m43.clock, m43.limit, m43.votes, m43.peers⟩ : Node).peers.map (sendN (⟨m43.id, m43.term_, m43.vote, m43.role, m43.lead, m43.conf, (m43.log), m43.commit, m43.clock, m43.limit, m43.votes, m43.peers⟩ : Node)))) (go45_1_1 0 0)), (114, I (IntKind.i64.wrap (((logLast n.log).1) + 1)))]⟩ K := by
        intro go45_1_1
        refine RA.of hall (RA.stepH (L := [5]) Tell.e (by kernel_rfl) (by simp) (RA.each ?_ (RA.each0)))
        ·skip
         refine RO.assignMove rfl rfl rfl rfl rfl (by decide) (Nat.le_of_ble_eq_true rfl) (Nat.le_of_ble_eq_true rfl) ?_
         refine RA.first (i := 6) (ls' := #[true, true, true, true, true, true, true, false]) Tell.e (by kernel_rfl) rfl rfl rfl (VF.p (V.as (d := I (IntKind.i64.wrap (((logLast n.log).1) + 1))) rfl rfl)) ?_
         refine RA.first (i := 7) (ls' := #[true, true, true, true, true, true, true, true]) Tell.e (by kernel_rfl) rfl rfl rfl (VF.p (V.as (d := Bo true) rfl rfl)) ?_
         exact RA.to hall (RA.lr (ro45_11111111 go45_1_1) rfl rfl)
       have ro45_11110000 : ∀ (go45_1_1 : Nat → Nat → Value), RA [] E B all 4 #[true, true, true, true, false, false, false, false] ⟨115, [(6, .obj b2 [I 0, I 0, I 0, I 0, I 0, .r (.v (.slice none 0 0)), I 0, I 0, .r (.v (.slice none 0 0)), I 0, I 0, I 0, .r (.v (.slice none 0 0)), .r (.v (.slice none 0 0))]), (13, .obj b20 [I m43.id, I m43.term_, I m43.vote, I m43.role, I m43.lead, .w (sl 1 cI m43.conf) (q42 5), I ((m43.log).start), I ((m43.log).startTerm), .w (sl 3 Entry.c ((m43.log).entries)) (q42 8), I m43.commit, I m43.clock, I m43.limit, .w (sl 1 cI m43.votes) (q42 12), .w (sl 4 Peer.c m43.peers) (q42 13)]), (111, .agg [I m43.id, I m43.term_, I m43.vote, I m43.role, I m43.lead, .al 13 (some 5) 1 m43.conf.length (q42 5) 0, I ((m43.log).start), I ((m43.log).startTerm), .al 13 (some 8) 3 (((m43.log).entries).length) (q42 8) 0, I m43.commit, I m43.clock, I m43.limit, .al 13 (some 12) 1 m43.votes.length (q42 12) 0, .al 13 (some 13) 4 m43.peers.length (q42 13) 0]), (112, .w (sl 12 Message.c ((⟨m43.id, m43.term_, m43.vote, m43.role, m43.lead, m43.conf, (m43.log), m43.commit, m43.clock, m43.limit, m43.votes, m43.peers⟩ : Node).peers.map (sendN (⟨m43.id, m43.term_, m43.vote, m43.role, m43.lead, m43.conf, (m43.log), m43.commit, m43.clock, m43.limit, m43.votes, m43.peers⟩ : Node)))) (go45_1_1 0 0)), (114, I (IntKind.i64.wrap (((logLast n.log).1) + 1)))]⟩ K := by
        intro go45_1_1
        refine RA.of hall (RA.stepH (L := [4]) Tell.e (by kernel_rfl) (by simp) (RA.each ?_ (RA.each0)))
        ·skip
         refine RO.storeAgg (es := [I m43.id, I m43.term_, I m43.vote, I m43.role, I m43.lead, .al 13 (some 5) 1 m43.conf.length (q42 5) 0, I ((m43.log).start), I ((m43.log).startTerm), .al 13 (some 8) 3 (((m43.log).entries).length) (q42 8) 0, I m43.commit, I m43.clock, I m43.limit, .al 13 (some 12) 1 m43.votes.length (q42 12) 0, .al 13 (some 13) 4 m43.peers.length (q42 13) 0]) rfl rfl rfl rfl rfl rfl rfl rfl rfl rfl (Nat.le_of_ble_eq_true rfl) rfl ?_
         refine RA.le [(6, .obj b2 [I m43.id, I m43.term_, I m43.vote, I m43.role, I m43.lead, .al 13 (some 5) 1 m43.conf.length (q42 5) 0, I ((m43.log).start), I ((m43.log).startTerm), .al 13 (some 8) 3 (((m43.log).entries).length) (q42 8) 0, I m43.commit, I m43.clock, I m43.limit, .al 13 (some 12) 1 m43.votes.length (q42 12) 0, .al 13 (some 13) 4 m43.peers.length (q42 13) 0]), (13, .obj b20 [I m43.id, I m43.term_, I m43.vote, I m43.role, I m43.lead, .w (sl 1 cI m43.conf) (q42 5), I ((m43.log).start), I ((m43.log).startTerm), .w (sl 3 Entry.c ((m43.log).entries)) (q42 8), I m43.commit, I m43.clock, I m43.limit, .w (sl 1 cI m43.votes) (q42 12), .w (sl 4 Peer.c m43.peers) (q42 13)]), (112, .w (sl 12 Message.c ((⟨m43.id, m43.term_, m43.vote, m43.role, m43.lead, m43.conf, (m43.log), m43.commit, m43.clock, m43.limit, m43.votes, m43.peers⟩ : Node).peers.map (sendN (⟨m43.id, m43.term_, m43.vote, m43.role, m43.lead, m43.conf, (m43.log), m43.commit, m43.clock, m43.limit, m43.votes, m43.peers⟩ : Node)))) (go45_1_1 0 0)), (114, I (IntKind.i64.wrap (((logLast n.log).1) + 1)))] rfl (Le.of rfl) ?_
         refine RA.pullO (k := 6) (l := 13) (j := 5) 6 13 5 rfl rfl rfl (by decide) rfl rfl rfl rfl ?_
         refine RA.le [(6, .obj b2 [I m43.id, I m43.term_, I m43.vote, I m43.role, I m43.lead, .w (sl 1 cI m43.conf) (q42 5), I ((m43.log).start), I ((m43.log).startTerm), .al 13 (some 8) 3 (((m43.log).entries).length) (q42 8) 0, I m43.commit, I m43.clock, I m43.limit, .al 13 (some 12) 1 m43.votes.length (q42 12) 0, .al 13 (some 13) 4 m43.peers.length (q42 13) 0]), (13, .obj b20 [I m43.id, I m43.term_, I m43.vote, I m43.role, I m43.lead, .u, I ((m43.log).start), I ((m43.log).startTerm), .w (sl 3 Entry.c ((m43.log).entries)) (q42 8), I m43.commit, I m43.clock, I m43.limit, .w (sl 1 cI m43.votes) (q42 12), .w (sl 4 Peer.c m43.peers) (q42 13)]), (112, .w (sl 12 Message.c ((⟨m43.id, m43.term_, m43.vote, m43.role, m43.lead, m43.conf, (m43.log), m43.commit, m43.clock, m43.limit, m43.votes, m43.peers⟩ : Node).peers.map (sendN (⟨m43.id, m43.term_, m43.vote, m43.role, m43.lead, m43.conf, (m43.log), m43.commit, m43.clock, m43.limit, m43.votes, m43.peers⟩ : Node)))) (go45_1_1 0 0)), (114, I (IntKind.i64.wrap (((logLast n.log).1) + 1)))] rfl (Le.of rfl) ?_
         refine RA.pullO (k := 6) (l := 13) (j := 8) 6 13 8 rfl rfl rfl (by decide) rfl rfl rfl rfl ?_
         refine RA.le [(6, .obj b2 [I m43.id, I m43.term_, I m43.vote, I m43.role, I m43.lead, .w (sl 1 cI m43.conf) (q42 5), I ((m43.log).start), I ((m43.log).startTerm), .w (sl 3 Entry.c ((m43.log).entries)) (q42 8), I m43.commit, I m43.clock, I m43.limit, .al 13 (some 12) 1 m43.votes.length (q42 12) 0, .al 13 (some 13) 4 m43.peers.length (q42 13) 0]), (13, .obj b20 [I m43.id, I m43.term_, I m43.vote, I m43.role, I m43.lead, .u, I ((m43.log).start), I ((m43.log).startTerm), .u, I m43.commit, I m43.clock, I m43.limit, .w (sl 1 cI m43.votes) (q42 12), .w (sl 4 Peer.c m43.peers) (q42 13)]), (112, .w (sl 12 Message.c ((⟨m43.id, m43.term_, m43.vote, m43.role, m43.lead, m43.conf, (m43.log), m43.commit, m43.clock, m43.limit, m43.votes, m43.peers⟩ : Node).peers.map (sendN (⟨m43.id, m43.term_, m43.vote, m43.role, m43.lead, m43.conf, (m43.log), m43.commit, m43.clock, m43.limit, m43.votes, m43.peers⟩ : Node)))) (go45_1_1 0 0)), (114, I (IntKind.i64.wrap (((logLast n.log).1) + 1)))] rfl (Le.of rfl) ?_
         refine RA.pullO (k := 6) (l := 13) (j := 12) 6 13 12 rfl rfl rfl (by decide) rfl rfl rfl rfl ?_
         refine RA.le [(6, .obj b2 [I m43.id, I m43.term_, I m43.vote, I m43.role, I m43.lead, .w (sl 1 cI m43.conf) (q42 5), I ((m43.log).start), I ((m43.log).startTerm), .w (sl 3 Entry.c ((m43.log).entries)) (q42 8), I m43.commit, I m43.clock, I m43.limit, .w (sl 1 cI m43.votes) (q42 12), .al 13 (some 13) 4 m43.peers.length (q42 13) 0]), (13, .obj b20 [I m43.id, I m43.term_, I m43.vote, I m43.role, I m43.lead, .u, I ((m43.log).start), I ((m43.log).startTerm), .u, I m43.commit, I m43.clock, I m43.limit, .u, .w (sl 4 Peer.c m43.peers) (q42 13)]), (112, .w (sl 12 Message.c ((⟨m43.id, m43.term_, m43.vote, m43.role, m43.lead, m43.conf, (m43.log), m43.commit, m43.clock, m43.limit, m43.votes, m43.peers⟩ : Node).peers.map (sendN (⟨m43.id, m43.term_, m43.vote, m43.role, m43.lead, m43.conf, (m43.log), m43.commit, m43.clock, m43.limit, m43.votes, m43.peers⟩ : Node)))) (go45_1_1 0 0)), (114, I (IntKind.i64.wrap (((logLast n.log).1) + 1)))] rfl (Le.of rfl) ?_
         refine RA.pullO (k := 6) (l := 13) (j := 13) 6 13 13 rfl rfl rfl (by decide) rfl rfl rfl rfl ?_
         refine RA.le [(6, .obj b2 [I m43.id, I m43.term_, I m43.vote, I m43.role, I m43.lead, .w (sl 1 cI m43.conf) (q42 5), I ((m43.log).start), I ((m43.log).startTerm), .w (sl 3 Entry.c ((m43.log).entries)) (q42 8), I m43.commit, I m43.clock, I m43.limit, .w (sl 1 cI m43.votes) (q42 12), .w (sl 4 Peer.c m43.peers) (q42 13)]), (112, .w (sl 12 Message.c ((⟨m43.id, m43.term_, m43.vote, m43.role, m43.lead, m43.conf, (m43.log), m43.commit, m43.clock, m43.limit, m43.votes, m43.peers⟩ : Node).peers.map (sendN (⟨m43.id, m43.term_, m43.vote, m43.role, m43.lead, m43.conf, (m43.log), m43.commit, m43.clock, m43.limit, m43.votes, m43.peers⟩ : Node)))) (go45_1_1 0 0)), (114, I (IntKind.i64.wrap (((logLast n.log).1) + 1)))] rfl (Le.of rfl) ?_
         exact RA.to hall (RA.lr (ro45_11111000 go45_1_1) rfl rfl)
       have ro45_01110000 : ∀ (go45_1_1 : Nat → Nat → Value), RA [] E B all 5 #[false, true, true, true, false, false, false, false] ⟨115, [(6, .obj b2 [I 0, I 0, I 0, I 0, I 0, .r (.v (.slice none 0 0)), I 0, I 0, .r (.v (.slice none 0 0)), I 0, I 0, I 0, .r (.v (.slice none 0 0)), .r (.v (.slice none 0 0))]), (13, .obj b20 [I m43.id, I m43.term_, I m43.vote, I m43.role, I m43.lead, .w (sl 1 cI m43.conf) (q42 5), I ((m43.log).start), I ((m43.log).startTerm), .w (sl 3 Entry.c ((m43.log).entries)) (q42 8), I m43.commit, I m43.clock, I m43.limit, .w (sl 1 cI m43.votes) (q42 12), .w (sl 4 Peer.c m43.peers) (q42 13)]), (112, .w (sl 12 Message.c ((⟨m43.id, m43.term_, m43.vote, m43.role, m43.lead, m43.conf, (m43.log), m43.commit, m43.clock, m43.limit, m43.votes, m43.peers⟩ : Node).peers.map (sendN (⟨m43.id, m43.term_, m43.vote, m43.role, m43.lead, m43.conf, (m43.log), m43.commit, m43.clock, m43.limit, m43.votes, m43.peers⟩ : Node)))) (go45_1_1 0 0)), (114, I (IntKind.i64.wrap (((logLast n.log).1) + 1)))]⟩ K := by
        intro go45_1_1
        refine RA.of hall (RA.stepH (L := [0]) Tell.e (by kernel_rfl) (by simp) (RA.each ?_ (RA.each0)))
        ·skip
         refine RO.v rfl rfl (V.loadAgg rfl rfl rfl rfl rfl (Nat.le_of_ble_eq_true rfl)) rfl ?_
         exact RA.to hall (RA.lr (ro45_11110000 go45_1_1) rfl rfl)
       have ro45_10110000 : RA [] E B all 5 #[true, false, true, true, false, false, false, false] ⟨115, [(6, .obj b2 [I 0, I 0, I 0, I 0, I 0, .r (.v (.slice none 0 0)), I 0, I 0, .r (.v (.slice none 0 0)), I 0, I 0, I 0, .r (.v (.slice none 0 0)), .r (.v (.slice none 0 0))]), (13, .obj b20 [I m43.id, I m43.term_, I m43.vote, I m43.role, I m43.lead, .w (sl 1 cI m43.conf) (q42 5), I ((m43.log).start), I ((m43.log).startTerm), .w (sl 3 Entry.c ((m43.log).entries)) (q42 8), I m43.commit, I m43.clock, I m43.limit, .w (sl 1 cI m43.votes) (q42 12), .w (sl 4 Peer.c m43.peers) (q42 13)]), (111, .agg [I m43.id, I m43.term_, I m43.vote, I m43.role, I m43.lead, .al 13 (some 5) 1 m43.conf.length (q42 5) 0, I ((m43.log).start), I ((m43.log).startTerm), .al 13 (some 8) 3 (((m43.log).entries).length) (q42 8) 0, I m43.commit, I m43.clock, I m43.limit, .al 13 (some 12) 1 m43.votes.length (q42 12) 0, .al 13 (some 13) 4 m43.peers.length (q42 13) 0]), (114, I (IntKind.i64.wrap (((logLast n.log).1) + 1)))]⟩ K := by
        refine RA.of hall (RA.stepH (L := [1]) Tell.e (by kernel_rfl) (by simp) (RA.each ?_ (RA.each0)))
        ·skip
         refine RO.callOwn rfl rfl (__impl_Node__sendAll_fn (⟨m43.id, m43.term_, m43.vote, m43.role, m43.lead, m43.conf, (m43.log), m43.commit, m43.clock, m43.limit, m43.votes, m43.peers⟩ : Node) hSn.1 hSn.2.1 hSn.2.2.1 hSn.2.2.2) rfl (.cons (.one (.r (.pt rfl rfl (DRd.r (DRd.r (DRd.r (DRd.r (DRd.r (DRd.ow (DRd.r (DRd.r (DRd.ow (DRd.r (DRd.r (DRd.r (DRd.ow (DRd.ow DRd.e)))))))))))))) nofun))) (.nil)) rfl rfl fun go45_1_1 => ?_
         exact RA.to hall (RA.lr (ro45_11110000 go45_1_1) rfl rfl)
       have ro45_00110000 : RA [] E B all 6 #[false, false, true, true, false, false, false, false] ⟨115, [(6, .obj b2 [I 0, I 0, I 0, I 0, I 0, .r (.v (.slice none 0 0)), I 0, I 0, .r (.v (.slice none 0 0)), I 0, I 0, I 0, .r (.v (.slice none 0 0)), .r (.v (.slice none 0 0))]), (13, .obj b20 [I m43.id, I m43.term_, I m43.vote, I m43.role, I m43.lead, .w (sl 1 cI m43.conf) (q42 5), I ((m43.log).start), I ((m43.log).startTerm), .w (sl 3 Entry.c ((m43.log).entries)) (q42 8), I m43.commit, I m43.clock, I m43.limit, .w (sl 1 cI m43.votes) (q42 12), .w (sl 4 Peer.c m43.peers) (q42 13)]), (114, I (IntKind.i64.wrap (((logLast n.log).1) + 1)))]⟩ K := by
        refine RA.of hall (RA.stepH (L := [0, 1]) Tell.e (by kernel_rfl) (by simp) (RA.each ?_ (RA.each ?_ (RA.each0))))
        ·skip
         refine RO.v rfl rfl (V.loadAgg rfl rfl rfl rfl rfl (Nat.le_of_ble_eq_true rfl)) rfl ?_
         exact RA.to hall (RA.lr ro45_10110000 rfl rfl)
        ·skip
         refine RO.callOwn rfl rfl (__impl_Node__sendAll_fn (⟨m43.id, m43.term_, m43.vote, m43.role, m43.lead, m43.conf, (m43.log), m43.commit, m43.clock, m43.limit, m43.votes, m43.peers⟩ : Node) hSn.1 hSn.2.1 hSn.2.2.1 hSn.2.2.2) rfl (.cons (.one (.r (.pt rfl rfl (DRd.r (DRd.r (DRd.r (DRd.r (DRd.r (DRd.ow (DRd.r (DRd.r (DRd.ow (DRd.r (DRd.r (DRd.r (DRd.ow (DRd.ow DRd.e)))))))))))))) nofun))) (.nil)) rfl rfl fun go45_1_1 => ?_
         exact RA.to hall (RA.lr (ro45_01110000 go45_1_1) rfl rfl)
       have ro45_S : RA [] E B all 8 #[false, false, false, false, false, false, false, false] ⟨115, [(6, .obj b2 [I 0, I 0, I 0, I 0, I 0, .r (.v (.slice none 0 0)), I 0, I 0, .r (.v (.slice none 0 0)), I 0, I 0, I 0, .r (.v (.slice none 0 0)), .r (.v (.slice none 0 0))]), (10, I ((logLast n.log).1)), (13, .obj b20 [I m43.id, I m43.term_, I m43.vote, I m43.role, I m43.lead, .w (sl 1 cI m43.conf) (q42 5), I ((m43.log).start), I ((m43.log).startTerm), .w (sl 3 Entry.c ((m43.log).entries)) (q42 8), I m43.commit, I m43.clock, I m43.limit, .w (sl 1 cI m43.votes) (q42 12), .w (sl 4 Peer.c m43.peers) (q42 13)])]⟩ K := by
        refine RA.of hall ?_
        refine RA.first (i := 2) (ls' := #[false, false, true, false, false, false, false, false]) Tell.e (by kernel_rfl) rfl rfl rfl (VF.p (V.mv (d := I ((logLast n.log).1)) rfl rfl)) ?_
        refine RA.first (i := 3) (ls' := #[false, false, true, true, false, false, false, false]) Tell.e (by kernel_rfl) rfl rfl rfl (VF.p (V.arInt rfl rfl rfl rfl)) ?_
        exact RA.to hall (RA.lr ro45_00110000 rfl rfl)
       exact RA.start (by kernel_rfl) (by kernel_rfl) (RA.lr ro45_S rfl rfl)
      ·rintro go45_1_1
       refine CW.ret ?_
       exact Post.tup (by decide) (RVs.c (RV.c (f := fun e => (Node.c e).map .w) (e' := (⟨m43.id, m43.term_, m43.vote, m43.role, m43.lead, m43.conf, (m43.log), m43.commit, m43.clock, m43.limit, m43.votes, m43.peers⟩ : Node)) rfl rfl rfl rfl (DT.v (DT.v (DT.v (DT.v (DT.v (DT.w (DT.v (DT.v (DT.w (DT.v (DT.v (DT.v (DT.w (DT.w DT.e)))))))))))))) (by subst hn44; first | (rw [prop_yes hgd hyes, propS_plain h23]; done) | (rw [prop_yes hgd hyes, propS_plain h23]; rfl))) (RVs.c (RV.w rfl (by subst hn44; first | (rw [prop_yes hgd hyes, propS_plain h23]; done) | (rw [prop_yes hgd hyes, propS_plain h23]; rfl))) (RVs.c (RV.i rfl (by subst hn44; first | (rw [prop_yes hgd hyes, propS_plain h23]; done) | (rw [prop_yes hgd hyes, propS_plain h23]; rfl))) (RVs.c (RV.b rfl (by subst hn44; first | (rw [prop_yes hgd hyes, propS_plain h23]; done) | (rw [prop_yes hgd hyes, propS_plain h23]; rfl))) RVs.e)))) (AOs.a rfl (AOs.r (AOs.r AOs.e)))
set_option maxHeartbeats 4000000 in
theorem spec_l01In_fn (n : Int) (x : Int) (y : Int) : Eng.Fn E.P 56 [.one (.r (.v (.int .i64 n))), .one (.r (.v (.int .i64 x))), .one (.r (.v (.int .i64 y)))] (.one (.one (.w (.v (.bool (inR n x y)))))) [.one (.r (.v (.int .i64 n))), .one (.r (.v (.int .i64 x))), .one (.r (.v (.int .i64 y)))] := by
 refine Eng.Fn.intro (E := E) (rvs := [.tmp 6]) Try.func56 rfl rfl rfl (by simp [outSlots, moved, rvSlot, sl]) ?_
 intro B g bo
 refine CW.le [(0, I n), (1, I x), (2, I y)] rfl (Le.of rfl) ?_
 refine CW.seq ?_
 refine CW.region ?_
 refine RW.v rfl (V.as (d := Bo false) rfl rfl) ?_
 refine RW.nil ?_
 refine CW.le [(0, I n), (1, I x), (2, I y)] rfl (Le.of rfl) ?_
 refine CW.seqJ 15 (fun (v1 : Bool) => [(6, Bo v1)]) (fun v1 => v1 = (decide (n ≥ x) && decide (n ≤ y))) ?_ ?_
 ·refine CW.region ?_
  refine RW.v rfl (V.mv (d := I n) rfl rfl) ?_
  refine RW.v rfl (V.mv (d := I x) rfl rfl) ?_
  refine RW.v rfl (V.cmpInt rfl rfl rfl rfl) ?_
  refine RW.v rfl (V.mv (d := Bo (decide (n ≥ x))) rfl rfl) ?_
  refine RW.gv rfl rfl rfl rfl (fun h2 => V.mv (d := I n) rfl rfl) (fun h2 => ?_) (fun h2 => ?_)
  ·skip
   refine RW.gt rfl rfl rfl rfl (V.mv (d := I y) rfl rfl) ?_
   refine RW.gt rfl rfl rfl rfl (V.cmpInt rfl rfl rfl rfl) ?_
   refine RW.v rfl (V.pickT (d := Bo (decide (n ≤ y))) rfl rfl rfl) ?_
   refine RW.v rfl (V.as (d := Bo (decide (n ≤ y))) rfl rfl) ?_
   refine RW.nil ?_
   exact ⟨_, by first | rfl | (simp_all; done) | (simp_all; omega) | grind, rfl, Le.c rfl <| Le.e⟩
  ·skip
   refine RW.guardF rfl rfl rfl rfl ?_
   refine RW.guardF rfl rfl rfl rfl ?_
   refine RW.v rfl (V.pickF (d := Bo false) rfl rfl rfl) ?_
   refine RW.v rfl (V.as (d := Bo false) rfl rfl) ?_
   refine RW.nil ?_
   exact ⟨_, by first | rfl | (simp_all; done) | (simp_all; omega) | grind, rfl, Le.c rfl <| Le.e⟩
 ·intro v1 hv3
  refine CW.ret ?_
  exact Post.one (RV.b rfl (by simp_all [inR])) (AOs.r (AOs.r (AOs.r AOs.e)))
set_option maxHeartbeats 4000000 in
theorem spec_l05Rise_fn (a : List Int) (lo : Int) (hi : Int) : Eng.Fn E.P 60 [.one (.r (sl 1 cI a)), .one (.r (.v (.int .i64 lo))), .one (.r (.v (.int .i64 hi)))] (.one (.one (.w (.v (.bool (riseOk lo hi none a)))))) [.one (.r (sl 1 cI a)), .one (.r (.v (.int .i64 lo))), .one (.r (.v (.int .i64 hi)))] := by
 refine Eng.Fn.intro (E := E) (rvs := [.tmp 6]) Try.func60 rfl rfl rfl (by simp [outSlots, moved, rvSlot, sl]) ?_
 intro B g bo
 refine CW.bound (x := .tmp 0) (n := a.length) (AsT.r) (fun hl0 => ?_)
 refine CW.le [(0, .r (sl 1 cI a)), (1, I lo), (2, I hi)] rfl (Le.of rfl) ?_
 refine CW.seq ?_
 refine CW.region ?_
 refine RW.v rfl (V.as (d := Bo false) rfl rfl) ?_
 refine RW.nil ?_
 refine CW.le [(0, .r (sl 1 cI a)), (1, I lo), (2, I hi)] rfl (Le.of rfl) ?_
 refine CW.seq ?_
 refine CW.seq ?_
 refine CW.region ?_
 refine RW.v rfl (V.as (d := I 0) rfl rfl) ?_
 refine RW.nil ?_
 refine CW.le [(0, .r (sl 1 cI a)), (1, I lo), (2, I hi), (7, I 0)] rfl (Le.of rfl) ?_
 refine CW.block ?_
 refine CW.loopI 38 (fun (i : Nat) => [(0, .r (sl 1 cI a)), (1, I lo), (2, I hi), (7, I (i : Int))]) (fun (i : Nat) => i ≤ a.length ∧ riseOk lo hi (prevI a i) (a.drop i) = riseOk lo hi none a) (fun (i : Nat) => a.length - i) 0 rfl (Le.c rfl <| Le.c rfl <| Le.c rfl <| Le.c rfl <| Le.e) ⟨by omega, by simp [prevI]⟩ ?_
 rintro i ⟨hb, hr⟩
 refine CW.seq ?_
 refine CW.seq ?_
 refine CW.region ?_
 refine RW.v rfl (V.mv (d := I (i : Int)) rfl rfl) ?_
 refine RW.v rfl (V.mv (d := .r (sl 1 cI a)) rfl rfl) ?_
 refine RW.v rfl (V.lenT (n := a.length) rfl rfl rfl .r) ?_
 refine RW.v rfl (V.cmpInt rfl rfl rfl rfl) ?_
 refine RW.nil ?_
 refine CW.le [(0, .r (sl 1 cI a)), (1, I lo), (2, I hi), (7, I (i : Int)), (11, Bo (decide ((i : Int) < (a.length : Int))))] rfl (Le.of rfl) ?_
 refine CW.cond rfl (fun h1 => ?_) (fun h1 => ?_)
 ·skip
  have hii : i < a.length := by have := h1; simp at this; first | exact this | omega | (simp; done) | (simp; omega)
  obtain ⟨ei, hei⟩ : ∃ e, a[i]? = some e := ⟨_, List.getElem?_eq_getElem hii⟩
  have hdi := drop_get hei
  refine CW.skip ?_
  refine CW.le [(0, .r (sl 1 cI a)), (1, I lo), (2, I hi), (7, I (i : Int))] rfl (Le.of rfl) ?_
  refine CW.seq ?_
  refine CW.block ?_
  refine CW.seqJ 38 (fun (v2 : Bool) => [(0, .r (sl 1 cI a)), (1, I lo), (2, I hi), (7, I (i : Int)), (37, Bo v2)]) (fun v2 => v2 = ((!(inR ei lo hi)) || (decide ((i : Int) > 0) && decide ((a.getD (i - 1) 0) ≥ ei)))) ?_ ?_
  ·refine CW.drawn (by kernel_rfl) ?_
   refine RQ.v rfl (V.mv (d := .r (sl 1 cI a)) rfl rfl) ?_
   refine RQ.v rfl (V.mv (d := I (i : Int)) rfl rfl) ?_
   refine RQ.v rfl (V.indexS rfl rfl rfl rfl rfl rfl cI.len hei) ?_
   refine RQ.v rfl (V.loadPrimR (t0 := .v (.int .i64 ei)) rfl rfl (.inl rfl) rfl rfl) ?_
   refine RQ.v rfl (V.mv (d := I lo) rfl rfl) ?_
   refine RQ.v rfl (V.mv (d := I hi) rfl rfl) ?_
   refine RQ.cons rfl (QOK.call (spec_l01In_fn ei lo hi) rfl (.cons (.one (.r .r)) (.cons (.one (.r .r)) (.cons (.one (.r .r)) (.nil)))) ?_)
   refine RQ.v rfl (V.not rfl rfl) ?_
   refine RQ.v rfl (V.mv (d := Bo (!(inR ei lo hi))) rfl rfl) ?_
   refine RQ.gv rfl rfl rfl rfl (fun h3 => V.mv (d := I (i : Int)) rfl rfl) (fun h3 => ?_) (fun h3 => ?_)
   ·skip
    refine RQ.gt rfl rfl rfl rfl (V.cmpInt rfl rfl rfl rfl) ?_
    refine RQ.gt rfl rfl rfl rfl (V.mv (d := Bo (decide ((i : Int) > 0))) rfl rfl) ?_
    refine RQ.gv rfl rfl rfl rfl (fun h4 => V.mv (d := .r (sl 1 cI a)) rfl rfl) (fun h4 => ?_) (fun h4 => ?_)
    ·skip
     refine RQ.gt rfl rfl rfl rfl (V.mv (d := I (i : Int)) rfl rfl) ?_
     refine RQ.gt rfl rfl rfl rfl (V.dec (m := i) rfl rfl rfl (by have := h4; simp at this; omega) (by omega)) ?_
     refine RQ.gt rfl rfl rfl rfl (V.indexS rfl rfl rfl rfl rfl rfl cI.len (getD_some (l := a) (j := i - 1) (z := 0) (by omega))) ?_
     refine RQ.gt rfl rfl rfl rfl (V.loadPrimR (t0 := .v (.int .i64 (a.getD (i - 1) 0))) rfl rfl (.inl rfl) rfl rfl) ?_
     refine RQ.gt rfl rfl rfl rfl (V.mv (d := .r (sl 1 cI a)) rfl rfl) ?_
     refine RQ.gt rfl rfl rfl rfl (V.mv (d := I (i : Int)) rfl rfl) ?_
     refine RQ.gt rfl rfl rfl rfl (V.indexS rfl rfl rfl rfl rfl rfl cI.len hei) ?_
     refine RQ.gt rfl rfl rfl rfl (V.loadPrimR (t0 := .v (.int .i64 ei)) rfl rfl (.inl rfl) rfl rfl) ?_
     refine RQ.gt rfl rfl rfl rfl (V.cmpInt rfl rfl rfl rfl) ?_
     refine RQ.gt rfl rfl rfl rfl (V.pickT (d := Bo (decide ((a.getD (i - 1) 0) ≥ ei))) rfl rfl rfl) ?_
     refine RQ.v rfl (V.pickF (d := Bo (decide ((a.getD (i - 1) 0) ≥ ei))) rfl rfl rfl) ?_
     refine RQ.nil ?_
     exact ⟨_, by first | rfl | (simp_all; done) | (simp_all; omega) | grind, rfl, Le.c rfl <| Le.c rfl <| Le.c rfl <| Le.c rfl <| Le.c rfl <| Le.e⟩
    ·skip
     refine RQ.guardF rfl rfl rfl rfl ?_
     refine RQ.guardF rfl rfl rfl rfl ?_
     refine RQ.guardF rfl rfl rfl rfl ?_
     refine RQ.guardF rfl rfl rfl rfl ?_
     refine RQ.guardF rfl rfl rfl rfl ?_
     refine RQ.guardF rfl rfl rfl rfl ?_
     refine RQ.guardF rfl rfl rfl rfl ?_
     refine RQ.guardF rfl rfl rfl rfl ?_
     refine RQ.guardF rfl rfl rfl rfl ?_
     refine RQ.gt rfl rfl rfl rfl (V.pickF (d := Bo false) rfl rfl rfl) ?_
     refine RQ.v rfl (V.pickF (d := Bo false) rfl rfl rfl) ?_
     refine RQ.nil ?_
     exact ⟨_, by first | rfl | (simp_all; done) | (simp_all; omega) | grind, rfl, Le.c rfl <| Le.c rfl <| Le.c rfl <| Le.c rfl <| Le.c rfl <| Le.e⟩
   ·skip
    refine RQ.guardF rfl rfl rfl rfl ?_
    refine RQ.guardF rfl rfl rfl rfl ?_
    refine RQ.guardU rfl rfl rfl rfl ?_
    refine RQ.guardU rfl rfl rfl rfl ?_
    refine RQ.guardU rfl rfl rfl rfl ?_
    refine RQ.guardU rfl rfl rfl rfl ?_
    refine RQ.guardU rfl rfl rfl rfl ?_
    refine RQ.guardU rfl rfl rfl rfl ?_
    refine RQ.guardU rfl rfl rfl rfl ?_
    refine RQ.guardU rfl rfl rfl rfl ?_
    refine RQ.guardU rfl rfl rfl rfl ?_
    refine RQ.guardU rfl rfl rfl rfl ?_
    refine RQ.guardF rfl rfl rfl rfl ?_
    refine RQ.v rfl (V.pickT (d := Bo true) rfl rfl rfl) ?_
    refine RQ.nil ?_
    exact ⟨_, by first | rfl | (simp_all; done) | (simp_all; omega) | grind, rfl, Le.c rfl <| Le.c rfl <| Le.c rfl <| Le.c rfl <| Le.c rfl <| Le.e⟩
  ·intro v2 hv5
   refine CW.cond rfl (fun h6 => ?_) (fun h6 => ?_)
   ·skip
    refine CW.seq ?_
    refine CW.region ?_
    refine RW.v rfl (V.as (d := Bo false) rfl rfl) ?_
    refine RW.nil ?_
    refine CW.le [(6, Bo false)] rfl (Le.of rfl) ?_
    refine CW.ret ?_
    exact Post.one (RV.b rfl (by rw [← hr, hdi, riseOk_cons]; grind [prevI])) (AOs.r (AOs.r (AOs.r AOs.e)))
   ·skip
    refine CW.skip ?_
    refine CW.le [(0, .r (sl 1 cI a)), (1, I lo), (2, I hi), (7, I (i : Int))] rfl (Le.of rfl) ?_
    refine CW.region ?_
    refine RW.v rfl (V.mv (d := I (i : Int)) rfl rfl) ?_
    refine RW.v rfl (V.inc rfl rfl rfl hii hl0) ?_
    refine RW.v rfl (V.as (d := I ((i + 1 : Nat) : Int)) rfl rfl) ?_
    refine RW.nil ?_
    exact ⟨i + 1, by omega, ⟨by omega, by rw [← hr, hdi, riseOk_cons, prevI_succ hei]; grind [prevI]⟩, rfl, Le.c rfl <| Le.c rfl <| Le.c rfl <| Le.c rfl <| Le.e⟩
 ·skip
  have hii : a.length ≤ i := by have := h1; simp at this; first | exact this | omega | (simp; done) | (simp; omega)
  have hdi : a.drop i = [] := List.drop_eq_nil_of_le hii
  refine CW.exit ?_
  refine CW.le [] rfl (Le.of rfl) ?_
  refine CW.seq ?_
  refine CW.region ?_
  refine RW.v rfl (V.as (d := Bo true) rfl rfl) ?_
  refine RW.nil ?_
  refine CW.le [(6, Bo true)] rfl (Le.of rfl) ?_
  refine CW.ret ?_
  exact Post.one (RV.b rfl (by rw [← hr, hdi, riseOk_nil])) (AOs.r (AOs.r (AOs.r AOs.e)))
set_option maxHeartbeats 4000000 in
theorem spec_ConfOk_fn (a : List Int) : Eng.Fn E.P 57 [.one (.r (sl 1 cI a))] (.one (.one (.w (.v (.bool (confOk a)))))) [.one (.r (sl 1 cI a))] := by
 refine Eng.Fn.intro (E := E) (rvs := [.tmp 2]) Try.func57 rfl rfl rfl (by simp [outSlots, moved, rvSlot, sl]) ?_
 intro B g bo
 refine CW.bound (x := .tmp 0) (n := a.length) (AsT.r) (fun hl0 => ?_)
 refine CW.le [(0, .r (sl 1 cI a))] rfl (Le.of rfl) ?_
 refine CW.seq ?_
 refine CW.region ?_
 refine RW.v rfl (V.as (d := Bo false) rfl rfl) ?_
 refine RW.nil ?_
 refine CW.le [(0, .r (sl 1 cI a))] rfl (Le.of rfl) ?_
 refine CW.seqJ 10 (fun (v1 : Bool) => [(2, Bo v1)]) (fun v1 => v1 = ((inR (a.length : Int) 1 4) && (riseOk 1 4 none a))) ?_ ?_
 ·refine CW.region ?_
  refine RW.v rfl (V.mv (d := .r (sl 1 cI a)) rfl rfl) ?_
  refine RW.v rfl (V.lenT (n := a.length) rfl rfl rfl .r) ?_
  refine RW.call rfl (spec_l01In_fn (a.length : Int) 1 4) rfl (.cons (.one (.r .r)) (.cons (.one (.r .r)) (.cons (.one (.r .r)) (.nil)))) fun g2 => ?_
  refine RW.v rfl (V.mv (d := Bo (inR (a.length : Int) 1 4)) rfl rfl) ?_
  refine RW.gv rfl rfl rfl rfl (fun h3 => V.mv (d := .r (sl 1 cI a)) rfl rfl) (fun h3 => ?_) (fun h3 => ?_)
  ·skip
   refine RW.gcall rfl rfl rfl rfl (spec_l05Rise_fn a 1 4) rfl (.cons (.one (.r .r)) (.cons (.one (.r .r)) (.cons (.one (.r .r)) (.nil)))) fun g4 => ?_
   refine RW.v rfl (V.pickT (d := Bo (riseOk 1 4 none a)) rfl rfl rfl) ?_
   refine RW.v rfl (V.as (d := Bo (riseOk 1 4 none a)) rfl rfl) ?_
   refine RW.nil ?_
   exact ⟨_, by first | rfl | (simp_all; done) | (simp_all; omega) | grind, rfl, Le.c rfl <| Le.e⟩
  ·skip
   refine RW.guardF rfl rfl rfl rfl ?_
   refine RW.v rfl (V.pickF (d := Bo false) rfl rfl rfl) ?_
   refine RW.v rfl (V.as (d := Bo false) rfl rfl) ?_
   refine RW.nil ?_
   exact ⟨_, by first | rfl | (simp_all; done) | (simp_all; omega) | grind, rfl, Le.c rfl <| Le.e⟩
 ·intro v1 hv5
  refine CW.ret ?_
  exact Post.one (RV.b rfl (by simp_all [confOk])) (AOs.r AOs.e)
set_option maxHeartbeats 4000000 in
theorem spec_ConfText_fn (a : List Int) (hm : a.length ≤ 1048576) : Eng.Fn E.P 42 [.one (.r (sl 1 cI a))] (.tup [.one (.w (.v (.string ((confText a).1)))), .one (.w (.v (.bool ((confText a).2))))]) [.one (.r (sl 1 cI a))] := by
 refine Eng.Fn.intro (E := E) (rvs := [.tmp 2, .tmp 3]) Try.func42 rfl rfl rfl (by simp [outSlots, moved, rvSlot, sl]) ?_
 intro B g bo
 refine CW.bound (x := .tmp 0) (n := a.length) (AsT.r) (fun hl0 => ?_)
 refine CW.le [(0, .r (sl 1 cI a))] rfl (Le.of rfl) ?_
 refine CW.seq ?_
 refine CW.region ?_
 refine RW.v rfl (V.as (d := S (⟨#[]⟩ : ByteArray)) rfl rfl) ?_
 refine RW.v rfl (V.as (d := Bo false) rfl rfl) ?_
 refine RW.nil ?_
 refine CW.le [(0, .r (sl 1 cI a))] rfl (Le.of rfl) ?_
 refine CW.seq ?_
 refine CW.seq ?_
 refine CW.region ?_
 refine RW.v rfl (V.mv (d := .r (sl 1 cI a)) rfl rfl) ?_
 refine RW.call rfl (spec_ConfOk_fn a) rfl (.cons (.one (.r .r)) (.nil)) fun g1 => ?_
 refine RW.v rfl (V.not rfl rfl) ?_
 refine RW.nil ?_
 refine CW.le [(0, .r (sl 1 cI a)), (8, Bo (!(confOk a)))] rfl (Le.of rfl) ?_
 refine CW.cond rfl (fun h2 => ?_) (fun h2 => ?_)
 ·skip
  refine CW.seq ?_
  refine CW.region ?_
  refine RW.v rfl (V.as (d := S (⟨#[]⟩ : ByteArray)) rfl rfl) ?_
  refine RW.v rfl (V.as (d := Bo false) rfl rfl) ?_
  refine RW.nil ?_
  refine CW.le [(2, S (⟨#[]⟩ : ByteArray)), (3, Bo false)] rfl (Le.of rfl) ?_
  refine CW.ret ?_
  exact Post.tup (by decide) (RVs.c (RV.s rfl (by rw [confText, if_neg (by simp_all)])) (RVs.c (RV.b rfl (by rw [confText, if_neg (by simp_all)])) RVs.e)) (AOs.r AOs.e)
 ·skip
  refine CW.skip ?_
  refine CW.le [(0, .r (sl 1 cI a))] rfl (Le.of rfl) ?_
  refine CW.seq ?_
  refine CW.region ?_
  refine RW.build0 cU rfl rfl rfl rfl rfl fun X3 => ?_
  refine RW.assignMove rfl rfl rfl (by decide) (Nat.le_of_ble_eq_true rfl) (Nat.le_of_ble_eq_true rfl) ?_
  refine RW.nil ?_
  refine CW.le [(0, .r (sl 1 cI a)), (4, .w (sl 1 cU ([] : List Int)) X3)] rfl (Le.of rfl) ?_
  refine CW.seq ?_
  refine CW.seq ?_
  refine CW.region ?_
  refine RW.v rfl (V.as (d := I 0) rfl rfl) ?_
  refine RW.nil ?_
  refine CW.le [(0, .r (sl 1 cI a)), (4, .w (sl 1 cU ([] : List Int)) X3), (5, I 0)] rfl (Le.of rfl) ?_
  refine CW.block ?_
  refine CW.loopI 26 (fun (zz : Nat × Value) => match zz with | (i, X) => [(0, .r (sl 1 cI a)), (4, .w (sl 1 cU ((a.take i).map fun x => IntKind.u8.wrap x)) X), (5, I (i : Int))]) (fun (zz : Nat × Value) => match zz with | (i, X) => i ≤ a.length) (fun (zz : Nat × Value) => match zz with | (i, X) => a.length - i) (0, _) rfl (Le.c rfl <| Le.c rfl <| Le.c rfl <| Le.e) (by omega) ?_
  rintro ⟨i, X⟩ hb
  refine CW.seq ?_
  refine CW.seq ?_
  refine CW.region ?_
  refine RW.v rfl (V.mv (d := I (i : Int)) rfl rfl) ?_
  refine RW.v rfl (V.mv (d := .r (sl 1 cI a)) rfl rfl) ?_
  refine RW.v rfl (V.lenT (n := a.length) rfl rfl rfl .r) ?_
  refine RW.v rfl (V.cmpInt rfl rfl rfl rfl) ?_
  refine RW.nil ?_
  refine CW.le [(0, .r (sl 1 cI a)), (4, .w (sl 1 cU ((a.take i).map fun x => IntKind.u8.wrap x)) X), (5, I (i : Int)), (13, Bo (decide ((i : Int) < (a.length : Int))))] rfl (Le.of rfl) ?_
  refine CW.cond rfl (fun h4 => ?_) (fun h4 => ?_)
  ·skip
   have hii : i < a.length := by have := h4; simp at this; first | exact this | omega | (simp; done) | (simp; omega)
   obtain ⟨ei, hei⟩ : ∃ e, a[i]? = some e := ⟨_, List.getElem?_eq_getElem hii⟩
   have hdi := drop_get hei
   refine CW.skip ?_
   refine CW.le [(0, .r (sl 1 cI a)), (4, .w (sl 1 cU ((a.take i).map fun x => IntKind.u8.wrap x)) X), (5, I (i : Int))] rfl (Le.of rfl) ?_
   refine CW.seq ?_
   refine CW.block ?_
   refine CW.region ?_
   refine RW.v rfl (V.mv (d := .al 4 none 1 (((a.take i).map fun x => IntKind.u8.wrap x).length) X 0) rfl rfl) ?_
   refine RW.v rfl (V.mv (d := .r (sl 1 cI a)) rfl rfl) ?_
   refine RW.v rfl (V.mv (d := I (i : Int)) rfl rfl) ?_
   refine RW.v rfl (V.indexS rfl rfl rfl rfl rfl rfl cI.len hei) ?_
   refine RW.v rfl (V.loadPrimR (t0 := .v (.int .i64 ei)) rfl rfl (.inl rfl) rfl rfl) ?_
   refine RW.v rfl (V.convInt (k := .u8) (k' := .i64) rfl (by kernel_rfl) (by kernel_rfl) rfl) ?_
   refine RW.build1c (c := cU) (v := (IntKind.u8.wrap ei)) (u := .v (.int .u8 (IntKind.u8.wrap ei))) rfl rfl rfl rfl rfl rfl (.inl rfl) rfl rfl fun X5 => ?_
   refine RW.appendSR (c := cU) (l1 := ((a.take i).map fun x => IntKind.u8.wrap x)) (l2 := [(IntKind.u8.wrap ei)]) rfl rfl rfl rfl rfl rfl rfl rfl (.al (k := none) (i := 22) (sz := 1) (V := X5) rfl rfl nofun) (by decide) (Nat.le_of_ble_eq_true rfl) cU.len (fun _ => rfl) rfl (by simp only [maxLen, List.length_map, List.length_take, List.length_singleton]; omega) (by simp only [maxLen, List.length_map, List.length_take, List.length_singleton]; omega) fun X6 => ?_
   refine RW.assignMove rfl rfl rfl (by decide) (Nat.le_of_ble_eq_true rfl) (Nat.le_of_ble_eq_true rfl) ?_
   refine RW.nil ?_
   refine CW.le [(0, .r (sl 1 cI a)), (4, .w (sl 1 cU (((a.take i).map fun x => IntKind.u8.wrap x) ++ ([(IntKind.u8.wrap ei)]))) X6), (5, I (i : Int))] rfl (Le.of rfl) ?_
   refine CW.region ?_
   refine RW.v rfl (V.mv (d := I (i : Int)) rfl rfl) ?_
   refine RW.v rfl (V.inc rfl rfl rfl hii hl0) ?_
   refine RW.v rfl (V.as (d := I ((i + 1 : Nat) : Int)) rfl rfl) ?_
   refine RW.nil ?_
   exact ⟨(i + 1, _), by simp only []; omega, (by omega), rfl, Le.c rfl <| Le.c (Dw_congr (by rw [take_snoc hei, List.map_append]; rfl)) <| Le.c rfl <| Le.e⟩
  ·skip
   have hii : a.length ≤ i := by have := h4; simp at this; first | exact this | omega | (simp; done) | (simp; omega)
   have hdi : a.drop i = [] := List.drop_eq_nil_of_le hii
   refine CW.exit ?_
   refine CW.le [(4, .w (sl 1 cU ((a.take i).map fun x => IntKind.u8.wrap x)) X)] rfl (Le.of rfl) ?_
   refine CW.seq ?_
   refine CW.region ?_
   refine RW.v rfl (V.mv (d := .al 4 none 1 (((a.take i).map fun x => IntKind.u8.wrap x).length) X 0) rfl rfl) ?_
   refine RW.v rfl (V.bytesStr (l := ((a.take i).map fun x => IntKind.u8.wrap x)) rfl rfl rfl (by kernel_rfl) (by kernel_rfl) (.al (k := none) (i := 4) (sz := 1) (V := X) rfl rfl nofun)) ?_
   refine RW.v rfl (V.as (d := S (bytesOf ((a.take i).map fun x => IntKind.u8.wrap x))) rfl rfl) ?_
   refine RW.v rfl (V.as (d := Bo true) rfl rfl) ?_
   refine RW.nil ?_
   refine CW.le [(2, S (bytesOf ((a.take i).map fun x => IntKind.u8.wrap x))), (3, Bo true)] rfl (Le.of rfl) ?_
   refine CW.ret ?_
   exact Post.tup (by decide) (RVs.c (RV.s rfl (by rw [confText, if_pos (by simp_all), List.take_of_length_le hii])) (RVs.c (RV.b rfl (by rw [confText, if_pos (by simp_all)])) RVs.e)) (AOs.r AOs.e)
set_option maxHeartbeats 4000000 in
theorem laws_sameInts_fn (a : List Int) (b : List Int) : Eng.Fn E.P 43 [.one (.r (sl 1 cI a)), .one (.r (sl 1 cI b))] (.one (.one (.w (.v (.bool (eqS eqI a b)))))) [.one (.r (sl 1 cI a)), .one (.r (sl 1 cI b))] := by
 refine Eng.Fn.intro (E := E) (rvs := [.tmp 4]) Try.func43 rfl rfl rfl (by simp [outSlots, moved, rvSlot, sl]) ?_
 intro B g bo
 refine CW.bound (x := .tmp 0) (n := a.length) (AsT.r) (fun hl0 => ?_)
 refine CW.bound (x := .tmp 1) (n := b.length) (AsT.r) (fun hl1 => ?_)
 refine CW.le [(0, .r (sl 1 cI a)), (1, .r (sl 1 cI b))] rfl (Le.of rfl) ?_
 refine CW.seq ?_
 refine CW.region ?_
 refine RW.v rfl (V.as (d := Bo false) rfl rfl) ?_
 refine RW.nil ?_
 refine CW.le [(0, .r (sl 1 cI a)), (1, .r (sl 1 cI b))] rfl (Le.of rfl) ?_
 refine CW.seq ?_
 refine CW.seq ?_
 refine CW.region ?_
 refine RW.v rfl (V.mv (d := .r (sl 1 cI a)) rfl rfl) ?_
 refine RW.v rfl (V.lenT (n := a.length) rfl rfl rfl .r) ?_
 refine RW.v rfl (V.mv (d := .r (sl 1 cI b)) rfl rfl) ?_
 refine RW.v rfl (V.lenT (n := b.length) rfl rfl rfl .r) ?_
 refine RW.v rfl (V.cmpInt rfl rfl rfl rfl) ?_
 refine RW.nil ?_
 refine CW.le [(0, .r (sl 1 cI a)), (1, .r (sl 1 cI b)), (10, Bo ((a.length : Int) != (b.length : Int)))] rfl (Le.of rfl) ?_
 refine CW.cond rfl (fun h1 => ?_) (fun h1 => ?_)
 ·skip
  refine CW.seq ?_
  refine CW.region ?_
  refine RW.v rfl (V.as (d := Bo false) rfl rfl) ?_
  refine RW.nil ?_
  refine CW.le [(4, Bo false)] rfl (Le.of rfl) ?_
  refine CW.ret ?_
  exact Post.one (RV.b rfl (by exact (eqS_ne (by have := h1; simp at this; omega)).symm)) (AOs.r (AOs.r AOs.e))
 ·skip
  refine CW.skip ?_
  refine CW.le [(0, .r (sl 1 cI a)), (1, .r (sl 1 cI b))] rfl (Le.of rfl) ?_
  refine CW.seq ?_
  refine CW.seq ?_
  refine CW.region ?_
  refine RW.v rfl (V.as (d := I 0) rfl rfl) ?_
  refine RW.nil ?_
  refine CW.le [(0, .r (sl 1 cI a)), (1, .r (sl 1 cI b)), (5, I 0)] rfl (Le.of rfl) ?_
  refine CW.block ?_
  refine CW.loopI 26 (fun (i : Nat) => [(0, .r (sl 1 cI a)), (1, .r (sl 1 cI b)), (5, I (i : Int))]) (fun (i : Nat) => i ≤ a.length ∧ eqS eqI (a.drop i) (b.drop i) = eqS eqI a b) (fun (i : Nat) => a.length - i) 0 rfl (Le.c rfl <| Le.c rfl <| Le.c rfl <| Le.e) ⟨by omega, by simp⟩ ?_
  rintro i ⟨hb, hr⟩
  have hlen : a.length = b.length := by simp at h1; omega
  refine CW.seq ?_
  refine CW.seq ?_
  refine CW.region ?_
  refine RW.v rfl (V.mv (d := I (i : Int)) rfl rfl) ?_
  refine RW.v rfl (V.mv (d := .r (sl 1 cI a)) rfl rfl) ?_
  refine RW.v rfl (V.lenT (n := a.length) rfl rfl rfl .r) ?_
  refine RW.v rfl (V.cmpInt rfl rfl rfl rfl) ?_
  refine RW.nil ?_
  refine CW.le [(0, .r (sl 1 cI a)), (1, .r (sl 1 cI b)), (5, I (i : Int)), (14, Bo (decide ((i : Int) < (a.length : Int))))] rfl (Le.of rfl) ?_
  refine CW.cond rfl (fun h2 => ?_) (fun h2 => ?_)
  ·skip
   have hii : i < a.length := by have := h2; simp at this; first | exact this | omega | (simp; done) | (simp; omega)
   obtain ⟨ei, hei⟩ : ∃ e, a[i]? = some e := ⟨_, List.getElem?_eq_getElem hii⟩
   have hdi := drop_get hei
   have hib : i < b.length := by omega
   obtain ⟨eb, heb⟩ : ∃ e, b[i]? = some e := ⟨_, List.getElem?_eq_getElem hib⟩
   have hdb := drop_get heb
   refine CW.skip ?_
   refine CW.le [(0, .r (sl 1 cI a)), (1, .r (sl 1 cI b)), (5, I (i : Int))] rfl (Le.of rfl) ?_
   refine CW.seq ?_
   refine CW.block ?_
   refine CW.seq ?_
   refine CW.drawn (by kernel_rfl) ?_
   refine RQ.v rfl (V.mv (d := .r (sl 1 cI a)) rfl rfl) ?_
   refine RQ.v rfl (V.mv (d := I (i : Int)) rfl rfl) ?_
   refine RQ.v rfl (V.indexS rfl rfl rfl rfl rfl rfl cI.len hei) ?_
   refine RQ.v rfl (V.loadPrimR (t0 := .v (.int .i64 ei)) rfl rfl (.inl rfl) rfl rfl) ?_
   refine RQ.v rfl (V.mv (d := .r (sl 1 cI b)) rfl rfl) ?_
   refine RQ.v rfl (V.mv (d := I (i : Int)) rfl rfl) ?_
   refine RQ.v rfl (V.indexS rfl rfl rfl rfl rfl rfl cI.len heb) ?_
   refine RQ.v rfl (V.loadPrimR (t0 := .v (.int .i64 eb)) rfl rfl (.inl rfl) rfl rfl) ?_
   refine RQ.v rfl (V.cmpInt rfl rfl rfl rfl) ?_
   refine RQ.nil ?_
   refine CW.le [(0, .r (sl 1 cI a)), (1, .r (sl 1 cI b)), (5, I (i : Int)), (25, Bo (ei != eb))] rfl (Le.of rfl) ?_
   refine CW.cond rfl (fun h3 => ?_) (fun h3 => ?_)
   ·skip
    refine CW.seq ?_
    refine CW.region ?_
    refine RW.v rfl (V.as (d := Bo false) rfl rfl) ?_
    refine RW.nil ?_
    refine CW.le [(4, Bo false)] rfl (Le.of rfl) ?_
    refine CW.ret ?_
    exact Post.one (RV.b rfl (by rw [← hr, hdi, hdb]; simp_all [eqS, eqI])) (AOs.r (AOs.r AOs.e))
   ·skip
    refine CW.skip ?_
    refine CW.le [(0, .r (sl 1 cI a)), (1, .r (sl 1 cI b)), (5, I (i : Int))] rfl (Le.of rfl) ?_
    refine CW.region ?_
    refine RW.v rfl (V.mv (d := I (i : Int)) rfl rfl) ?_
    refine RW.v rfl (V.inc rfl rfl rfl hii hl0) ?_
    refine RW.v rfl (V.as (d := I ((i + 1 : Nat) : Int)) rfl rfl) ?_
    refine RW.nil ?_
    exact ⟨i + 1, by omega, ⟨by omega, by simp_all [eqS, eqI]⟩, rfl, Le.c rfl <| Le.c rfl <| Le.c rfl <| Le.e⟩
  ·skip
   have hii : a.length ≤ i := by have := h2; simp at this; first | exact this | omega | (simp; done) | (simp; omega)
   have hdi : a.drop i = [] := List.drop_eq_nil_of_le hii
   refine CW.exit ?_
   refine CW.le [] rfl (Le.of rfl) ?_
   refine CW.seq ?_
   refine CW.region ?_
   refine RW.v rfl (V.as (d := Bo true) rfl rfl) ?_
   refine RW.nil ?_
   refine CW.le [(4, Bo true)] rfl (Le.of rfl) ?_
   refine CW.ret ?_
   exact Post.one (RV.b rfl (by rw [← hr, hdi, List.drop_eq_nil_of_le (show b.length ≤ i by omega)]; rfl)) (AOs.r (AOs.r AOs.e))
set_option maxHeartbeats 4000000 in
theorem laws_big_fn (c : List Int) : Eng.Fn E.P 40 [.one (.r (sl 1 cU c))] (.one (.one (.w (.v (.bool (decide ((c.length : Int) > 1048576))))))) [.one (.r (sl 1 cU c))] := by
 refine Eng.Fn.intro (E := E) (rvs := [.tmp 2]) Try.func40 rfl rfl rfl (by simp [outSlots, moved, rvSlot, sl]) ?_
 intro B g bo
 refine CW.bound (x := .tmp 0) (n := c.length) (AsT.r) (fun hl0 => ?_)
 refine CW.le [(0, .r (sl 1 cU c))] rfl (Le.of rfl) ?_
 refine CW.seq ?_
 refine CW.region ?_
 refine RW.v rfl (V.as (d := Bo false) rfl rfl) ?_
 refine RW.nil ?_
 refine CW.le [(0, .r (sl 1 cU c))] rfl (Le.of rfl) ?_
 refine CW.seq ?_
 refine CW.region ?_
 refine RW.v rfl (V.mv (d := .r (sl 1 cU c)) rfl rfl) ?_
 refine RW.v rfl (V.lenT (n := c.length) rfl rfl rfl .r) ?_
 refine RW.v rfl (V.cmpInt rfl rfl rfl rfl) ?_
 refine RW.v rfl (V.as (d := Bo (decide ((c.length : Int) > 1048576))) rfl rfl) ?_
 refine RW.nil ?_
 refine CW.le [(2, Bo (decide ((c.length : Int) > 1048576)))] rfl (Le.of rfl) ?_
 refine CW.ret ?_
 exact Post.one (RV.b rfl (by rfl)) (AOs.r AOs.e)
set_option maxHeartbeats 4000000 in
theorem spec_l01New_fn (code : List Int) : Eng.Fn E.P 110 [.one (.r (sl 1 cU code))] (.one (.ob ((l01Cur.c (cur0 code)).map .r))) [.one (.r (sl 1 cU code))] := by
 refine Eng.Fn.intro (E := E) (rvs := [.tmp 2]) Try.func110 rfl rfl rfl (by simp [outSlots, moved, rvSlot, sl]) ?_
 intro B g bo
 refine CW.bound (x := .tmp 0) (n := code.length) (AsT.r) (fun hl0 => ?_)
 refine CW.le [(0, .r (sl 1 cU code))] rfl (Le.of rfl) ?_
 refine CW.seq ?_
 refine CW.region ?_
 refine RW.v rfl (V.as (d := .r (.v (.pointer none))) rfl rfl) ?_
 refine RW.nil ?_
 refine CW.le [(0, .r (sl 1 cU code))] rfl (Le.of rfl) ?_
 refine CW.seq ?_
 refine CW.region ?_
 refine RW.v rfl (V.mv (d := .r (sl 1 cU code)) rfl rfl) ?_
 refine RW.v rfl (V.lenT (n := code.length) rfl rfl rfl .r) ?_
 refine RW.v rfl (V.arInt rfl rfl rfl rfl) ?_
 refine RW.v rfl (V.as (d := I (IntKind.i64.wrap (37401 + (code.length : Int)))) rfl rfl) ?_
 refine RW.nil ?_
 refine CW.le [(0, .r (sl 1 cU code)), (3, I (IntKind.i64.wrap (37401 + (code.length : Int))))] rfl (Le.of rfl) ?_
 refine CW.seq ?_
 refine CW.seq ?_
 refine CW.region ?_
 refine RW.v rfl (V.as (d := I 0) rfl rfl) ?_
 refine RW.nil ?_
 refine CW.le [(0, .r (sl 1 cU code)), (3, I (IntKind.i64.wrap (37401 + (code.length : Int)))), (4, I 0)] rfl (Le.of rfl) ?_
 refine CW.block ?_
 refine CW.loopI 32 (fun (zz : Nat × Int) => match zz with | (i, h) => [(0, .r (sl 1 cU code)), (3, I h), (4, I (i : Int))]) (fun (zz : Nat × Int) => match zz with | (i, h) => i ≤ code.length ∧ i ≤ 4000 ∧ h = (code.take i).foldl hashStep (IntKind.i64.wrap (37401 + (code.length : Int)))) (fun (zz : Nat × Int) => match zz with | (i, h) => code.length - i) (0, _) rfl (Le.c rfl <| Le.c rfl <| Le.c rfl <| Le.e) ⟨by omega, by omega, rfl⟩ ?_
 rintro ⟨i, h⟩ ⟨hb, hq4, hh⟩
 refine CW.seq ?_
 refine CW.seqJ 32 (fun (v1 : Bool) => [(0, .r (sl 1 cU code)), (3, I h), (4, I (i : Int)), (15, Bo v1)]) (fun v1 => v1 = (decide ((i : Int) < (code.length : Int)) && decide ((i : Int) < 4000))) ?_ ?_
 ·refine CW.region ?_
  refine RW.v rfl (V.mv (d := I (i : Int)) rfl rfl) ?_
  refine RW.v rfl (V.mv (d := .r (sl 1 cU code)) rfl rfl) ?_
  refine RW.v rfl (V.lenT (n := code.length) rfl rfl rfl .r) ?_
  refine RW.v rfl (V.cmpInt rfl rfl rfl rfl) ?_
  refine RW.v rfl (V.mv (d := Bo (decide ((i : Int) < (code.length : Int)))) rfl rfl) ?_
  refine RW.gv rfl rfl rfl rfl (fun h2 => V.mv (d := I (i : Int)) rfl rfl) (fun h2 => ?_) (fun h2 => ?_)
  ·skip
   refine RW.gt rfl rfl rfl rfl (V.cmpInt rfl rfl rfl rfl) ?_
   refine RW.v rfl (V.pickT (d := Bo (decide ((i : Int) < 4000))) rfl rfl rfl) ?_
   refine RW.nil ?_
   exact ⟨_, by first | (simp_all; done) | grind, rfl, Le.c rfl <| Le.c rfl <| Le.c rfl <| Le.c rfl <| Le.e⟩
  ·skip
   refine RW.guardF rfl rfl rfl rfl ?_
   refine RW.v rfl (V.pickF (d := Bo false) rfl rfl rfl) ?_
   refine RW.nil ?_
   exact ⟨_, by first | (simp_all; done) | grind, rfl, Le.c rfl <| Le.c rfl <| Le.c rfl <| Le.c rfl <| Le.e⟩
 ·intro v1 hv3
  refine CW.cond rfl (fun h4 => ?_) (fun h4 => ?_)
  ·skip
   have hii : i < code.length := by simp_all
   have hi4 : i < 4000 := by simp [hv3] at h4; omega
   obtain ⟨ei, hei⟩ : ∃ e, code[i]? = some e := ⟨_, List.getElem?_eq_getElem hii⟩
   refine CW.skip ?_
   refine CW.le [(0, .r (sl 1 cU code)), (3, I h), (4, I (i : Int))] rfl (Le.of rfl) ?_
   refine CW.seq ?_
   refine CW.block ?_
   refine CW.region ?_
   refine RW.v rfl (V.mv (d := I h) rfl rfl) ?_
   refine RW.v rfl (V.arInt rfl rfl rfl rfl) ?_
   refine RW.v rfl (V.mv (d := .r (sl 1 cU code)) rfl rfl) ?_
   refine RW.v rfl (V.mv (d := I (i : Int)) rfl rfl) ?_
   refine RW.v rfl (V.indexS rfl rfl rfl rfl rfl rfl cU.len hei) ?_
   refine RW.v rfl (V.loadPrimR (t0 := .v (.int .u8 ei)) rfl rfl (.inl rfl) rfl rfl) ?_
   refine RW.v rfl (V.convInt (k := .i64) (k' := .u8) rfl (by kernel_rfl) (by kernel_rfl) rfl) ?_
   refine RW.v rfl (V.arInt rfl rfl rfl rfl) ?_
   refine RW.v rfl (V.arInt rfl rfl rfl rfl) ?_
   refine RW.v rfl (V.bits rfl rfl rfl rfl) ?_
   refine RW.v rfl (V.as (d := I (andI (IntKind.i64.wrap ((IntKind.i64.wrap ((IntKind.i64.wrap (h * 131)) + (IntKind.i64.wrap ei))) + 7)) 1073741823)) rfl rfl) ?_
   refine RW.nil ?_
   refine CW.le [(0, .r (sl 1 cU code)), (3, I (andI (IntKind.i64.wrap ((IntKind.i64.wrap ((IntKind.i64.wrap (h * 131)) + (IntKind.i64.wrap ei))) + 7)) 1073741823)), (4, I (i : Int))] rfl (Le.of rfl) ?_
   refine CW.region ?_
   refine RW.v rfl (V.mv (d := I (i : Int)) rfl rfl) ?_
   refine RW.v rfl (V.inc rfl rfl rfl hii hl0) ?_
   refine RW.v rfl (V.as (d := I ((i + 1 : Nat) : Int)) rfl rfl) ?_
   refine RW.nil ?_
   exact ⟨(i + 1, _), by simp only []; omega, ⟨by omega, by omega, by rw [take_snoc hei, List.foldl_append, hh]; rfl⟩, rfl, Le.c rfl <| Le.c rfl <| Le.c rfl <| Le.e⟩
  ·skip
   have h4x : i < code.length → 4000 ≤ i := by intro hq; simp [hv3, hq] at h4; omega
   refine CW.exit ?_
   refine CW.le [(0, .r (sl 1 cU code)), (3, I h)] rfl (Le.of rfl) ?_
   refine CW.seq ?_
   refine CW.region ?_
   refine RW.v rfl (V.mv (d := .r (sl 1 cU code)) rfl rfl) ?_
   refine RW.v rfl (V.mv (d := I h) rfl rfl) ?_
   refine RW.v rfl (V.build (ds := [.r (sl 1 cU code), I 0, I h]) rfl rfl rfl rfl (.one rfl rfl rfl (Nat.le_of_ble_eq_true rfl) (.one rfl rfl rfl (Nat.le_of_ble_eq_true rfl) (.nil)))) ?_
   refine RW.box (ds := [.r (sl 1 cU code), I 0, I h]) rfl rfl rfl fun b5 => ?_
   refine RW.v rfl (V.as (d := .pt 31 b5 0) rfl rfl) ?_
   refine RW.nil ?_
   refine CW.le [(2, .pt 31 b5 0), (31, .obj b5 [.r (sl 1 cU code), I 0, I h])] rfl (Le.of rfl) ?_
   refine CW.pullP 2 31 (by decide) rfl rfl ?_
   refine CW.ret ?_
   exact Post.one (RV.p (f := fun e => (l01Cur.c e).map .r) (e' := (⟨code, 0, h⟩ : l01Cur)) rfl (DT.r (DT.r (DT.r DT.e))) (by rw [hh]; exact congrArg (fun l => (⟨code, 0, List.foldl hashStep _ l⟩ : l01Cur)) (take_min hb hq4 h4x))) (AOs.r AOs.e)
set_option maxHeartbeats 4000000 in
theorem spec_l01Byte_fn (c : l01Cur) (hc : curOk c) : Eng.Fn E.P 111 [.ob ((l01Cur.c c).map .r)] (.one (.one (.w (.v (.int .i64 ((byteN c).1)))))) [.ob ((l01Cur.c ((byteN c).2)).map .r)] := by
 refine Eng.Fn.intro (E := E) (rvs := [.tmp 2]) Try.func111 rfl rfl rfl (by simp [outSlots, moved, rvSlot, sl]) ?_
 intro B g bo
 refine CW.le [(0, .obj (bo 0) ((l01Cur.c c).map .r))] rfl (Le.of rfl) ?_
 obtain ⟨hc0, hc1, hc2⟩ := hc
 refine CW.seq ?_
 refine CW.region ?_
 refine RW.v rfl (V.as (d := I 0) rfl rfl) ?_
 refine RW.nil ?_
 refine CW.le [(0, .obj (bo 0) ((l01Cur.c c).map .r))] rfl (Le.of rfl) ?_
 refine CW.seq ?_
 refine CW.region ?_
 refine RW.v rfl (V.mv (d := .pt 0 (bo 0) 0) rfl rfl) ?_
 refine RW.v rfl (V.mv (d := .pt 0 (bo 0) 0) rfl rfl) ?_
 refine RW.v rfl (V.nilP rfl rfl) ?_
 refine RW.v rfl (V.field rfl rfl rfl rfl (by decide) rfl) ?_
 refine RW.v rfl (V.loadPrim (d := I c.h) rfl rfl (.inl rfl) rfl rfl rfl) ?_
 refine RW.v rfl (V.arInt rfl rfl rfl rfl) ?_
 refine RW.v rfl (V.arInt rfl rfl rfl rfl) ?_
 refine RW.v rfl (V.nilP rfl rfl) ?_
 refine RW.v rfl (V.field rfl rfl rfl rfl (by decide) rfl) ?_
 refine RW.store (d := I (IntKind.i64.wrap ((IntKind.i64.wrap (c.h * 6364136223846793005)) + 1442695040888963407))) rfl rfl rfl rfl rfl rfl rfl (Nat.le_of_ble_eq_true rfl) rfl rfl ?_
 refine RW.nil ?_
 refine CW.le [(0, .obj (bo 0) [.r (sl 1 cU c.b), I c.i, I (IntKind.i64.wrap ((IntKind.i64.wrap (c.h * 6364136223846793005)) + 1442695040888963407))])] rfl (Le.of rfl) ?_
 refine CW.seq ?_
 refine CW.drawn (by kernel_rfl) ?_
 refine RQ.v rfl (V.mv (d := .pt 0 (bo 0) 0) rfl rfl) ?_
 refine RQ.v rfl (V.nilP rfl rfl) ?_
 refine RQ.v rfl (V.field rfl rfl rfl rfl (by decide) rfl) ?_
 refine RQ.v rfl (V.loadPrim (d := I (IntKind.i64.wrap ((IntKind.i64.wrap (c.h * 6364136223846793005)) + 1442695040888963407))) rfl rfl (.inl rfl) rfl rfl rfl) ?_
 refine RQ.v rfl (V.shr rfl rfl rfl (by decide)) ?_
 refine RQ.v rfl (V.mv (d := .pt 0 (bo 0) 0) rfl rfl) ?_
 refine RQ.v rfl (V.nilP rfl rfl) ?_
 refine RQ.v rfl (V.field rfl rfl rfl rfl (by decide) rfl) ?_
 refine RQ.v rfl (V.loadPrim (d := I (IntKind.i64.wrap ((IntKind.i64.wrap (c.h * 6364136223846793005)) + 1442695040888963407))) rfl rfl (.inl rfl) rfl rfl rfl) ?_
 refine RQ.v rfl (V.shr rfl rfl rfl (by decide)) ?_
 refine RQ.v rfl (V.bits rfl rfl rfl rfl) ?_
 refine RQ.v rfl (V.bits rfl rfl rfl rfl) ?_
 refine RQ.v rfl (V.as (d := I (andI (xorI (shrI (IntKind.i64.wrap ((IntKind.i64.wrap (c.h * 6364136223846793005)) + 1442695040888963407)) 33) (shrI (IntKind.i64.wrap ((IntKind.i64.wrap (c.h * 6364136223846793005)) + 1442695040888963407)) 45)) 255)) rfl rfl) ?_
 refine RQ.nil ?_
 refine CW.le [(0, .obj (bo 0) [.r (sl 1 cU c.b), I c.i, I (IntKind.i64.wrap ((IntKind.i64.wrap (c.h * 6364136223846793005)) + 1442695040888963407))]), (3, I (andI (xorI (shrI (IntKind.i64.wrap ((IntKind.i64.wrap (c.h * 6364136223846793005)) + 1442695040888963407)) 33) (shrI (IntKind.i64.wrap ((IntKind.i64.wrap (c.h * 6364136223846793005)) + 1442695040888963407)) 45)) 255))] rfl (Le.of rfl) ?_
 refine CW.seq ?_
 refine CW.seq ?_
 refine CW.drawn (by kernel_rfl) ?_
 refine RQ.v rfl (V.mv (d := .pt 0 (bo 0) 0) rfl rfl) ?_
 refine RQ.v rfl (V.nilP rfl rfl) ?_
 refine RQ.v rfl (V.field rfl rfl rfl rfl (by decide) rfl) ?_
 refine RQ.v rfl (V.loadPrim (d := I c.i) rfl rfl (.inl rfl) rfl rfl rfl) ?_
 refine RQ.v rfl (V.mv (d := .pt 0 (bo 0) 0) rfl rfl) ?_
 refine RQ.v rfl (V.nilP rfl rfl) ?_
 refine RQ.v rfl (V.field rfl rfl rfl rfl (by decide) rfl) ?_
 refine RQ.v rfl (V.loadPrim (d := .r (sl 1 cU c.b)) rfl rfl (.inr ⟨_, rfl⟩) rfl rfl rfl) ?_
 refine RQ.v rfl (V.lenT (n := c.b.length) rfl rfl rfl .r) ?_
 refine RQ.v rfl (V.cmpInt rfl rfl rfl rfl) ?_
 refine RQ.nil ?_
 refine CW.le [(0, .obj (bo 0) [.r (sl 1 cU c.b), I c.i, I (IntKind.i64.wrap ((IntKind.i64.wrap (c.h * 6364136223846793005)) + 1442695040888963407))]), (3, I (andI (xorI (shrI (IntKind.i64.wrap ((IntKind.i64.wrap (c.h * 6364136223846793005)) + 1442695040888963407)) 33) (shrI (IntKind.i64.wrap ((IntKind.i64.wrap (c.h * 6364136223846793005)) + 1442695040888963407)) 45)) 255)), (34, Bo (decide (c.i < (c.b.length : Int))))] rfl (Le.of rfl) ?_
 refine CW.cond rfl (fun h1 => ?_) (fun h1 => ?_)
 ·skip
  have hlt : c.i < (c.b.length : Int) := by simpa using h1
  refine CW.seq ?_
  refine CW.drawn (by kernel_rfl) ?_
  refine RQ.v rfl (V.mv (d := I (andI (xorI (shrI (IntKind.i64.wrap ((IntKind.i64.wrap (c.h * 6364136223846793005)) + 1442695040888963407)) 33) (shrI (IntKind.i64.wrap ((IntKind.i64.wrap (c.h * 6364136223846793005)) + 1442695040888963407)) 45)) 255)) rfl rfl) ?_
  refine RQ.v rfl (V.mv (d := .pt 0 (bo 0) 0) rfl rfl) ?_
  refine RQ.v rfl (V.nilP rfl rfl) ?_
  refine RQ.v rfl (V.field rfl rfl rfl rfl (by decide) rfl) ?_
  refine RQ.v rfl (V.loadPrim (d := .r (sl 1 cU c.b)) rfl rfl (.inr ⟨_, rfl⟩) rfl rfl rfl) ?_
  refine RQ.v rfl (V.mv (d := .pt 0 (bo 0) 0) rfl rfl) ?_
  refine RQ.v rfl (V.nilP rfl rfl) ?_
  refine RQ.v rfl (V.field rfl rfl rfl rfl (by decide) rfl) ?_
  refine RQ.v rfl (V.loadPrim (d := I c.i) rfl rfl (.inl rfl) rfl rfl rfl) ?_
  refine RQ.v rfl (V.indexZ (m := c.i.toNat) (v := (c.b.getD c.i.toNat 0)) rfl rfl rfl rfl rfl rfl (by omega) cU.len (getD_some (by omega))) ?_
  refine RQ.v rfl (V.loadPrimR (t0 := .v (.int .u8 (c.b.getD c.i.toNat 0))) rfl rfl (.inl rfl) rfl rfl) ?_
  refine RQ.v rfl (V.convInt (k := .i64) (k' := .u8) rfl (by kernel_rfl) (by kernel_rfl) rfl) ?_
  refine RQ.v rfl (V.arInt rfl rfl rfl rfl) ?_
  refine RQ.v rfl (V.bits rfl rfl rfl rfl) ?_
  refine RQ.v rfl (V.as (d := I (andI (IntKind.i64.wrap ((andI (xorI (shrI (IntKind.i64.wrap ((IntKind.i64.wrap (c.h * 6364136223846793005)) + 1442695040888963407)) 33) (shrI (IntKind.i64.wrap ((IntKind.i64.wrap (c.h * 6364136223846793005)) + 1442695040888963407)) 45)) 255) + (IntKind.i64.wrap (c.b.getD c.i.toNat 0)))) 255)) rfl rfl) ?_
  refine RQ.nil ?_
  refine CW.le [(0, .obj (bo 0) [.r (sl 1 cU c.b), I c.i, I (IntKind.i64.wrap ((IntKind.i64.wrap (c.h * 6364136223846793005)) + 1442695040888963407))]), (3, I (andI (IntKind.i64.wrap ((andI (xorI (shrI (IntKind.i64.wrap ((IntKind.i64.wrap (c.h * 6364136223846793005)) + 1442695040888963407)) 33) (shrI (IntKind.i64.wrap ((IntKind.i64.wrap (c.h * 6364136223846793005)) + 1442695040888963407)) 45)) 255) + (IntKind.i64.wrap (c.b.getD c.i.toNat 0)))) 255))] rfl (Le.of rfl) ?_
  refine CW.region ?_
  refine RW.v rfl (V.mv (d := .pt 0 (bo 0) 0) rfl rfl) ?_
  refine RW.v rfl (V.mv (d := .pt 0 (bo 0) 0) rfl rfl) ?_
  refine RW.v rfl (V.nilP rfl rfl) ?_
  refine RW.v rfl (V.field rfl rfl rfl rfl (by decide) rfl) ?_
  refine RW.v rfl (V.loadPrim (d := I c.i) rfl rfl (.inl rfl) rfl rfl rfl) ?_
  refine RW.v rfl (V.arInt rfl rfl rfl rfl) ?_
  refine RW.v rfl (V.nilP rfl rfl) ?_
  refine RW.v rfl (V.field rfl rfl rfl rfl (by decide) rfl) ?_
  refine RW.store (d := I (IntKind.i64.wrap (c.i + 1))) rfl rfl rfl rfl rfl rfl rfl (Nat.le_of_ble_eq_true rfl) rfl rfl ?_
  refine RW.nil ?_
  refine CW.le [(0, .obj (bo 0) [.r (sl 1 cU c.b), I (IntKind.i64.wrap (c.i + 1)), I (IntKind.i64.wrap ((IntKind.i64.wrap (c.h * 6364136223846793005)) + 1442695040888963407))]), (3, I (andI (IntKind.i64.wrap ((andI (xorI (shrI (IntKind.i64.wrap ((IntKind.i64.wrap (c.h * 6364136223846793005)) + 1442695040888963407)) 33) (shrI (IntKind.i64.wrap ((IntKind.i64.wrap (c.h * 6364136223846793005)) + 1442695040888963407)) 45)) 255) + (IntKind.i64.wrap (c.b.getD c.i.toNat 0)))) 255))] rfl (Le.of rfl) ?_
  refine CW.seq ?_
  refine CW.region ?_
  refine RW.v rfl (V.mv (d := I (andI (IntKind.i64.wrap ((andI (xorI (shrI (IntKind.i64.wrap ((IntKind.i64.wrap (c.h * 6364136223846793005)) + 1442695040888963407)) 33) (shrI (IntKind.i64.wrap ((IntKind.i64.wrap (c.h * 6364136223846793005)) + 1442695040888963407)) 45)) 255) + (IntKind.i64.wrap (c.b.getD c.i.toNat 0)))) 255)) rfl rfl) ?_
  refine RW.v rfl (V.as (d := I (andI (IntKind.i64.wrap ((andI (xorI (shrI (IntKind.i64.wrap ((IntKind.i64.wrap (c.h * 6364136223846793005)) + 1442695040888963407)) 33) (shrI (IntKind.i64.wrap ((IntKind.i64.wrap (c.h * 6364136223846793005)) + 1442695040888963407)) 45)) 255) + (IntKind.i64.wrap (c.b.getD c.i.toNat 0)))) 255)) rfl rfl) ?_
  refine RW.nil ?_
  refine CW.le [(0, .obj (bo 0) [.r (sl 1 cU c.b), I (IntKind.i64.wrap (c.i + 1)), I (IntKind.i64.wrap ((IntKind.i64.wrap (c.h * 6364136223846793005)) + 1442695040888963407))]), (2, I (andI (IntKind.i64.wrap ((andI (xorI (shrI (IntKind.i64.wrap ((IntKind.i64.wrap (c.h * 6364136223846793005)) + 1442695040888963407)) 33) (shrI (IntKind.i64.wrap ((IntKind.i64.wrap (c.h * 6364136223846793005)) + 1442695040888963407)) 45)) 255) + (IntKind.i64.wrap (c.b.getD c.i.toNat 0)))) 255))] rfl (Le.of rfl) ?_
  refine CW.ret ?_
  exact Post.one (RV.i rfl (by unfold byteN; first | (rw [if_pos (by simpa using h1)]; rfl) | (rw [if_neg (by simpa using h1)]; rfl))) (AOs.obE (f := fun e => (l01Cur.c e).map .r) (e' := (⟨c.b, (IntKind.i64.wrap (c.i + 1)), (IntKind.i64.wrap ((IntKind.i64.wrap (c.h * 6364136223846793005)) + 1442695040888963407))⟩ : l01Cur)) rfl (DT.r (DT.r (DT.r DT.e))) (by unfold byteN; first | (rw [if_pos (by simpa using h1)]; rfl) | (rw [if_neg (by simpa using h1)]; rfl)) AOs.e)
 ·skip
  refine CW.skip ?_
  refine CW.le [(0, .obj (bo 0) [.r (sl 1 cU c.b), I c.i, I (IntKind.i64.wrap ((IntKind.i64.wrap (c.h * 6364136223846793005)) + 1442695040888963407))]), (3, I (andI (xorI (shrI (IntKind.i64.wrap ((IntKind.i64.wrap (c.h * 6364136223846793005)) + 1442695040888963407)) 33) (shrI (IntKind.i64.wrap ((IntKind.i64.wrap (c.h * 6364136223846793005)) + 1442695040888963407)) 45)) 255))] rfl (Le.of rfl) ?_
  refine CW.seq ?_
  refine CW.region ?_
  refine RW.v rfl (V.mv (d := I (andI (xorI (shrI (IntKind.i64.wrap ((IntKind.i64.wrap (c.h * 6364136223846793005)) + 1442695040888963407)) 33) (shrI (IntKind.i64.wrap ((IntKind.i64.wrap (c.h * 6364136223846793005)) + 1442695040888963407)) 45)) 255)) rfl rfl) ?_
  refine RW.v rfl (V.as (d := I (andI (xorI (shrI (IntKind.i64.wrap ((IntKind.i64.wrap (c.h * 6364136223846793005)) + 1442695040888963407)) 33) (shrI (IntKind.i64.wrap ((IntKind.i64.wrap (c.h * 6364136223846793005)) + 1442695040888963407)) 45)) 255)) rfl rfl) ?_
  refine RW.nil ?_
  refine CW.le [(0, .obj (bo 0) [.r (sl 1 cU c.b), I c.i, I (IntKind.i64.wrap ((IntKind.i64.wrap (c.h * 6364136223846793005)) + 1442695040888963407))]), (2, I (andI (xorI (shrI (IntKind.i64.wrap ((IntKind.i64.wrap (c.h * 6364136223846793005)) + 1442695040888963407)) 33) (shrI (IntKind.i64.wrap ((IntKind.i64.wrap (c.h * 6364136223846793005)) + 1442695040888963407)) 45)) 255))] rfl (Le.of rfl) ?_
  refine CW.ret ?_
  exact Post.one (RV.i rfl (by unfold byteN; first | (rw [if_pos (by simpa using h1)]; rfl) | (rw [if_neg (by simpa using h1)]; rfl))) (AOs.obE (f := fun e => (l01Cur.c e).map .r) (e' := (⟨c.b, c.i, (IntKind.i64.wrap ((IntKind.i64.wrap (c.h * 6364136223846793005)) + 1442695040888963407))⟩ : l01Cur)) rfl (DT.r (DT.r (DT.r DT.e))) (by unfold byteN; first | (rw [if_pos (by simpa using h1)]; rfl) | (rw [if_neg (by simpa using h1)]; rfl)) AOs.e)
set_option maxHeartbeats 4000000 in
theorem spec_l01Below_fn (c : l01Cur) (n : Int) (hc : curOk c) : Eng.Fn E.P 112 [.ob ((l01Cur.c c).map .r), .one (.r (.v (.int .i64 n)))] (.one (.one (.w (.v (.int .i64 ((belowN c n).1)))))) [.ob ((l01Cur.c ((belowN c n).2)).map .r), .one (.r (.v (.int .i64 n)))] := by
 refine Eng.Fn.intro (E := E) (rvs := [.tmp 4]) Try.func112 rfl rfl rfl (by simp [outSlots, moved, rvSlot, sl]) ?_
 intro B g bo
 refine CW.le [(0, .obj (bo 0) ((l01Cur.c c).map .r)), (1, I n)] rfl (Le.of rfl) ?_
 refine CW.seq ?_
 refine CW.region ?_
 refine RW.v rfl (V.as (d := I 0) rfl rfl) ?_
 refine RW.nil ?_
 refine CW.le [(0, .obj (bo 0) ((l01Cur.c c).map .r)), (1, I n)] rfl (Le.of rfl) ?_
 refine CW.seq ?_
 refine CW.seq ?_
 refine CW.region ?_
 refine RW.v rfl (V.mv (d := I n) rfl rfl) ?_
 refine RW.v rfl (V.cmpInt rfl rfl rfl rfl) ?_
 refine RW.nil ?_
 refine CW.le [(0, .obj (bo 0) ((l01Cur.c c).map .r)), (1, I n), (10, Bo (decide (n ≤ 0)))] rfl (Le.of rfl) ?_
 refine CW.cond rfl (fun h1 => ?_) (fun h1 => ?_)
 ·skip
  refine CW.seq ?_
  refine CW.region ?_
  refine RW.v rfl (V.as (d := I 0) rfl rfl) ?_
  refine RW.nil ?_
  refine CW.le [(0, .obj (bo 0) ((l01Cur.c c).map .r)), (4, I 0)] rfl (Le.of rfl) ?_
  refine CW.ret ?_
  exact Post.one (RV.i rfl (by unfold belowN; simp at h1; first | (rw [if_pos h1]; done) | (rw [if_neg (by omega)]; simp at h2; first | (rw [if_pos h2]; done) | (rw [if_neg (by omega)]; done)))) (AOs.obE (f := fun e => (l01Cur.c e).map .r) (e' := c) rfl (DT.r (DT.r (DT.r DT.e))) (by unfold belowN; simp at h1; first | (rw [if_pos h1]; done) | (rw [if_neg (by omega)]; simp at h2; first | (rw [if_pos h2]; done) | (rw [if_neg (by omega)]; done))) (AOs.r AOs.e))
 ·skip
  refine CW.skip ?_
  refine CW.le [(0, .obj (bo 0) ((l01Cur.c c).map .r)), (1, I n)] rfl (Le.of rfl) ?_
  refine CW.seq ?_
  refine CW.seq ?_
  refine CW.region ?_
  refine RW.v rfl (V.mv (d := I n) rfl rfl) ?_
  refine RW.v rfl (V.cmpInt rfl rfl rfl rfl) ?_
  refine RW.nil ?_
  refine CW.le [(0, .obj (bo 0) ((l01Cur.c c).map .r)), (1, I n), (12, Bo (decide (n ≤ 256)))] rfl (Le.of rfl) ?_
  refine CW.cond rfl (fun h2 => ?_) (fun h2 => ?_)
  ·skip
   refine CW.seq ?_
   refine CW.region ?_
   refine RW.v rfl (V.mv (d := .pt 0 (bo 0) 0) rfl rfl) ?_
   refine RW.callP (k := 0) (spec_l01Byte_fn c hc) rfl rfl (Nat.le_of_ble_eq_true rfl) (by decide) rfl (DT.r (DT.r (DT.r DT.e))) (AsPs.here rfl (.nil)) fun g3 q4 => ?_
   refine RW.v rfl (V.mv (d := I n) rfl rfl) ?_
   refine RW.v rfl (V.rem rfl rfl rfl (by simp at h1; omega)) ?_
   refine RW.v rfl (V.as (d := I (Int.tmod ((byteN c).1) n)) rfl rfl) ?_
   refine RW.nil ?_
   refine CW.le [(0, .obj (bo 0) ((l01Cur.c ((byteN c).2)).map .r)), (4, I (Int.tmod ((byteN c).1) n))] rfl (Le.of rfl) ?_
   refine CW.ret ?_
   exact Post.one (RV.i rfl (by unfold belowN; simp at h1; first | (rw [if_pos h1]; done) | (rw [if_neg (by omega)]; simp at h2; first | (rw [if_pos h2]; done) | (rw [if_neg (by omega)]; done)))) (AOs.obE (f := fun e => (l01Cur.c e).map .r) (e' := ((byteN c).2)) rfl (DT.r (DT.r (DT.r DT.e))) (by unfold belowN; simp at h1; first | (rw [if_pos h1]; done) | (rw [if_neg (by omega)]; simp at h2; first | (rw [if_pos h2]; done) | (rw [if_neg (by omega)]; done))) (AOs.r AOs.e))
  ·skip
   refine CW.skip ?_
   refine CW.le [(0, .obj (bo 0) ((l01Cur.c c).map .r)), (1, I n)] rfl (Le.of rfl) ?_
   refine CW.seq ?_
   refine CW.region ?_
   refine RW.v rfl (V.mv (d := .pt 0 (bo 0) 0) rfl rfl) ?_
   refine RW.callP (k := 0) (spec_l01Byte_fn c hc) rfl rfl (Nat.le_of_ble_eq_true rfl) (by decide) rfl (DT.r (DT.r (DT.r DT.e))) (AsPs.here rfl (.nil)) fun g5 q6 => ?_
   refine RW.v rfl (V.as (d := I ((byteN c).1)) rfl rfl) ?_
   refine RW.nil ?_
   refine CW.le [(0, .obj (bo 0) ((l01Cur.c ((byteN c).2)).map .r)), (1, I n), (5, I ((byteN c).1))] rfl (Le.of rfl) ?_
   refine CW.seq ?_
   refine CW.region ?_
   refine RW.v rfl (V.mv (d := .pt 0 (bo 0) 0) rfl rfl) ?_
   refine RW.callP (k := 0) (spec_l01Byte_fn ((byteN c).2) (byteN_ok hc)) rfl rfl (Nat.le_of_ble_eq_true rfl) (by decide) rfl (DT.r (DT.r (DT.r DT.e))) (AsPs.here rfl (.nil)) fun g7 q8 => ?_
   refine RW.v rfl (V.as (d := I ((byteN ((byteN c).2)).1)) rfl rfl) ?_
   refine RW.nil ?_
   refine CW.le [(0, .obj (bo 0) ((l01Cur.c ((byteN ((byteN c).2)).2)).map .r)), (1, I n), (5, I ((byteN c).1)), (6, I ((byteN ((byteN c).2)).1))] rfl (Le.of rfl) ?_
   refine CW.seq ?_
   refine CW.region ?_
   refine RW.v rfl (V.mv (d := .pt 0 (bo 0) 0) rfl rfl) ?_
   refine RW.callP (k := 0) (spec_l01Byte_fn ((byteN ((byteN c).2)).2) (byteN_ok (byteN_ok hc))) rfl rfl (Nat.le_of_ble_eq_true rfl) (by decide) rfl (DT.r (DT.r (DT.r DT.e))) (AsPs.here rfl (.nil)) fun g9 q10 => ?_
   refine RW.v rfl (V.as (d := I ((byteN ((byteN ((byteN c).2)).2)).1)) rfl rfl) ?_
   refine RW.nil ?_
   refine CW.le [(0, .obj (bo 0) ((l01Cur.c ((byteN ((byteN ((byteN c).2)).2)).2)).map .r)), (1, I n), (5, I ((byteN c).1)), (6, I ((byteN ((byteN c).2)).1)), (7, I ((byteN ((byteN ((byteN c).2)).2)).1))] rfl (Le.of rfl) ?_
   refine CW.seq ?_
   refine CW.region ?_
   refine RW.v rfl (V.mv (d := .pt 0 (bo 0) 0) rfl rfl) ?_
   refine RW.callP (k := 0) (spec_l01Byte_fn ((byteN ((byteN ((byteN c).2)).2)).2) (byteN_ok (byteN_ok (byteN_ok hc)))) rfl rfl (Nat.le_of_ble_eq_true rfl) (by decide) rfl (DT.r (DT.r (DT.r DT.e))) (AsPs.here rfl (.nil)) fun g11 q12 => ?_
   refine RW.v rfl (V.as (d := I ((byteN ((byteN ((byteN ((byteN c).2)).2)).2)).1)) rfl rfl) ?_
   refine RW.nil ?_
   refine CW.le [(0, .obj (bo 0) ((l01Cur.c ((byteN ((byteN ((byteN ((byteN c).2)).2)).2)).2)).map .r)), (1, I n), (5, I ((byteN c).1)), (6, I ((byteN ((byteN c).2)).1)), (7, I ((byteN ((byteN ((byteN c).2)).2)).1)), (8, I ((byteN ((byteN ((byteN ((byteN c).2)).2)).2)).1))] rfl (Le.of rfl) ?_
   refine CW.seq ?_
   refine CW.region ?_
   refine RW.v rfl (V.mv (d := I ((byteN c).1)) rfl rfl) ?_
   refine RW.v rfl (V.arInt rfl rfl rfl rfl) ?_
   refine RW.v rfl (V.mv (d := I ((byteN ((byteN c).2)).1)) rfl rfl) ?_
   refine RW.v rfl (V.arInt rfl rfl rfl rfl) ?_
   refine RW.v rfl (V.arInt rfl rfl rfl rfl) ?_
   refine RW.v rfl (V.mv (d := I ((byteN ((byteN ((byteN c).2)).2)).1)) rfl rfl) ?_
   refine RW.v rfl (V.arInt rfl rfl rfl rfl) ?_
   refine RW.v rfl (V.arInt rfl rfl rfl rfl) ?_
   refine RW.v rfl (V.mv (d := I ((byteN ((byteN ((byteN ((byteN c).2)).2)).2)).1)) rfl rfl) ?_
   refine RW.v rfl (V.arInt rfl rfl rfl rfl) ?_
   refine RW.v rfl (V.mv (d := I n) rfl rfl) ?_
   refine RW.v rfl (V.rem rfl rfl rfl (by simp at h1; omega)) ?_
   refine RW.v rfl (V.as (d := I (Int.tmod (IntKind.i64.wrap ((IntKind.i64.wrap ((IntKind.i64.wrap ((IntKind.i64.wrap (((byteN c).1) * 16777216)) + (IntKind.i64.wrap (((byteN ((byteN c).2)).1) * 65536)))) + (IntKind.i64.wrap (((byteN ((byteN ((byteN c).2)).2)).1) * 256)))) + ((byteN ((byteN ((byteN ((byteN c).2)).2)).2)).1))) n)) rfl rfl) ?_
   refine RW.nil ?_
   refine CW.le [(0, .obj (bo 0) ((l01Cur.c ((byteN ((byteN ((byteN ((byteN c).2)).2)).2)).2)).map .r)), (4, I (Int.tmod (IntKind.i64.wrap ((IntKind.i64.wrap ((IntKind.i64.wrap ((IntKind.i64.wrap (((byteN c).1) * 16777216)) + (IntKind.i64.wrap (((byteN ((byteN c).2)).1) * 65536)))) + (IntKind.i64.wrap (((byteN ((byteN ((byteN c).2)).2)).1) * 256)))) + ((byteN ((byteN ((byteN ((byteN c).2)).2)).2)).1))) n))] rfl (Le.of rfl) ?_
   refine CW.ret ?_
   exact Post.one (RV.i rfl (by unfold belowN; simp at h1; first | (rw [if_pos h1]; done) | (rw [if_neg (by omega)]; simp at h2; first | (rw [if_pos h2]; done) | (rw [if_neg (by omega)]; done)))) (AOs.obE (f := fun e => (l01Cur.c e).map .r) (e' := ((byteN ((byteN ((byteN ((byteN c).2)).2)).2)).2)) rfl (DT.r (DT.r (DT.r DT.e))) (by unfold belowN; simp at h1; first | (rw [if_pos h1]; done) | (rw [if_neg (by omega)]; simp at h2; first | (rw [if_pos h2]; done) | (rw [if_neg (by omega)]; done))) (AOs.r AOs.e))
set_option maxHeartbeats 4000000 in
theorem spec_DrawPlaces_fn (code : List Int) : Eng.Fn E.P 41 [.one (.r (sl 1 cU code))] (.one (.one (.w (sl 1 cI (drawPlaces code))))) [.one (.r (sl 1 cU code))] := by
 refine Eng.Fn.intro (E := E) (rvs := [.tmp 2]) Try.func41 rfl rfl rfl (by simp [outSlots, moved, rvSlot, sl]) ?_
 intro B g bo
 refine CW.bound (x := .tmp 0) (n := code.length) (AsT.r) (fun hl0 => ?_)
 refine CW.le [(0, .r (sl 1 cU code))] rfl (Le.of rfl) ?_
 refine CW.seq ?_
 refine CW.region ?_
 refine RW.v rfl (V.as (d := .r (.v (.slice none 0 0))) rfl rfl) ?_
 refine RW.nil ?_
 refine CW.le [(0, .r (sl 1 cU code))] rfl (Le.of rfl) ?_
 refine CW.seq ?_
 refine CW.region ?_
 refine RW.v rfl (V.mv (d := .r (sl 1 cU code)) rfl rfl) ?_
 refine RW.call rfl (spec_l01New_fn code) rfl (.cons (.one (.r .r)) (.nil)) fun g1 => ?_
 refine RW.v rfl (V.as (d := .pt 7 (blk (g1 0 3)) 0) rfl rfl) ?_
 refine RW.nil ?_
 refine CW.le [(3, .pt 7 (blk (g1 0 3)) 0), (7, .obj (blk (g1 0 3)) ((l01Cur.c (cur0 code)).map .r))] rfl (Le.of rfl) ?_
 refine CW.seq ?_
 refine CW.region ?_
 refine RW.v rfl (V.mv (d := .pt 7 (blk (g1 0 3)) 0) rfl rfl) ?_
 refine RW.callP (k := 7) (spec_l01Byte_fn (cur0 code) (cur0_ok hl0).2) rfl rfl (Nat.le_of_ble_eq_true rfl) (by decide) rfl (DT.r (DT.r (DT.r DT.e))) (AsPs.here rfl (.nil)) fun g2 q3 => ?_
 refine RW.nil ?_
 refine CW.le [(3, .pt 7 (blk (g1 0 3)) 0), (7, .obj (blk (g1 0 3)) ((l01Cur.c ((byteN (cur0 code)).2)).map .r))] rfl (Le.of rfl) ?_
 refine CW.seq ?_
 refine CW.region ?_
 refine RW.build0 cI rfl rfl rfl rfl rfl fun X4 => ?_
 refine RW.assignMove rfl rfl rfl (by decide) (Nat.le_of_ble_eq_true rfl) (Nat.le_of_ble_eq_true rfl) ?_
 refine RW.nil ?_
 refine CW.le [(3, .pt 7 (blk (g1 0 3)) 0), (4, .w (sl 1 cI ([] : List Int)) X4), (7, .obj (blk (g1 0 3)) ((l01Cur.c ((byteN (cur0 code)).2)).map .r))] rfl (Le.of rfl) ?_
 refine CW.seq ?_
 refine CW.seq ?_
 refine CW.region ?_
 refine RW.v rfl (V.as (d := I 0) rfl rfl) ?_
 refine RW.nil ?_
 refine CW.le [(3, .pt 7 (blk (g1 0 3)) 0), (4, .w (sl 1 cI ([] : List Int)) X4), (5, I 0), (7, .obj (blk (g1 0 3)) ((l01Cur.c ((byteN (cur0 code)).2)).map .r))] rfl (Le.of rfl) ?_
 refine CW.block ?_
 refine CW.loopI 21 (fun (zz : Nat × List Int × Value × l01Cur) => match zz with | (i, l, X, c) => [(3, .pt 7 (blk (g1 0 3)) 0), (4, .w (sl 1 cI l) X), (5, I (i : Int)), (7, .obj (blk (g1 0 3)) ((l01Cur.c c).map .r))]) (fun (zz : Nat × List Int × Value × l01Cur) => match zz with | (i, l, X, c) => PlP code i l c) (fun (zz : Nat × List Int × Value × l01Cur) => match zz with | (i, l, X, c) => 12 - i) (0, [], _, _) rfl (Le.c rfl <| Le.c rfl <| Le.c rfl <| Le.c rfl <| Le.e) (PlP.init hl0) ?_
 rintro ⟨i, l, X, c⟩ hP
 refine CW.seq ?_
 refine CW.seq ?_
 refine CW.region ?_
 refine RW.v rfl (V.mv (d := I (i : Int)) rfl rfl) ?_
 refine RW.v rfl (V.cmpInt rfl rfl rfl rfl) ?_
 refine RW.nil ?_
 refine CW.le [(3, .pt 7 (blk (g1 0 3)) 0), (4, .w (sl 1 cI l) X), (5, I (i : Int)), (7, .obj (blk (g1 0 3)) ((l01Cur.c c).map .r)), (12, Bo (decide ((i : Int) < 12)))] rfl (Le.of rfl) ?_
 refine CW.cond rfl (fun h5 => ?_) (fun h5 => ?_)
 ·skip
  have hlt : i < 12 := by simp at h5; omega
  refine CW.skip ?_
  refine CW.le [(3, .pt 7 (blk (g1 0 3)) 0), (4, .w (sl 1 cI l) X), (5, I (i : Int)), (7, .obj (blk (g1 0 3)) ((l01Cur.c c).map .r))] rfl (Le.of rfl) ?_
  refine CW.seq ?_
  refine CW.block ?_
  refine CW.region ?_
  refine RW.v rfl (V.mv (d := .al 4 none 1 l.length X 0) rfl rfl) ?_
  refine RW.v rfl (V.mv (d := .pt 7 (blk (g1 0 3)) 0) rfl rfl) ?_
  refine RW.callP (k := 7) (spec_l01Below_fn c 10000 hP.1) rfl rfl (Nat.le_of_ble_eq_true rfl) (by decide) rfl (DT.r (DT.r (DT.r DT.e))) (AsPs.here rfl (.cons (.one (.r .r)) (.nil))) fun g6 q7 => ?_
  refine RW.build1c (c := cI) (v := ((belowN c 10000).1)) (u := .v (.int .i64 ((belowN c 10000).1))) rfl rfl rfl rfl rfl rfl (.inl rfl) rfl rfl fun X8 => ?_
  refine RW.appendSR (c := cI) (l1 := l) (l2 := [((belowN c 10000).1)]) rfl rfl rfl rfl rfl rfl rfl rfl (.al (k := none) (i := 18) (sz := 1) (V := X8) rfl rfl nofun) (by decide) (Nat.le_of_ble_eq_true rfl) cI.len (fun _ => rfl) rfl (by have h7 := hP.2.1; simp only [maxLen, List.length_singleton]; omega) (by have h7 := hP.2.1; simp only [maxLen, List.length_singleton]; omega) fun X9 => ?_
  refine RW.assignMove rfl rfl rfl (by decide) (Nat.le_of_ble_eq_true rfl) (Nat.le_of_ble_eq_true rfl) ?_
  refine RW.nil ?_
  refine CW.le [(3, .pt 7 (blk (g1 0 3)) 0), (4, .w (sl 1 cI (l ++ ([((belowN c 10000).1)]))) X9), (5, I (i : Int)), (7, .obj (blk (g1 0 3)) ((l01Cur.c ((belowN c 10000).2)).map .r))] rfl (Le.of rfl) ?_
  refine CW.region ?_
  refine RW.v rfl (V.mv (d := I (i : Int)) rfl rfl) ?_
  refine RW.v rfl (V.inc rfl rfl rfl hlt (by simp only [maxLen]; omega)) ?_
  refine RW.v rfl (V.as (d := I ((i + 1 : Nat) : Int)) rfl rfl) ?_
  refine RW.nil ?_
  exact ⟨(i + 1, _, _, _), by simp only []; omega, (hP.step hlt), rfl, Le.c rfl <| Le.c rfl <| Le.c rfl <| Le.c rfl <| Le.e⟩
 ·skip
  have hge : 12 ≤ i := by simp at h5; omega
  refine CW.exit ?_
  refine CW.le [(4, .w (sl 1 cI l) X)] rfl (Le.of rfl) ?_
  refine CW.seq ?_
  refine CW.region ?_
  refine RW.v rfl (V.mv (d := .al 4 none 1 l.length X 0) rfl rfl) ?_
  refine RW.v rfl (V.as (d := .al 4 none 1 l.length X 0) rfl rfl) ?_
  refine RW.pullS 2 4 (by decide) rfl rfl ?_
  refine RW.nil ?_
  refine CW.le [(2, .w (sl 1 cI l) X)] rfl (Le.of rfl) ?_
  refine CW.ret ?_
  exact Post.one (RV.w rfl (by exact hP.fin hge)) (AOs.r AOs.e)
theorem newN (code : List Int) : Eng.Fn E.P 26 [.one (.r (.v (.int .i64 (idN code)))), .one (.r (sl 1 cI [idN code]))] (.tup [.agg ((Node.c (n0 (idN code))).map .w), .one (.w (.v (.bool true)))]) [.one (.r (.v (.int .i64 (idN code)))), .one (.r (sl 1 cI [idN code]))] := by
  have hi := idN_in code
  have h := impl_NodeNew_fn (idN code) [idN code] (Nat.le_of_ble_eq_true rfl)
  rw [new_0 hi] at h
  exact h
theorem tickN1 (code : List Int) : Eng.Fn E.P 39 [.agg ((Node.c (n1 (idN code))).map .r), .one (.r (.v (.int .i64 5)))] (.tup [.agg ((Node.c (nA (idN code))).map .w), .one (.w (sl 12 Message.c [])), .one (.w (.v (.bool true)))]) [.agg ((Node.c (n1 (idN code))).map .r), .one (.r (.v (.int .i64 5)))] := by
  have hi := idN_in code
  have h := impl_Tick_fn (n1 (idN code)) 5 (ok_n1 hi)
  rw [tick_1 hi] at h
  exact h
theorem propA (code : List Int) : Eng.Fn E.P 34 [.agg ((Node.c (nA (idN code))).map .r), .one (.r (.v (.int .i64 3))), .one (.r (.v (.string someT)))] (.tup [.agg ((Node.c (nB (idN code))).map .w), .one (.w (sl 12 Message.c ([] : List Message))), .one (.w (.v (.int .i64 2))), .one (.w (.v (.bool true)))]) [.agg ((Node.c (nA (idN code))).map .r), .one (.r (.v (.int .i64 3))), .one (.r (.v (.string someT)))] := by
  have hi := idN_in code
  have h := impl_Propose_fn (nA (idN code)) 3 someT (ok_nA hi) (by decide)
  rw [prop_A hi] at h
  exact h
theorem propB (code : List Int) : Eng.Fn E.P 34 [.agg ((Node.c (nB (idN code))).map .r), .one (.r (.v (.int .i64 2))), .one (.r (.v (.string (txt (two (idN code))))))] (.tup [.agg ((Node.c (nC (idN code))).map .w), .one (.w (sl 12 Message.c [sendN (nC (idN code)) ⟨oth (idN code), 3, 0, 0⟩])), .one (.w (.v (.int .i64 3))), .one (.w (.v (.bool true)))]) [.agg ((Node.c (nB (idN code))).map .r), .one (.r (.v (.int .i64 2))), .one (.r (.v (.string (txt (two (idN code))))))] := by
  have hi := idN_in code
  have h := impl_Propose_fn (nB (idN code)) 2 (txt (two (idN code))) (ok_nB hi) (txt_len hi).1
  rw [prop_B hi] at h
  exact h
theorem propC (code : List Int) : Eng.Fn E.P 34 [.agg ((Node.c (nC (idN code))).map .r), .one (.r (.v (.int .i64 2))), .one (.r (.v (.string (txt [idN code]))))] (.tup [.agg ((Node.c (Node.z)).map .w), .one (.w (sl 12 Message.c ([] : List Message))), .one (.w (.v (.int .i64 0))), .one (.w (.v (.bool false)))]) [.agg ((Node.c (nC (idN code))).map .r), .one (.r (.v (.int .i64 2))), .one (.r (.v (.string (txt [idN code]))))] := by
  have hi := idN_in code
  have h := impl_Propose_fn (nC (idN code)) 2 (txt [idN code]) (ok_nC hi) (txt_len hi).2.1
  rw [prop_C hi] at h
  exact h
theorem text2 (code : List Int) : Eng.Fn E.P 42 [.one (.r (sl 1 cI (two (idN code))))] (.tup [.one (.w (.v (.string (txt (two (idN code)))))), .one (.w (.v (.bool true)))]) [.one (.r (sl 1 cI (two (idN code))))] := by
  have hi := idN_in code
  have h := spec_ConfText_fn (two (idN code)) (txt_len hi).2.2
  rw [text_two hi] at h
  exact h
theorem text1 (code : List Int) : Eng.Fn E.P 42 [.one (.r (sl 1 cI [idN code]))] (.tup [.one (.w (.v (.string (txt [idN code])))), .one (.w (.v (.bool true)))]) [.one (.r (sl 1 cI [idN code]))] := by
  have hi := idN_in code
  have h := spec_ConfText_fn [idN code] (Nat.le_of_ble_eq_true rfl)
  rw [text_one hi] at h
  exact h
theorem settleC (code : List Int) : Eng.Fn E.P 32 [.agg ((Node.c (nC (idN code))).map .r), .one (.r (.v (.int .i64 1)))] (.tup [.agg ((Node.c (nS (idN code))).map .w), .one (.w (.v (.bool true)))]) [.agg ((Node.c (nC (idN code))).map .r), .one (.r (.v (.int .i64 1)))] := by
  have hi := idN_in code
  have h := impl_Settle_fn (nC (idN code)) 1 (ok_nC hi)
  rw [settle_C hi] at h
  exact h
theorem confC (code : List Int) : Eng.Fn E.P 44 [.agg ((Node.c (nC (idN code))).map .r)] (.one (.one (.w (sl 1 cI (two (idN code)))))) [.agg ((Node.c (nC (idN code))).map .r)] := by
  have hi := idN_in code
  have h := impl_ConfOf_fn (nC (idN code)) (ok_nC hi)
  rw [show (lastC (nC (idN code)) (logLast (nC (idN code)).log).1).2 = two (idN code) from conf_C hi] at h
  exact h
theorem atC (code : List Int) : Eng.Fn E.P 45 [.agg ((Node.c (nC (idN code))).map .r), .one (.r (.v (.int .i64 2)))] (.one (.one (.w (sl 1 cI [idN code])))) [.agg ((Node.c (nC (idN code))).map .r), .one (.r (.v (.int .i64 2)))] := by
  have hi := idN_in code
  have h := impl_ConfAt_fn (nC (idN code)) 2 (ok_nC hi)
  rw [at_C hi] at h
  exact h
theorem okS (code : List Int) : Eng.Fn E.P 22 [.agg ((Node.c (nS (idN code))).map .r)] (.one (.one (.w (.v (.bool true))))) [.agg ((Node.c (nS (idN code))).map .r)] := by
  have hi := idN_in code
  have h := impl_NodeOk_fn (nS (idN code)) (ok_nS hi)
  rw [ok_S hi] at h
  exact h
set_option maxHeartbeats 4000000 in
theorem laws_FnAlone_fn (code : List Int) : Eng.Fn E.P 9 [.one (.r (sl 1 cU code))] (.one (.one (.w (.v (.bool true))))) [.one (.r (sl 1 cU code))] := by
 refine Eng.Fn.intro (E := E) (rvs := [.tmp 2]) Try.func9 rfl rfl rfl (by simp [outSlots, moved, rvSlot, sl]) ?_
 intro B g bo
 refine CW.bound (x := .tmp 0) (n := code.length) (AsT.r) (fun hl0 => ?_)
 refine CW.le [(0, .r (sl 1 cU code))] rfl (Le.of rfl) ?_
 refine CW.seq ?_
 refine CW.region ?_
 refine RW.v rfl (V.as (d := Bo false) rfl rfl) ?_
 refine RW.nil ?_
 refine CW.le [(0, .r (sl 1 cU code))] rfl (Le.of rfl) ?_
 refine CW.seq ?_
 refine CW.seq ?_
 refine CW.region ?_
 refine RW.v rfl (V.mv (d := .r (sl 1 cU code)) rfl rfl) ?_
 refine RW.call rfl (laws_big_fn code) rfl (.cons (.one (.r .r)) (.nil)) fun g1 => ?_
 refine RW.nil ?_
 refine CW.le [(0, .r (sl 1 cU code)), (31, Bo (decide ((code.length : Int) > 1048576)))] rfl (Le.of rfl) ?_
 refine CW.cond rfl (fun h2 => ?_) (fun h2 => ?_)
 ·skip
  refine CW.seq ?_
  refine CW.region ?_
  refine RW.v rfl (V.as (d := Bo true) rfl rfl) ?_
  refine RW.nil ?_
  refine CW.le [(2, Bo true)] rfl (Le.of rfl) ?_
  refine CW.ret ?_
  exact Post.one (RV.b rfl (by first | rfl | (exfalso; simp_all [nA, nB]; done) | (rw [show eqS eqI [idN code] [(IntKind.i64.wrap (1 + (Int.tmod ((drawPlaces code).getD 0 0) 4)))] = true from eqS_refl eqI_refl [idN code]] at hv48; simp_all [nC, nS, eqS_refl eqI_refl]; done))) (AOs.r AOs.e)
 ·skip
  refine CW.skip ?_
  refine CW.le [(0, .r (sl 1 cU code))] rfl (Le.of rfl) ?_
  refine CW.seq ?_
  refine CW.region ?_
  refine RW.v rfl (V.mv (d := .r (sl 1 cU code)) rfl rfl) ?_
  refine RW.call rfl (spec_DrawPlaces_fn code) rfl (.cons (.one (.r .r)) (.nil)) fun g3 => ?_
  refine RW.assignMove rfl rfl rfl (by decide) (Nat.le_of_ble_eq_true rfl) (Nat.le_of_ble_eq_true rfl) ?_
  refine RW.nil ?_
  refine CW.le [(3, .w (sl 1 cI (drawPlaces code)) (g3 0 0))] rfl (Le.of rfl) ?_
  refine CW.seq ?_
  refine CW.region ?_
  refine RW.v rfl (V.mv (d := .al 3 none 1 ((drawPlaces code).length) (g3 0 0) 0) rfl rfl) ?_
  refine RW.v rfl (V.indexW (m := 0) rfl rfl rfl rfl rfl rfl rfl (by rw [draw_len]; decide)) ?_
  refine RW.v rfl (V.loadF (m := 0) (off := 0) rfl rfl (.inl rfl) rfl rfl cI.len (getD_some (z := (0 : Int)) (by rw [draw_len]; decide)) (by decide) rfl) ?_
  refine RW.v rfl (V.rem rfl rfl rfl (by decide)) ?_
  refine RW.v rfl (V.arInt rfl rfl rfl rfl) ?_
  refine RW.v rfl (V.as (d := I (IntKind.i64.wrap (1 + (Int.tmod ((drawPlaces code).getD 0 0) 4)))) rfl rfl) ?_
  refine RW.nil ?_
  refine CW.le [(4, I (IntKind.i64.wrap (1 + (Int.tmod ((drawPlaces code).getD 0 0) 4))))] rfl (Le.of rfl) ?_
  refine CW.seq ?_
  refine CW.region ?_
  refine RW.v rfl (V.mv (d := I (IntKind.i64.wrap (1 + (Int.tmod ((drawPlaces code).getD 0 0) 4)))) rfl rfl) ?_
  refine RW.v rfl (V.mv (d := I (IntKind.i64.wrap (1 + (Int.tmod ((drawPlaces code).getD 0 0) 4)))) rfl rfl) ?_
  refine RW.build1c (c := cI) (v := (IntKind.i64.wrap (1 + (Int.tmod ((drawPlaces code).getD 0 0) 4)))) (u := .v (.int .i64 (IntKind.i64.wrap (1 + (Int.tmod ((drawPlaces code).getD 0 0) 4))))) rfl rfl rfl rfl rfl rfl (.inl rfl) rfl rfl fun X4 => ?_
  refine RW.callOwn rfl (newN code) rfl (.cons (.one (.r .r)) (.cons (.one (.r (.al (k := none) (i := 42) (sz := 1) (V := X4) rfl rfl nofun))) (.nil))) rfl fun g5 => ?_
  refine RW.moveMove rfl rfl rfl (by decide) (Nat.le_of_ble_eq_true rfl) (Nat.le_of_ble_eq_true rfl) ?_
  refine RW.extract (d := .agg [I ((n0 (idN code)).id), I ((n0 (idN code)).term_), I ((n0 (idN code)).vote), I ((n0 (idN code)).role), I ((n0 (idN code)).lead), .w (sl 1 cI ((n0 (idN code)).conf)) (g5 0 5), I (((n0 (idN code)).log).start), I (((n0 (idN code)).log).startTerm), .w (sl 3 Entry.c (((n0 (idN code)).log).entries)) (g5 0 8), I ((n0 (idN code)).commit), I ((n0 (idN code)).clock), I ((n0 (idN code)).limit), .w (sl 1 cI ((n0 (idN code)).votes)) (g5 0 12), .w (sl 4 Peer.c ((n0 (idN code)).peers)) (g5 0 13)]) rfl rfl rfl (by decide) (Nat.le_of_ble_eq_true rfl) rfl rfl ?_
  refine RW.extract (d := Bo true) rfl rfl rfl (by decide) (Nat.le_of_ble_eq_true rfl) rfl rfl ?_
  refine RW.alloc (ds := [I 0, I 0, I 0, I 0, I 0, .r (.v (.slice none 0 0)), I 0, I 0, .r (.v (.slice none 0 0)), I 0, I 0, I 0, .r (.v (.slice none 0 0)), .r (.v (.slice none 0 0))]) rfl rfl rfl rfl fun b6 => ?_
  refine RW.storeAgg (es := [I ((n0 (idN code)).id), I ((n0 (idN code)).term_), I ((n0 (idN code)).vote), I ((n0 (idN code)).role), I ((n0 (idN code)).lead), .al 44 (some 5) 1 (((n0 (idN code)).conf).length) (g5 0 5) 0, I (((n0 (idN code)).log).start), I (((n0 (idN code)).log).startTerm), .al 44 (some 8) 3 ((((n0 (idN code)).log).entries).length) (g5 0 8) 0, I ((n0 (idN code)).commit), I ((n0 (idN code)).clock), I ((n0 (idN code)).limit), .al 44 (some 12) 1 (((n0 (idN code)).votes).length) (g5 0 12) 0, .al 44 (some 13) 4 (((n0 (idN code)).peers).length) (g5 0 13) 0]) rfl rfl rfl rfl rfl rfl rfl rfl (Nat.le_of_ble_eq_true rfl) rfl ?_
  refine RW.le [(4, I (IntKind.i64.wrap (1 + (Int.tmod ((drawPlaces code).getD 0 0) 4)))), (5, .obj b6 [I ((n0 (idN code)).id), I ((n0 (idN code)).term_), I ((n0 (idN code)).vote), I ((n0 (idN code)).role), I ((n0 (idN code)).lead), .al 44 (some 5) 1 (((n0 (idN code)).conf).length) (g5 0 5) 0, I (((n0 (idN code)).log).start), I (((n0 (idN code)).log).startTerm), .al 44 (some 8) 3 ((((n0 (idN code)).log).entries).length) (g5 0 8) 0, I ((n0 (idN code)).commit), I ((n0 (idN code)).clock), I ((n0 (idN code)).limit), .al 44 (some 12) 1 (((n0 (idN code)).votes).length) (g5 0 12) 0, .al 44 (some 13) 4 (((n0 (idN code)).peers).length) (g5 0 13) 0]), (44, .agg [I ((n0 (idN code)).id), I ((n0 (idN code)).term_), I ((n0 (idN code)).vote), I ((n0 (idN code)).role), I ((n0 (idN code)).lead), .w (sl 1 cI ((n0 (idN code)).conf)) (g5 0 5), I (((n0 (idN code)).log).start), I (((n0 (idN code)).log).startTerm), .w (sl 3 Entry.c (((n0 (idN code)).log).entries)) (g5 0 8), I ((n0 (idN code)).commit), I ((n0 (idN code)).clock), I ((n0 (idN code)).limit), .w (sl 1 cI ((n0 (idN code)).votes)) (g5 0 12), .w (sl 4 Peer.c ((n0 (idN code)).peers)) (g5 0 13)]), (45, Bo true)] rfl (Le.of rfl) ?_
  refine RW.pullA (k := 5) (l := 44) (j := 5) 5 44 5 rfl rfl rfl (by decide) rfl rfl rfl rfl ?_
  refine RW.le [(4, I (IntKind.i64.wrap (1 + (Int.tmod ((drawPlaces code).getD 0 0) 4)))), (5, .obj b6 [I ((n0 (idN code)).id), I ((n0 (idN code)).term_), I ((n0 (idN code)).vote), I ((n0 (idN code)).role), I ((n0 (idN code)).lead), .w (sl 1 cI ((n0 (idN code)).conf)) (g5 0 5), I (((n0 (idN code)).log).start), I (((n0 (idN code)).log).startTerm), .al 44 (some 8) 3 ((((n0 (idN code)).log).entries).length) (g5 0 8) 0, I ((n0 (idN code)).commit), I ((n0 (idN code)).clock), I ((n0 (idN code)).limit), .al 44 (some 12) 1 (((n0 (idN code)).votes).length) (g5 0 12) 0, .al 44 (some 13) 4 (((n0 (idN code)).peers).length) (g5 0 13) 0]), (44, .agg [I ((n0 (idN code)).id), I ((n0 (idN code)).term_), I ((n0 (idN code)).vote), I ((n0 (idN code)).role), I ((n0 (idN code)).lead), .u, I (((n0 (idN code)).log).start), I (((n0 (idN code)).log).startTerm), .w (sl 3 Entry.c (((n0 (idN code)).log).entries)) (g5 0 8), I ((n0 (idN code)).commit), I ((n0 (idN code)).clock), I ((n0 (idN code)).limit), .w (sl 1 cI ((n0 (idN code)).votes)) (g5 0 12), .w (sl 4 Peer.c ((n0 (idN code)).peers)) (g5 0 13)]), (45, Bo true)] rfl (Le.of rfl) ?_
  refine RW.pullA (k := 5) (l := 44) (j := 8) 5 44 8 rfl rfl rfl (by decide) rfl rfl rfl rfl ?_
  refine RW.le [(4, I (IntKind.i64.wrap (1 + (Int.tmod ((drawPlaces code).getD 0 0) 4)))), (5, .obj b6 [I ((n0 (idN code)).id), I ((n0 (idN code)).term_), I ((n0 (idN code)).vote), I ((n0 (idN code)).role), I ((n0 (idN code)).lead), .w (sl 1 cI ((n0 (idN code)).conf)) (g5 0 5), I (((n0 (idN code)).log).start), I (((n0 (idN code)).log).startTerm), .w (sl 3 Entry.c (((n0 (idN code)).log).entries)) (g5 0 8), I ((n0 (idN code)).commit), I ((n0 (idN code)).clock), I ((n0 (idN code)).limit), .al 44 (some 12) 1 (((n0 (idN code)).votes).length) (g5 0 12) 0, .al 44 (some 13) 4 (((n0 (idN code)).peers).length) (g5 0 13) 0]), (44, .agg [I ((n0 (idN code)).id), I ((n0 (idN code)).term_), I ((n0 (idN code)).vote), I ((n0 (idN code)).role), I ((n0 (idN code)).lead), .u, I (((n0 (idN code)).log).start), I (((n0 (idN code)).log).startTerm), .u, I ((n0 (idN code)).commit), I ((n0 (idN code)).clock), I ((n0 (idN code)).limit), .w (sl 1 cI ((n0 (idN code)).votes)) (g5 0 12), .w (sl 4 Peer.c ((n0 (idN code)).peers)) (g5 0 13)]), (45, Bo true)] rfl (Le.of rfl) ?_
  refine RW.pullA (k := 5) (l := 44) (j := 12) 5 44 12 rfl rfl rfl (by decide) rfl rfl rfl rfl ?_
  refine RW.le [(4, I (IntKind.i64.wrap (1 + (Int.tmod ((drawPlaces code).getD 0 0) 4)))), (5, .obj b6 [I ((n0 (idN code)).id), I ((n0 (idN code)).term_), I ((n0 (idN code)).vote), I ((n0 (idN code)).role), I ((n0 (idN code)).lead), .w (sl 1 cI ((n0 (idN code)).conf)) (g5 0 5), I (((n0 (idN code)).log).start), I (((n0 (idN code)).log).startTerm), .w (sl 3 Entry.c (((n0 (idN code)).log).entries)) (g5 0 8), I ((n0 (idN code)).commit), I ((n0 (idN code)).clock), I ((n0 (idN code)).limit), .w (sl 1 cI ((n0 (idN code)).votes)) (g5 0 12), .al 44 (some 13) 4 (((n0 (idN code)).peers).length) (g5 0 13) 0]), (44, .agg [I ((n0 (idN code)).id), I ((n0 (idN code)).term_), I ((n0 (idN code)).vote), I ((n0 (idN code)).role), I ((n0 (idN code)).lead), .u, I (((n0 (idN code)).log).start), I (((n0 (idN code)).log).startTerm), .u, I ((n0 (idN code)).commit), I ((n0 (idN code)).clock), I ((n0 (idN code)).limit), .u, .w (sl 4 Peer.c ((n0 (idN code)).peers)) (g5 0 13)]), (45, Bo true)] rfl (Le.of rfl) ?_
  refine RW.pullA (k := 5) (l := 44) (j := 13) 5 44 13 rfl rfl rfl (by decide) rfl rfl rfl rfl ?_
  refine RW.le [(4, I (IntKind.i64.wrap (1 + (Int.tmod ((drawPlaces code).getD 0 0) 4)))), (5, .obj b6 [I ((n0 (idN code)).id), I ((n0 (idN code)).term_), I ((n0 (idN code)).vote), I ((n0 (idN code)).role), I ((n0 (idN code)).lead), .w (sl 1 cI ((n0 (idN code)).conf)) (g5 0 5), I (((n0 (idN code)).log).start), I (((n0 (idN code)).log).startTerm), .w (sl 3 Entry.c (((n0 (idN code)).log).entries)) (g5 0 8), I ((n0 (idN code)).commit), I ((n0 (idN code)).clock), I ((n0 (idN code)).limit), .w (sl 1 cI ((n0 (idN code)).votes)) (g5 0 12), .w (sl 4 Peer.c ((n0 (idN code)).peers)) (g5 0 13)]), (45, Bo true)] rfl (Le.of rfl) ?_
  refine RW.v rfl (V.as (d := Bo true) rfl rfl) ?_
  refine RW.nil ?_
  refine CW.le [(4, I (IntKind.i64.wrap (1 + (Int.tmod ((drawPlaces code).getD 0 0) 4)))), (5, .obj b6 [I ((n0 (idN code)).id), I ((n0 (idN code)).term_), I ((n0 (idN code)).vote), I ((n0 (idN code)).role), I ((n0 (idN code)).lead), .w (sl 1 cI ((n0 (idN code)).conf)) (g5 0 5), I (((n0 (idN code)).log).start), I (((n0 (idN code)).log).startTerm), .w (sl 3 Entry.c (((n0 (idN code)).log).entries)) (g5 0 8), I ((n0 (idN code)).commit), I ((n0 (idN code)).clock), I ((n0 (idN code)).limit), .w (sl 1 cI ((n0 (idN code)).votes)) (g5 0 12), .w (sl 4 Peer.c ((n0 (idN code)).peers)) (g5 0 13)]), (6, Bo true)] rfl (Le.of rfl) ?_
  refine CW.seq ?_
  refine CW.region ?_
  refine RW.v rfl (V.field rfl rfl rfl rfl (by decide) rfl) ?_
  refine RW.store (d := I 1) rfl rfl rfl rfl rfl rfl rfl (Nat.le_of_ble_eq_true rfl) rfl rfl ?_
  refine RW.nil ?_
  refine CW.le [(4, I (IntKind.i64.wrap (1 + (Int.tmod ((drawPlaces code).getD 0 0) 4)))), (5, .obj b6 [I ((n0 (idN code)).id), I ((n0 (idN code)).term_), I ((n0 (idN code)).vote), I ((n0 (idN code)).role), I ((n0 (idN code)).lead), .w (sl 1 cI ((n0 (idN code)).conf)) (g5 0 5), I (((n0 (idN code)).log).start), I (((n0 (idN code)).log).startTerm), .w (sl 3 Entry.c (((n0 (idN code)).log).entries)) (g5 0 8), I ((n0 (idN code)).commit), I ((n0 (idN code)).clock), I 1, .w (sl 1 cI ((n0 (idN code)).votes)) (g5 0 12), .w (sl 4 Peer.c ((n0 (idN code)).peers)) (g5 0 13)]), (6, Bo true)] rfl (Le.of rfl) ?_
  refine CW.seq ?_
  refine CW.region ?_
  refine RW.v rfl (V.loadAgg rfl rfl rfl rfl rfl (Nat.le_of_ble_eq_true rfl)) ?_
  refine RW.callOwn rfl (tickN1 code) rfl (.cons (.agg (.cons (.r .r) (.cons (.r .r) (.cons (.r .r) (.cons (.r .r) (.cons (.r .r) (.cons (.r (.alo (k := none) (i := 5) (j := 5) (sz := 1) (V := (g5 0 5)) rfl rfl rfl nofun)) (.cons (.r .r) (.cons (.r .r) (.cons (.r (.alo (k := none) (i := 5) (j := 8) (sz := 3) (V := (g5 0 8)) rfl rfl rfl nofun)) (.cons (.r .r) (.cons (.r .r) (.cons (.r .r) (.cons (.r (.alo (k := none) (i := 5) (j := 12) (sz := 1) (V := (g5 0 12)) rfl rfl rfl nofun)) (.cons (.r (.alo (k := none) (i := 5) (j := 13) (sz := 4) (V := (g5 0 13)) rfl rfl rfl nofun)) (.nil)))))))))))))))) (.cons (.one (.r .r)) (.nil))) rfl fun g7 => ?_
  refine RW.moveMove rfl rfl rfl (by decide) (Nat.le_of_ble_eq_true rfl) (Nat.le_of_ble_eq_true rfl) ?_
  refine RW.extract (d := .agg [I ((nA (idN code)).id), I ((nA (idN code)).term_), I ((nA (idN code)).vote), I ((nA (idN code)).role), I ((nA (idN code)).lead), .w (sl 1 cI ((nA (idN code)).conf)) (g7 0 5), I (((nA (idN code)).log).start), I (((nA (idN code)).log).startTerm), .w (sl 3 Entry.c (((nA (idN code)).log).entries)) (g7 0 8), I ((nA (idN code)).commit), I ((nA (idN code)).clock), I ((nA (idN code)).limit), .w (sl 1 cI ((nA (idN code)).votes)) (g7 0 12), .w (sl 4 Peer.c ((nA (idN code)).peers)) (g7 0 13)]) rfl rfl rfl (by decide) (Nat.le_of_ble_eq_true rfl) rfl rfl ?_
  refine RW.extract (d := .w (sl 12 Message.c ([] : List Message)) (g7 1 0)) rfl rfl rfl (by decide) (Nat.le_of_ble_eq_true rfl) rfl rfl ?_
  refine RW.extract (d := Bo true) rfl rfl rfl (by decide) (Nat.le_of_ble_eq_true rfl) rfl rfl ?_
  refine RW.alloc (ds := [I 0, I 0, I 0, I 0, I 0, .r (.v (.slice none 0 0)), I 0, I 0, .r (.v (.slice none 0 0)), I 0, I 0, I 0, .r (.v (.slice none 0 0)), .r (.v (.slice none 0 0))]) rfl rfl rfl rfl fun b8 => ?_
  refine RW.storeAgg (es := [I ((nA (idN code)).id), I ((nA (idN code)).term_), I ((nA (idN code)).vote), I ((nA (idN code)).role), I ((nA (idN code)).lead), .al 50 (some 5) 1 (((nA (idN code)).conf).length) (g7 0 5) 0, I (((nA (idN code)).log).start), I (((nA (idN code)).log).startTerm), .al 50 (some 8) 3 ((((nA (idN code)).log).entries).length) (g7 0 8) 0, I ((nA (idN code)).commit), I ((nA (idN code)).clock), I ((nA (idN code)).limit), .al 50 (some 12) 1 (((nA (idN code)).votes).length) (g7 0 12) 0, .al 50 (some 13) 4 (((nA (idN code)).peers).length) (g7 0 13) 0]) rfl rfl rfl rfl rfl rfl rfl rfl (Nat.le_of_ble_eq_true rfl) rfl ?_
  refine RW.le [(4, I (IntKind.i64.wrap (1 + (Int.tmod ((drawPlaces code).getD 0 0) 4)))), (6, Bo true), (7, .obj b8 [I ((nA (idN code)).id), I ((nA (idN code)).term_), I ((nA (idN code)).vote), I ((nA (idN code)).role), I ((nA (idN code)).lead), .al 50 (some 5) 1 (((nA (idN code)).conf).length) (g7 0 5) 0, I (((nA (idN code)).log).start), I (((nA (idN code)).log).startTerm), .al 50 (some 8) 3 ((((nA (idN code)).log).entries).length) (g7 0 8) 0, I ((nA (idN code)).commit), I ((nA (idN code)).clock), I ((nA (idN code)).limit), .al 50 (some 12) 1 (((nA (idN code)).votes).length) (g7 0 12) 0, .al 50 (some 13) 4 (((nA (idN code)).peers).length) (g7 0 13) 0]), (50, .agg [I ((nA (idN code)).id), I ((nA (idN code)).term_), I ((nA (idN code)).vote), I ((nA (idN code)).role), I ((nA (idN code)).lead), .w (sl 1 cI ((nA (idN code)).conf)) (g7 0 5), I (((nA (idN code)).log).start), I (((nA (idN code)).log).startTerm), .w (sl 3 Entry.c (((nA (idN code)).log).entries)) (g7 0 8), I ((nA (idN code)).commit), I ((nA (idN code)).clock), I ((nA (idN code)).limit), .w (sl 1 cI ((nA (idN code)).votes)) (g7 0 12), .w (sl 4 Peer.c ((nA (idN code)).peers)) (g7 0 13)]), (51, .w (sl 12 Message.c ([] : List Message)) (g7 1 0)), (52, Bo true)] rfl (Le.of rfl) ?_
  refine RW.pullA (k := 7) (l := 50) (j := 5) 7 50 5 rfl rfl rfl (by decide) rfl rfl rfl rfl ?_
  refine RW.le [(4, I (IntKind.i64.wrap (1 + (Int.tmod ((drawPlaces code).getD 0 0) 4)))), (6, Bo true), (7, .obj b8 [I ((nA (idN code)).id), I ((nA (idN code)).term_), I ((nA (idN code)).vote), I ((nA (idN code)).role), I ((nA (idN code)).lead), .w (sl 1 cI ((nA (idN code)).conf)) (g7 0 5), I (((nA (idN code)).log).start), I (((nA (idN code)).log).startTerm), .al 50 (some 8) 3 ((((nA (idN code)).log).entries).length) (g7 0 8) 0, I ((nA (idN code)).commit), I ((nA (idN code)).clock), I ((nA (idN code)).limit), .al 50 (some 12) 1 (((nA (idN code)).votes).length) (g7 0 12) 0, .al 50 (some 13) 4 (((nA (idN code)).peers).length) (g7 0 13) 0]), (50, .agg [I ((nA (idN code)).id), I ((nA (idN code)).term_), I ((nA (idN code)).vote), I ((nA (idN code)).role), I ((nA (idN code)).lead), .u, I (((nA (idN code)).log).start), I (((nA (idN code)).log).startTerm), .w (sl 3 Entry.c (((nA (idN code)).log).entries)) (g7 0 8), I ((nA (idN code)).commit), I ((nA (idN code)).clock), I ((nA (idN code)).limit), .w (sl 1 cI ((nA (idN code)).votes)) (g7 0 12), .w (sl 4 Peer.c ((nA (idN code)).peers)) (g7 0 13)]), (51, .w (sl 12 Message.c ([] : List Message)) (g7 1 0)), (52, Bo true)] rfl (Le.of rfl) ?_
  refine RW.pullA (k := 7) (l := 50) (j := 8) 7 50 8 rfl rfl rfl (by decide) rfl rfl rfl rfl ?_
  refine RW.le [(4, I (IntKind.i64.wrap (1 + (Int.tmod ((drawPlaces code).getD 0 0) 4)))), (6, Bo true), (7, .obj b8 [I ((nA (idN code)).id), I ((nA (idN code)).term_), I ((nA (idN code)).vote), I ((nA (idN code)).role), I ((nA (idN code)).lead), .w (sl 1 cI ((nA (idN code)).conf)) (g7 0 5), I (((nA (idN code)).log).start), I (((nA (idN code)).log).startTerm), .w (sl 3 Entry.c (((nA (idN code)).log).entries)) (g7 0 8), I ((nA (idN code)).commit), I ((nA (idN code)).clock), I ((nA (idN code)).limit), .al 50 (some 12) 1 (((nA (idN code)).votes).length) (g7 0 12) 0, .al 50 (some 13) 4 (((nA (idN code)).peers).length) (g7 0 13) 0]), (50, .agg [I ((nA (idN code)).id), I ((nA (idN code)).term_), I ((nA (idN code)).vote), I ((nA (idN code)).role), I ((nA (idN code)).lead), .u, I (((nA (idN code)).log).start), I (((nA (idN code)).log).startTerm), .u, I ((nA (idN code)).commit), I ((nA (idN code)).clock), I ((nA (idN code)).limit), .w (sl 1 cI ((nA (idN code)).votes)) (g7 0 12), .w (sl 4 Peer.c ((nA (idN code)).peers)) (g7 0 13)]), (51, .w (sl 12 Message.c ([] : List Message)) (g7 1 0)), (52, Bo true)] rfl (Le.of rfl) ?_
  refine RW.pullA (k := 7) (l := 50) (j := 12) 7 50 12 rfl rfl rfl (by decide) rfl rfl rfl rfl ?_
  refine RW.le [(4, I (IntKind.i64.wrap (1 + (Int.tmod ((drawPlaces code).getD 0 0) 4)))), (6, Bo true), (7, .obj b8 [I ((nA (idN code)).id), I ((nA (idN code)).term_), I ((nA (idN code)).vote), I ((nA (idN code)).role), I ((nA (idN code)).lead), .w (sl 1 cI ((nA (idN code)).conf)) (g7 0 5), I (((nA (idN code)).log).start), I (((nA (idN code)).log).startTerm), .w (sl 3 Entry.c (((nA (idN code)).log).entries)) (g7 0 8), I ((nA (idN code)).commit), I ((nA (idN code)).clock), I ((nA (idN code)).limit), .w (sl 1 cI ((nA (idN code)).votes)) (g7 0 12), .al 50 (some 13) 4 (((nA (idN code)).peers).length) (g7 0 13) 0]), (50, .agg [I ((nA (idN code)).id), I ((nA (idN code)).term_), I ((nA (idN code)).vote), I ((nA (idN code)).role), I ((nA (idN code)).lead), .u, I (((nA (idN code)).log).start), I (((nA (idN code)).log).startTerm), .u, I ((nA (idN code)).commit), I ((nA (idN code)).clock), I ((nA (idN code)).limit), .u, .w (sl 4 Peer.c ((nA (idN code)).peers)) (g7 0 13)]), (51, .w (sl 12 Message.c ([] : List Message)) (g7 1 0)), (52, Bo true)] rfl (Le.of rfl) ?_
  refine RW.pullA (k := 7) (l := 50) (j := 13) 7 50 13 rfl rfl rfl (by decide) rfl rfl rfl rfl ?_
  refine RW.le [(4, I (IntKind.i64.wrap (1 + (Int.tmod ((drawPlaces code).getD 0 0) 4)))), (6, Bo true), (7, .obj b8 [I ((nA (idN code)).id), I ((nA (idN code)).term_), I ((nA (idN code)).vote), I ((nA (idN code)).role), I ((nA (idN code)).lead), .w (sl 1 cI ((nA (idN code)).conf)) (g7 0 5), I (((nA (idN code)).log).start), I (((nA (idN code)).log).startTerm), .w (sl 3 Entry.c (((nA (idN code)).log).entries)) (g7 0 8), I ((nA (idN code)).commit), I ((nA (idN code)).clock), I ((nA (idN code)).limit), .w (sl 1 cI ((nA (idN code)).votes)) (g7 0 12), .w (sl 4 Peer.c ((nA (idN code)).peers)) (g7 0 13)]), (51, .w (sl 12 Message.c ([] : List Message)) (g7 1 0)), (52, Bo true)] rfl (Le.of rfl) ?_
  refine RW.assignMove rfl rfl rfl (by decide) (Nat.le_of_ble_eq_true rfl) (Nat.le_of_ble_eq_true rfl) ?_
  refine RW.v rfl (V.as (d := Bo true) rfl rfl) ?_
  refine RW.nil ?_
  refine CW.le [(4, I (IntKind.i64.wrap (1 + (Int.tmod ((drawPlaces code).getD 0 0) 4)))), (6, Bo true), (7, .obj b8 [I ((nA (idN code)).id), I ((nA (idN code)).term_), I ((nA (idN code)).vote), I ((nA (idN code)).role), I ((nA (idN code)).lead), .w (sl 1 cI ((nA (idN code)).conf)) (g7 0 5), I (((nA (idN code)).log).start), I (((nA (idN code)).log).startTerm), .w (sl 3 Entry.c (((nA (idN code)).log).entries)) (g7 0 8), I ((nA (idN code)).commit), I ((nA (idN code)).clock), I ((nA (idN code)).limit), .w (sl 1 cI ((nA (idN code)).votes)) (g7 0 12), .w (sl 4 Peer.c ((nA (idN code)).peers)) (g7 0 13)]), (8, .w (sl 12 Message.c ([] : List Message)) (g7 1 0)), (9, Bo true)] rfl (Le.of rfl) ?_
  refine CW.seq ?_
  refine CW.seqJ 182 (fun (v9 : Bool) => [(4, I (IntKind.i64.wrap (1 + (Int.tmod ((drawPlaces code).getD 0 0) 4)))), (7, .obj b8 [I ((nA (idN code)).id), I ((nA (idN code)).term_), I ((nA (idN code)).vote), I ((nA (idN code)).role), I ((nA (idN code)).lead), .w (sl 1 cI ((nA (idN code)).conf)) (g7 0 5), I (((nA (idN code)).log).start), I (((nA (idN code)).log).startTerm), .w (sl 3 Entry.c (((nA (idN code)).log).entries)) (g7 0 8), I ((nA (idN code)).commit), I ((nA (idN code)).clock), I ((nA (idN code)).limit), .w (sl 1 cI ((nA (idN code)).votes)) (g7 0 12), .w (sl 4 Peer.c ((nA (idN code)).peers)) (g7 0 13)]), (78, Bo v9)]) (fun v9 => v9 = ((((((!true) || (!true)) || ((nA (idN code)).role != 2)) || ((nA (idN code)).term_ != 1)) || ((([] : List Message).length : Int) != 0)) || ((nA (idN code)).commit != 1))) ?_ ?_
  ·refine CW.region ?_
   refine RW.v rfl (V.mv (d := Bo true) rfl rfl) ?_
   refine RW.v rfl (V.not rfl rfl) ?_
   refine RW.v rfl (V.mv (d := Bo (!true)) rfl rfl) ?_
   refine RW.gv rfl rfl rfl rfl (fun h10 => V.mv (d := Bo true) rfl rfl) (fun h10 => ?_) (fun h10 => ?_)
   ·skip
    refine RW.gt rfl rfl rfl rfl (V.not rfl rfl) ?_
    refine RW.v rfl (V.pickF (d := Bo (!true)) rfl rfl rfl) ?_
    refine RW.v rfl (V.mv (d := Bo (!true)) rfl rfl) ?_
    refine RW.gv rfl rfl rfl rfl (fun h11 => V.field rfl rfl rfl rfl (by decide) rfl) (fun h11 => ?_) (fun h11 => ?_)
    ·skip
     refine RW.gt rfl rfl rfl rfl (V.loadPrim (d := I ((nA (idN code)).role)) rfl rfl (.inl rfl) rfl rfl rfl) ?_
     refine RW.gt rfl rfl rfl rfl (V.cmpInt rfl rfl rfl rfl) ?_
     refine RW.v rfl (V.pickF (d := Bo ((nA (idN code)).role != 2)) rfl rfl rfl) ?_
     refine RW.v rfl (V.mv (d := Bo ((nA (idN code)).role != 2)) rfl rfl) ?_
     refine RW.gv rfl rfl rfl rfl (fun h12 => V.field rfl rfl rfl rfl (by decide) rfl) (fun h12 => ?_) (fun h12 => ?_)
     ·skip
      refine RW.gt rfl rfl rfl rfl (V.loadPrim (d := I ((nA (idN code)).term_)) rfl rfl (.inl rfl) rfl rfl rfl) ?_
      refine RW.gt rfl rfl rfl rfl (V.cmpInt rfl rfl rfl rfl) ?_
      refine RW.v rfl (V.pickF (d := Bo ((nA (idN code)).term_ != 1)) rfl rfl rfl) ?_
      refine RW.v rfl (V.mv (d := Bo ((nA (idN code)).term_ != 1)) rfl rfl) ?_
      refine RW.gv rfl rfl rfl rfl (fun h13 => V.mv (d := .al 8 none 12 (([] : List Message).length) (g7 1 0) 0) rfl rfl) (fun h13 => ?_) (fun h13 => ?_)
      ·skip
       refine RW.gt rfl rfl rfl rfl (V.lenT (n := ([] : List Message).length) rfl rfl rfl (.al rfl rfl nofun)) ?_
       refine RW.gt rfl rfl rfl rfl (V.cmpInt rfl rfl rfl rfl) ?_
       refine RW.v rfl (V.pickF (d := Bo ((([] : List Message).length : Int) != 0)) rfl rfl rfl) ?_
       refine RW.v rfl (V.mv (d := Bo ((([] : List Message).length : Int) != 0)) rfl rfl) ?_
       refine RW.gv rfl rfl rfl rfl (fun h14 => V.field rfl rfl rfl rfl (by decide) rfl) (fun h14 => ?_) (fun h14 => ?_)
       ·skip
        refine RW.gt rfl rfl rfl rfl (V.loadPrim (d := I ((nA (idN code)).commit)) rfl rfl (.inl rfl) rfl rfl rfl) ?_
        refine RW.gt rfl rfl rfl rfl (V.cmpInt rfl rfl rfl rfl) ?_
        refine RW.v rfl (V.pickF (d := Bo ((nA (idN code)).commit != 1)) rfl rfl rfl) ?_
        refine RW.nil ?_
        exact ⟨_, by first | rfl | (simp_all; done) | (simp_all; omega) | grind, rfl, Le.c rfl <| Le.c rfl <| Le.c rfl <| Le.e⟩
       ·skip
        refine RW.guardF rfl rfl rfl rfl ?_
        refine RW.guardF rfl rfl rfl rfl ?_
        refine RW.v rfl (V.pickT (d := Bo true) rfl rfl rfl) ?_
        refine RW.nil ?_
        exact ⟨_, by first | rfl | (simp_all; done) | (simp_all; omega) | grind, rfl, Le.c rfl <| Le.c rfl <| Le.c rfl <| Le.e⟩
      ·skip
       refine RW.guardF rfl rfl rfl rfl ?_
       refine RW.guardF rfl rfl rfl rfl ?_
       refine RW.v rfl (V.pickT (d := Bo true) rfl rfl rfl) ?_
       refine RW.v rfl (V.mv (d := Bo true) rfl rfl) ?_
       refine RW.guardF rfl rfl rfl rfl ?_
       refine RW.guardF rfl rfl rfl rfl ?_
       refine RW.guardF rfl rfl rfl rfl ?_
       refine RW.v rfl (V.pickT (d := Bo true) rfl rfl rfl) ?_
       refine RW.nil ?_
       exact ⟨_, by first | rfl | (simp_all; done) | (simp_all; omega) | grind, rfl, Le.c rfl <| Le.c rfl <| Le.c rfl <| Le.e⟩
     ·skip
      refine RW.guardF rfl rfl rfl rfl ?_
      refine RW.guardF rfl rfl rfl rfl ?_
      refine RW.v rfl (V.pickT (d := Bo true) rfl rfl rfl) ?_
      refine RW.v rfl (V.mv (d := Bo true) rfl rfl) ?_
      refine RW.guardF rfl rfl rfl rfl ?_
      refine RW.guardF rfl rfl rfl rfl ?_
      refine RW.guardF rfl rfl rfl rfl ?_
      refine RW.v rfl (V.pickT (d := Bo true) rfl rfl rfl) ?_
      refine RW.v rfl (V.mv (d := Bo true) rfl rfl) ?_
      refine RW.guardF rfl rfl rfl rfl ?_
      refine RW.guardF rfl rfl rfl rfl ?_
      refine RW.guardF rfl rfl rfl rfl ?_
      refine RW.v rfl (V.pickT (d := Bo true) rfl rfl rfl) ?_
      refine RW.nil ?_
      exact ⟨_, by first | rfl | (simp_all; done) | (simp_all; omega) | grind, rfl, Le.c rfl <| Le.c rfl <| Le.c rfl <| Le.e⟩
    ·skip
     refine RW.guardF rfl rfl rfl rfl ?_
     refine RW.guardF rfl rfl rfl rfl ?_
     refine RW.v rfl (V.pickT (d := Bo true) rfl rfl rfl) ?_
     refine RW.v rfl (V.mv (d := Bo true) rfl rfl) ?_
     refine RW.guardF rfl rfl rfl rfl ?_
     refine RW.guardF rfl rfl rfl rfl ?_
     refine RW.guardF rfl rfl rfl rfl ?_
     refine RW.v rfl (V.pickT (d := Bo true) rfl rfl rfl) ?_
     refine RW.v rfl (V.mv (d := Bo true) rfl rfl) ?_
     refine RW.guardF rfl rfl rfl rfl ?_
     refine RW.guardF rfl rfl rfl rfl ?_
     refine RW.guardF rfl rfl rfl rfl ?_
     refine RW.v rfl (V.pickT (d := Bo true) rfl rfl rfl) ?_
     refine RW.v rfl (V.mv (d := Bo true) rfl rfl) ?_
     refine RW.guardF rfl rfl rfl rfl ?_
     refine RW.guardF rfl rfl rfl rfl ?_
     refine RW.guardF rfl rfl rfl rfl ?_
     refine RW.v rfl (V.pickT (d := Bo true) rfl rfl rfl) ?_
     refine RW.nil ?_
     exact ⟨_, by first | rfl | (simp_all; done) | (simp_all; omega) | grind, rfl, Le.c rfl <| Le.c rfl <| Le.c rfl <| Le.e⟩
   ·skip
    refine RW.guardF rfl rfl rfl rfl ?_
    refine RW.v rfl (V.pickT (d := Bo true) rfl rfl rfl) ?_
    refine RW.v rfl (V.mv (d := Bo true) rfl rfl) ?_
    refine RW.guardF rfl rfl rfl rfl ?_
    refine RW.guardF rfl rfl rfl rfl ?_
    refine RW.guardF rfl rfl rfl rfl ?_
    refine RW.v rfl (V.pickT (d := Bo true) rfl rfl rfl) ?_
    refine RW.v rfl (V.mv (d := Bo true) rfl rfl) ?_
    refine RW.guardF rfl rfl rfl rfl ?_
    refine RW.guardF rfl rfl rfl rfl ?_
    refine RW.guardF rfl rfl rfl rfl ?_
    refine RW.v rfl (V.pickT (d := Bo true) rfl rfl rfl) ?_
    refine RW.v rfl (V.mv (d := Bo true) rfl rfl) ?_
    refine RW.guardF rfl rfl rfl rfl ?_
    refine RW.guardF rfl rfl rfl rfl ?_
    refine RW.guardF rfl rfl rfl rfl ?_
    refine RW.v rfl (V.pickT (d := Bo true) rfl rfl rfl) ?_
    refine RW.v rfl (V.mv (d := Bo true) rfl rfl) ?_
    refine RW.guardF rfl rfl rfl rfl ?_
    refine RW.guardF rfl rfl rfl rfl ?_
    refine RW.guardF rfl rfl rfl rfl ?_
    refine RW.v rfl (V.pickT (d := Bo true) rfl rfl rfl) ?_
    refine RW.nil ?_
    exact ⟨_, by first | rfl | (simp_all; done) | (simp_all; omega) | grind, rfl, Le.c rfl <| Le.c rfl <| Le.c rfl <| Le.e⟩
  ·intro v9 hv15
   refine CW.cond rfl (fun h16 => ?_) (fun h16 => ?_)
   ·skip
    refine CW.seq ?_
    refine CW.region ?_
    refine RW.v rfl (V.as (d := Bo false) rfl rfl) ?_
    refine RW.nil ?_
    refine CW.le [(2, Bo false)] rfl (Le.of rfl) ?_
    refine CW.ret ?_
    exact Post.one (RV.b rfl (by first | rfl | (exfalso; simp_all [nA, nB]; done) | (rw [show eqS eqI [idN code] [(IntKind.i64.wrap (1 + (Int.tmod ((drawPlaces code).getD 0 0) 4)))] = true from eqS_refl eqI_refl [idN code]] at hv48; simp_all [nC, nS, eqS_refl eqI_refl]; done))) (AOs.r AOs.e)
   ·skip
    refine CW.skip ?_
    refine CW.le [(4, I (IntKind.i64.wrap (1 + (Int.tmod ((drawPlaces code).getD 0 0) 4)))), (7, .obj b8 [I ((nA (idN code)).id), I ((nA (idN code)).term_), I ((nA (idN code)).vote), I ((nA (idN code)).role), I ((nA (idN code)).lead), .w (sl 1 cI ((nA (idN code)).conf)) (g7 0 5), I (((nA (idN code)).log).start), I (((nA (idN code)).log).startTerm), .w (sl 3 Entry.c (((nA (idN code)).log).entries)) (g7 0 8), I ((nA (idN code)).commit), I ((nA (idN code)).clock), I ((nA (idN code)).limit), .w (sl 1 cI ((nA (idN code)).votes)) (g7 0 12), .w (sl 4 Peer.c ((nA (idN code)).peers)) (g7 0 13)])] rfl (Le.of rfl) ?_
    refine CW.seq ?_
    refine CW.region ?_
    refine RW.v rfl (V.loadAgg rfl rfl rfl rfl rfl (Nat.le_of_ble_eq_true rfl)) ?_
    refine RW.callOwn rfl (propA code) rfl (.cons (.agg (.cons (.r .r) (.cons (.r .r) (.cons (.r .r) (.cons (.r .r) (.cons (.r .r) (.cons (.r (.alo (k := none) (i := 7) (j := 5) (sz := 1) (V := (g7 0 5)) rfl rfl rfl nofun)) (.cons (.r .r) (.cons (.r .r) (.cons (.r (.alo (k := none) (i := 7) (j := 8) (sz := 3) (V := (g7 0 8)) rfl rfl rfl nofun)) (.cons (.r .r) (.cons (.r .r) (.cons (.r .r) (.cons (.r (.alo (k := none) (i := 7) (j := 12) (sz := 1) (V := (g7 0 12)) rfl rfl rfl nofun)) (.cons (.r (.alo (k := none) (i := 7) (j := 13) (sz := 4) (V := (g7 0 13)) rfl rfl rfl nofun)) (.nil)))))))))))))))) (.cons (.one (.r .r)) (.cons (.one (.r .r)) (.nil)))) rfl fun g17 => ?_
    refine RW.moveMove rfl rfl rfl (by decide) (Nat.le_of_ble_eq_true rfl) (Nat.le_of_ble_eq_true rfl) ?_
    refine RW.extract (d := .agg [I ((nB (idN code)).id), I ((nB (idN code)).term_), I ((nB (idN code)).vote), I ((nB (idN code)).role), I ((nB (idN code)).lead), .w (sl 1 cI ((nB (idN code)).conf)) (g17 0 5), I (((nB (idN code)).log).start), I (((nB (idN code)).log).startTerm), .w (sl 3 Entry.c (((nB (idN code)).log).entries)) (g17 0 8), I ((nB (idN code)).commit), I ((nB (idN code)).clock), I ((nB (idN code)).limit), .w (sl 1 cI ((nB (idN code)).votes)) (g17 0 12), .w (sl 4 Peer.c ((nB (idN code)).peers)) (g17 0 13)]) rfl rfl rfl (by decide) (Nat.le_of_ble_eq_true rfl) rfl rfl ?_
    refine RW.extract (d := .w (sl 12 Message.c ([] : List Message)) (g17 1 0)) rfl rfl rfl (by decide) (Nat.le_of_ble_eq_true rfl) rfl rfl ?_
    refine RW.extract (d := I 2) rfl rfl rfl (by decide) (Nat.le_of_ble_eq_true rfl) rfl rfl ?_
    refine RW.extract (d := Bo true) rfl rfl rfl (by decide) (Nat.le_of_ble_eq_true rfl) rfl rfl ?_
    refine RW.alloc (ds := [I 0, I 0, I 0, I 0, I 0, .r (.v (.slice none 0 0)), I 0, I 0, .r (.v (.slice none 0 0)), I 0, I 0, I 0, .r (.v (.slice none 0 0)), .r (.v (.slice none 0 0))]) rfl rfl rfl rfl fun b18 => ?_
    refine RW.storeAgg (es := [I ((nB (idN code)).id), I ((nB (idN code)).term_), I ((nB (idN code)).vote), I ((nB (idN code)).role), I ((nB (idN code)).lead), .al 82 (some 5) 1 (((nB (idN code)).conf).length) (g17 0 5) 0, I (((nB (idN code)).log).start), I (((nB (idN code)).log).startTerm), .al 82 (some 8) 3 ((((nB (idN code)).log).entries).length) (g17 0 8) 0, I ((nB (idN code)).commit), I ((nB (idN code)).clock), I ((nB (idN code)).limit), .al 82 (some 12) 1 (((nB (idN code)).votes).length) (g17 0 12) 0, .al 82 (some 13) 4 (((nB (idN code)).peers).length) (g17 0 13) 0]) rfl rfl rfl rfl rfl rfl rfl rfl (Nat.le_of_ble_eq_true rfl) rfl ?_
    refine RW.le [(4, I (IntKind.i64.wrap (1 + (Int.tmod ((drawPlaces code).getD 0 0) 4)))), (10, .obj b18 [I ((nB (idN code)).id), I ((nB (idN code)).term_), I ((nB (idN code)).vote), I ((nB (idN code)).role), I ((nB (idN code)).lead), .al 82 (some 5) 1 (((nB (idN code)).conf).length) (g17 0 5) 0, I (((nB (idN code)).log).start), I (((nB (idN code)).log).startTerm), .al 82 (some 8) 3 ((((nB (idN code)).log).entries).length) (g17 0 8) 0, I ((nB (idN code)).commit), I ((nB (idN code)).clock), I ((nB (idN code)).limit), .al 82 (some 12) 1 (((nB (idN code)).votes).length) (g17 0 12) 0, .al 82 (some 13) 4 (((nB (idN code)).peers).length) (g17 0 13) 0]), (82, .agg [I ((nB (idN code)).id), I ((nB (idN code)).term_), I ((nB (idN code)).vote), I ((nB (idN code)).role), I ((nB (idN code)).lead), .w (sl 1 cI ((nB (idN code)).conf)) (g17 0 5), I (((nB (idN code)).log).start), I (((nB (idN code)).log).startTerm), .w (sl 3 Entry.c (((nB (idN code)).log).entries)) (g17 0 8), I ((nB (idN code)).commit), I ((nB (idN code)).clock), I ((nB (idN code)).limit), .w (sl 1 cI ((nB (idN code)).votes)) (g17 0 12), .w (sl 4 Peer.c ((nB (idN code)).peers)) (g17 0 13)]), (83, .w (sl 12 Message.c ([] : List Message)) (g17 1 0)), (84, I 2), (85, Bo true)] rfl (Le.of rfl) ?_
    refine RW.pullA (k := 10) (l := 82) (j := 5) 10 82 5 rfl rfl rfl (by decide) rfl rfl rfl rfl ?_
    refine RW.le [(4, I (IntKind.i64.wrap (1 + (Int.tmod ((drawPlaces code).getD 0 0) 4)))), (10, .obj b18 [I ((nB (idN code)).id), I ((nB (idN code)).term_), I ((nB (idN code)).vote), I ((nB (idN code)).role), I ((nB (idN code)).lead), .w (sl 1 cI ((nB (idN code)).conf)) (g17 0 5), I (((nB (idN code)).log).start), I (((nB (idN code)).log).startTerm), .al 82 (some 8) 3 ((((nB (idN code)).log).entries).length) (g17 0 8) 0, I ((nB (idN code)).commit), I ((nB (idN code)).clock), I ((nB (idN code)).limit), .al 82 (some 12) 1 (((nB (idN code)).votes).length) (g17 0 12) 0, .al 82 (some 13) 4 (((nB (idN code)).peers).length) (g17 0 13) 0]), (82, .agg [I ((nB (idN code)).id), I ((nB (idN code)).term_), I ((nB (idN code)).vote), I ((nB (idN code)).role), I ((nB (idN code)).lead), .u, I (((nB (idN code)).log).start), I (((nB (idN code)).log).startTerm), .w (sl 3 Entry.c (((nB (idN code)).log).entries)) (g17 0 8), I ((nB (idN code)).commit), I ((nB (idN code)).clock), I ((nB (idN code)).limit), .w (sl 1 cI ((nB (idN code)).votes)) (g17 0 12), .w (sl 4 Peer.c ((nB (idN code)).peers)) (g17 0 13)]), (83, .w (sl 12 Message.c ([] : List Message)) (g17 1 0)), (84, I 2), (85, Bo true)] rfl (Le.of rfl) ?_
    refine RW.pullA (k := 10) (l := 82) (j := 8) 10 82 8 rfl rfl rfl (by decide) rfl rfl rfl rfl ?_
    refine RW.le [(4, I (IntKind.i64.wrap (1 + (Int.tmod ((drawPlaces code).getD 0 0) 4)))), (10, .obj b18 [I ((nB (idN code)).id), I ((nB (idN code)).term_), I ((nB (idN code)).vote), I ((nB (idN code)).role), I ((nB (idN code)).lead), .w (sl 1 cI ((nB (idN code)).conf)) (g17 0 5), I (((nB (idN code)).log).start), I (((nB (idN code)).log).startTerm), .w (sl 3 Entry.c (((nB (idN code)).log).entries)) (g17 0 8), I ((nB (idN code)).commit), I ((nB (idN code)).clock), I ((nB (idN code)).limit), .al 82 (some 12) 1 (((nB (idN code)).votes).length) (g17 0 12) 0, .al 82 (some 13) 4 (((nB (idN code)).peers).length) (g17 0 13) 0]), (82, .agg [I ((nB (idN code)).id), I ((nB (idN code)).term_), I ((nB (idN code)).vote), I ((nB (idN code)).role), I ((nB (idN code)).lead), .u, I (((nB (idN code)).log).start), I (((nB (idN code)).log).startTerm), .u, I ((nB (idN code)).commit), I ((nB (idN code)).clock), I ((nB (idN code)).limit), .w (sl 1 cI ((nB (idN code)).votes)) (g17 0 12), .w (sl 4 Peer.c ((nB (idN code)).peers)) (g17 0 13)]), (83, .w (sl 12 Message.c ([] : List Message)) (g17 1 0)), (84, I 2), (85, Bo true)] rfl (Le.of rfl) ?_
    refine RW.pullA (k := 10) (l := 82) (j := 12) 10 82 12 rfl rfl rfl (by decide) rfl rfl rfl rfl ?_
    refine RW.le [(4, I (IntKind.i64.wrap (1 + (Int.tmod ((drawPlaces code).getD 0 0) 4)))), (10, .obj b18 [I ((nB (idN code)).id), I ((nB (idN code)).term_), I ((nB (idN code)).vote), I ((nB (idN code)).role), I ((nB (idN code)).lead), .w (sl 1 cI ((nB (idN code)).conf)) (g17 0 5), I (((nB (idN code)).log).start), I (((nB (idN code)).log).startTerm), .w (sl 3 Entry.c (((nB (idN code)).log).entries)) (g17 0 8), I ((nB (idN code)).commit), I ((nB (idN code)).clock), I ((nB (idN code)).limit), .w (sl 1 cI ((nB (idN code)).votes)) (g17 0 12), .al 82 (some 13) 4 (((nB (idN code)).peers).length) (g17 0 13) 0]), (82, .agg [I ((nB (idN code)).id), I ((nB (idN code)).term_), I ((nB (idN code)).vote), I ((nB (idN code)).role), I ((nB (idN code)).lead), .u, I (((nB (idN code)).log).start), I (((nB (idN code)).log).startTerm), .u, I ((nB (idN code)).commit), I ((nB (idN code)).clock), I ((nB (idN code)).limit), .u, .w (sl 4 Peer.c ((nB (idN code)).peers)) (g17 0 13)]), (83, .w (sl 12 Message.c ([] : List Message)) (g17 1 0)), (84, I 2), (85, Bo true)] rfl (Le.of rfl) ?_
    refine RW.pullA (k := 10) (l := 82) (j := 13) 10 82 13 rfl rfl rfl (by decide) rfl rfl rfl rfl ?_
    refine RW.le [(4, I (IntKind.i64.wrap (1 + (Int.tmod ((drawPlaces code).getD 0 0) 4)))), (10, .obj b18 [I ((nB (idN code)).id), I ((nB (idN code)).term_), I ((nB (idN code)).vote), I ((nB (idN code)).role), I ((nB (idN code)).lead), .w (sl 1 cI ((nB (idN code)).conf)) (g17 0 5), I (((nB (idN code)).log).start), I (((nB (idN code)).log).startTerm), .w (sl 3 Entry.c (((nB (idN code)).log).entries)) (g17 0 8), I ((nB (idN code)).commit), I ((nB (idN code)).clock), I ((nB (idN code)).limit), .w (sl 1 cI ((nB (idN code)).votes)) (g17 0 12), .w (sl 4 Peer.c ((nB (idN code)).peers)) (g17 0 13)]), (83, .w (sl 12 Message.c ([] : List Message)) (g17 1 0)), (84, I 2), (85, Bo true)] rfl (Le.of rfl) ?_
    refine RW.assignMove rfl rfl rfl (by decide) (Nat.le_of_ble_eq_true rfl) (Nat.le_of_ble_eq_true rfl) ?_
    refine RW.v rfl (V.as (d := I 2) rfl rfl) ?_
    refine RW.v rfl (V.as (d := Bo true) rfl rfl) ?_
    refine RW.nil ?_
    refine CW.le [(4, I (IntKind.i64.wrap (1 + (Int.tmod ((drawPlaces code).getD 0 0) 4)))), (10, .obj b18 [I ((nB (idN code)).id), I ((nB (idN code)).term_), I ((nB (idN code)).vote), I ((nB (idN code)).role), I ((nB (idN code)).lead), .w (sl 1 cI ((nB (idN code)).conf)) (g17 0 5), I (((nB (idN code)).log).start), I (((nB (idN code)).log).startTerm), .w (sl 3 Entry.c (((nB (idN code)).log).entries)) (g17 0 8), I ((nB (idN code)).commit), I ((nB (idN code)).clock), I ((nB (idN code)).limit), .w (sl 1 cI ((nB (idN code)).votes)) (g17 0 12), .w (sl 4 Peer.c ((nB (idN code)).peers)) (g17 0 13)]), (12, I 2), (13, Bo true)] rfl (Le.of rfl) ?_
    refine CW.seq ?_
    refine CW.seqJ 182 (fun (v19 : Bool) => [(4, I (IntKind.i64.wrap (1 + (Int.tmod ((drawPlaces code).getD 0 0) 4)))), (10, .obj b18 [I ((nB (idN code)).id), I ((nB (idN code)).term_), I ((nB (idN code)).vote), I ((nB (idN code)).role), I ((nB (idN code)).lead), .w (sl 1 cI ((nB (idN code)).conf)) (g17 0 5), I (((nB (idN code)).log).start), I (((nB (idN code)).log).startTerm), .w (sl 3 Entry.c (((nB (idN code)).log).entries)) (g17 0 8), I ((nB (idN code)).commit), I ((nB (idN code)).clock), I ((nB (idN code)).limit), .w (sl 1 cI ((nB (idN code)).votes)) (g17 0 12), .w (sl 4 Peer.c ((nB (idN code)).peers)) (g17 0 13)]), (96, Bo v19)]) (fun v19 => v19 = (((!true) || (2 != 2)) || ((nB (idN code)).commit != 2))) ?_ ?_
    ·refine CW.region ?_
     refine RW.v rfl (V.mv (d := Bo true) rfl rfl) ?_
     refine RW.v rfl (V.not rfl rfl) ?_
     refine RW.v rfl (V.mv (d := Bo (!true)) rfl rfl) ?_
     refine RW.gv rfl rfl rfl rfl (fun h20 => V.mv (d := I 2) rfl rfl) (fun h20 => ?_) (fun h20 => ?_)
     ·skip
      refine RW.gt rfl rfl rfl rfl (V.cmpInt rfl rfl rfl rfl) ?_
      refine RW.v rfl (V.pickF (d := Bo (2 != 2)) rfl rfl rfl) ?_
      refine RW.v rfl (V.mv (d := Bo (2 != 2)) rfl rfl) ?_
      refine RW.gv rfl rfl rfl rfl (fun h21 => V.field rfl rfl rfl rfl (by decide) rfl) (fun h21 => ?_) (fun h21 => ?_)
      ·skip
       refine RW.gt rfl rfl rfl rfl (V.loadPrim (d := I ((nB (idN code)).commit)) rfl rfl (.inl rfl) rfl rfl rfl) ?_
       refine RW.gt rfl rfl rfl rfl (V.cmpInt rfl rfl rfl rfl) ?_
       refine RW.v rfl (V.pickF (d := Bo ((nB (idN code)).commit != 2)) rfl rfl rfl) ?_
       refine RW.nil ?_
       exact ⟨_, by first | rfl | (simp_all; done) | (simp_all; omega) | grind, rfl, Le.c rfl <| Le.c rfl <| Le.c rfl <| Le.e⟩
      ·skip
       refine RW.guardF rfl rfl rfl rfl ?_
       refine RW.guardF rfl rfl rfl rfl ?_
       refine RW.v rfl (V.pickT (d := Bo true) rfl rfl rfl) ?_
       refine RW.nil ?_
       exact ⟨_, by first | rfl | (simp_all; done) | (simp_all; omega) | grind, rfl, Le.c rfl <| Le.c rfl <| Le.c rfl <| Le.e⟩
     ·skip
      refine RW.guardF rfl rfl rfl rfl ?_
      refine RW.v rfl (V.pickT (d := Bo true) rfl rfl rfl) ?_
      refine RW.v rfl (V.mv (d := Bo true) rfl rfl) ?_
      refine RW.guardF rfl rfl rfl rfl ?_
      refine RW.guardF rfl rfl rfl rfl ?_
      refine RW.guardF rfl rfl rfl rfl ?_
      refine RW.v rfl (V.pickT (d := Bo true) rfl rfl rfl) ?_
      refine RW.nil ?_
      exact ⟨_, by first | rfl | (simp_all; done) | (simp_all; omega) | grind, rfl, Le.c rfl <| Le.c rfl <| Le.c rfl <| Le.e⟩
    ·intro v19 hv22
     refine CW.cond rfl (fun h23 => ?_) (fun h23 => ?_)
     ·skip
      refine CW.seq ?_
      refine CW.region ?_
      refine RW.v rfl (V.as (d := Bo false) rfl rfl) ?_
      refine RW.nil ?_
      refine CW.le [(2, Bo false)] rfl (Le.of rfl) ?_
      refine CW.ret ?_
      exact Post.one (RV.b rfl (by first | rfl | (exfalso; simp_all [nA, nB]; done) | (rw [show eqS eqI [idN code] [(IntKind.i64.wrap (1 + (Int.tmod ((drawPlaces code).getD 0 0) 4)))] = true from eqS_refl eqI_refl [idN code]] at hv48; simp_all [nC, nS, eqS_refl eqI_refl]; done))) (AOs.r AOs.e)
     ·skip
      refine CW.skip ?_
      refine CW.le [(4, I (IntKind.i64.wrap (1 + (Int.tmod ((drawPlaces code).getD 0 0) 4)))), (10, .obj b18 [I ((nB (idN code)).id), I ((nB (idN code)).term_), I ((nB (idN code)).vote), I ((nB (idN code)).role), I ((nB (idN code)).lead), .w (sl 1 cI ((nB (idN code)).conf)) (g17 0 5), I (((nB (idN code)).log).start), I (((nB (idN code)).log).startTerm), .w (sl 3 Entry.c (((nB (idN code)).log).entries)) (g17 0 8), I ((nB (idN code)).commit), I ((nB (idN code)).clock), I ((nB (idN code)).limit), .w (sl 1 cI ((nB (idN code)).votes)) (g17 0 12), .w (sl 4 Peer.c ((nB (idN code)).peers)) (g17 0 13)])] rfl (Le.of rfl) ?_
      refine CW.seq ?_
      refine CW.region ?_
      refine RW.v rfl (V.mv (d := I (IntKind.i64.wrap (1 + (Int.tmod ((drawPlaces code).getD 0 0) 4)))) rfl rfl) ?_
      refine RW.v rfl (V.rem rfl rfl rfl (by decide)) ?_
      refine RW.v rfl (V.arInt rfl rfl rfl rfl) ?_
      refine RW.v rfl (V.as (d := I (IntKind.i64.wrap ((Int.tmod (IntKind.i64.wrap (1 + (Int.tmod ((drawPlaces code).getD 0 0) 4))) 4) + 1))) rfl rfl) ?_
      refine RW.nil ?_
      refine CW.le [(4, I (IntKind.i64.wrap (1 + (Int.tmod ((drawPlaces code).getD 0 0) 4)))), (10, .obj b18 [I ((nB (idN code)).id), I ((nB (idN code)).term_), I ((nB (idN code)).vote), I ((nB (idN code)).role), I ((nB (idN code)).lead), .w (sl 1 cI ((nB (idN code)).conf)) (g17 0 5), I (((nB (idN code)).log).start), I (((nB (idN code)).log).startTerm), .w (sl 3 Entry.c (((nB (idN code)).log).entries)) (g17 0 8), I ((nB (idN code)).commit), I ((nB (idN code)).clock), I ((nB (idN code)).limit), .w (sl 1 cI ((nB (idN code)).votes)) (g17 0 12), .w (sl 4 Peer.c ((nB (idN code)).peers)) (g17 0 13)]), (14, I (IntKind.i64.wrap ((Int.tmod (IntKind.i64.wrap (1 + (Int.tmod ((drawPlaces code).getD 0 0) 4))) 4) + 1)))] rfl (Le.of rfl) ?_
      refine CW.seq ?_
      refine CW.region ?_
      refine RW.v rfl (V.mv (d := I (IntKind.i64.wrap (1 + (Int.tmod ((drawPlaces code).getD 0 0) 4)))) rfl rfl) ?_
      refine RW.v rfl (V.mv (d := I (IntKind.i64.wrap ((Int.tmod (IntKind.i64.wrap (1 + (Int.tmod ((drawPlaces code).getD 0 0) 4))) 4) + 1))) rfl rfl) ?_
      refine RW.build2c (c := cI) (v1 := (IntKind.i64.wrap (1 + (Int.tmod ((drawPlaces code).getD 0 0) 4)))) (v2 := (IntKind.i64.wrap ((Int.tmod (IntKind.i64.wrap (1 + (Int.tmod ((drawPlaces code).getD 0 0) 4))) 4) + 1))) (u1 := .v (.int .i64 (IntKind.i64.wrap (1 + (Int.tmod ((drawPlaces code).getD 0 0) 4))))) (u2 := .v (.int .i64 (IntKind.i64.wrap ((Int.tmod (IntKind.i64.wrap (1 + (Int.tmod ((drawPlaces code).getD 0 0) 4))) 4) + 1)))) rfl rfl rfl rfl rfl rfl (.inl rfl) rfl rfl (.inl rfl) rfl rfl fun X24 => ?_
      refine RW.assignMove rfl rfl rfl (by decide) (Nat.le_of_ble_eq_true rfl) (Nat.le_of_ble_eq_true rfl) ?_
      refine RW.nil ?_
      refine CW.le [(4, I (IntKind.i64.wrap (1 + (Int.tmod ((drawPlaces code).getD 0 0) 4)))), (10, .obj b18 [I ((nB (idN code)).id), I ((nB (idN code)).term_), I ((nB (idN code)).vote), I ((nB (idN code)).role), I ((nB (idN code)).lead), .w (sl 1 cI ((nB (idN code)).conf)) (g17 0 5), I (((nB (idN code)).log).start), I (((nB (idN code)).log).startTerm), .w (sl 3 Entry.c (((nB (idN code)).log).entries)) (g17 0 8), I ((nB (idN code)).commit), I ((nB (idN code)).clock), I ((nB (idN code)).limit), .w (sl 1 cI ((nB (idN code)).votes)) (g17 0 12), .w (sl 4 Peer.c ((nB (idN code)).peers)) (g17 0 13)]), (14, I (IntKind.i64.wrap ((Int.tmod (IntKind.i64.wrap (1 + (Int.tmod ((drawPlaces code).getD 0 0) 4))) 4) + 1))), (15, .w (sl 1 cI ([(IntKind.i64.wrap (1 + (Int.tmod ((drawPlaces code).getD 0 0) 4))), (IntKind.i64.wrap ((Int.tmod (IntKind.i64.wrap (1 + (Int.tmod ((drawPlaces code).getD 0 0) 4))) 4) + 1))])) X24)] rfl (Le.of rfl) ?_
      refine CW.seq ?_
      refine CW.seq ?_
      refine CW.region ?_
      refine RW.v rfl (V.mv (d := I (IntKind.i64.wrap (1 + (Int.tmod ((drawPlaces code).getD 0 0) 4)))) rfl rfl) ?_
      refine RW.v rfl (V.mv (d := I (IntKind.i64.wrap ((Int.tmod (IntKind.i64.wrap (1 + (Int.tmod ((drawPlaces code).getD 0 0) 4))) 4) + 1))) rfl rfl) ?_
      refine RW.v rfl (V.cmpInt rfl rfl rfl rfl) ?_
      refine RW.nil ?_
      refine CW.le [(4, I (IntKind.i64.wrap (1 + (Int.tmod ((drawPlaces code).getD 0 0) 4)))), (10, .obj b18 [I ((nB (idN code)).id), I ((nB (idN code)).term_), I ((nB (idN code)).vote), I ((nB (idN code)).role), I ((nB (idN code)).lead), .w (sl 1 cI ((nB (idN code)).conf)) (g17 0 5), I (((nB (idN code)).log).start), I (((nB (idN code)).log).startTerm), .w (sl 3 Entry.c (((nB (idN code)).log).entries)) (g17 0 8), I ((nB (idN code)).commit), I ((nB (idN code)).clock), I ((nB (idN code)).limit), .w (sl 1 cI ((nB (idN code)).votes)) (g17 0 12), .w (sl 4 Peer.c ((nB (idN code)).peers)) (g17 0 13)]), (14, I (IntKind.i64.wrap ((Int.tmod (IntKind.i64.wrap (1 + (Int.tmod ((drawPlaces code).getD 0 0) 4))) 4) + 1))), (15, .w (sl 1 cI ([(IntKind.i64.wrap (1 + (Int.tmod ((drawPlaces code).getD 0 0) 4))), (IntKind.i64.wrap ((Int.tmod (IntKind.i64.wrap (1 + (Int.tmod ((drawPlaces code).getD 0 0) 4))) 4) + 1))])) X24), (105, Bo (decide ((IntKind.i64.wrap (1 + (Int.tmod ((drawPlaces code).getD 0 0) 4))) > (IntKind.i64.wrap ((Int.tmod (IntKind.i64.wrap (1 + (Int.tmod ((drawPlaces code).getD 0 0) 4))) 4) + 1)))))] rfl (Le.of rfl) ?_
      refine CW.joinS 182 (fun (X : Value) => [(4, I (IntKind.i64.wrap (1 + (Int.tmod ((drawPlaces code).getD 0 0) 4)))), (10, .obj b18 [I ((nB (idN code)).id), I ((nB (idN code)).term_), I ((nB (idN code)).vote), I ((nB (idN code)).role), I ((nB (idN code)).lead), .w (sl 1 cI ((nB (idN code)).conf)) (g17 0 5), I (((nB (idN code)).log).start), I (((nB (idN code)).log).startTerm), .w (sl 3 Entry.c (((nB (idN code)).log).entries)) (g17 0 8), I ((nB (idN code)).commit), I ((nB (idN code)).clock), I ((nB (idN code)).limit), .w (sl 1 cI ((nB (idN code)).votes)) (g17 0 12), .w (sl 4 Peer.c ((nB (idN code)).peers)) (g17 0 13)]), (15, .w (sl 1 cI (two (idN code))) X)]) (fun (X : Value) => True) ?_ ?_
      ·skip
       refine CW.cond rfl (fun h25 => ?_) (fun h25 => ?_)
       ·skip
        have hgt : decide (idN code > oth (idN code)) = true := h25
        refine CW.region ?_
        refine RW.v rfl (V.mv (d := I (IntKind.i64.wrap ((Int.tmod (IntKind.i64.wrap (1 + (Int.tmod ((drawPlaces code).getD 0 0) 4))) 4) + 1))) rfl rfl) ?_
        refine RW.v rfl (V.mv (d := I (IntKind.i64.wrap (1 + (Int.tmod ((drawPlaces code).getD 0 0) 4)))) rfl rfl) ?_
        refine RW.build2c (c := cI) (v1 := (IntKind.i64.wrap ((Int.tmod (IntKind.i64.wrap (1 + (Int.tmod ((drawPlaces code).getD 0 0) 4))) 4) + 1))) (v2 := (IntKind.i64.wrap (1 + (Int.tmod ((drawPlaces code).getD 0 0) 4)))) (u1 := .v (.int .i64 (IntKind.i64.wrap ((Int.tmod (IntKind.i64.wrap (1 + (Int.tmod ((drawPlaces code).getD 0 0) 4))) 4) + 1)))) (u2 := .v (.int .i64 (IntKind.i64.wrap (1 + (Int.tmod ((drawPlaces code).getD 0 0) 4))))) rfl rfl rfl rfl rfl rfl (.inl rfl) rfl rfl (.inl rfl) rfl rfl fun X26 => ?_
        refine RW.assignMove rfl rfl rfl (by decide) (Nat.le_of_ble_eq_true rfl) (Nat.le_of_ble_eq_true rfl) ?_
        refine RW.nil ?_
        exact ⟨X26, trivial, rfl, Le.c rfl <| Le.c rfl <| Le.c (Dw_congr (by first | exact two_yes hgt | exact two_no hgt)) <| Le.e⟩
       ·skip
        have hgt : decide (idN code > oth (idN code)) = false := h25
        refine CW.skip ?_
        exact ⟨X24, trivial, rfl, Le.c rfl <| Le.c rfl <| Le.c (Dw_congr (by first | exact two_yes hgt | exact two_no hgt)) <| Le.e⟩
      ·rintro X -
       refine CW.le [(4, I (IntKind.i64.wrap (1 + (Int.tmod ((drawPlaces code).getD 0 0) 4)))), (10, .obj b18 [I ((nB (idN code)).id), I ((nB (idN code)).term_), I ((nB (idN code)).vote), I ((nB (idN code)).role), I ((nB (idN code)).lead), .w (sl 1 cI ((nB (idN code)).conf)) (g17 0 5), I (((nB (idN code)).log).start), I (((nB (idN code)).log).startTerm), .w (sl 3 Entry.c (((nB (idN code)).log).entries)) (g17 0 8), I ((nB (idN code)).commit), I ((nB (idN code)).clock), I ((nB (idN code)).limit), .w (sl 1 cI ((nB (idN code)).votes)) (g17 0 12), .w (sl 4 Peer.c ((nB (idN code)).peers)) (g17 0 13)]), (15, .w (sl 1 cI (two (idN code))) X)] rfl (Le.of rfl) ?_
       refine CW.seq ?_
       refine CW.region ?_
       refine RW.v rfl (V.mv (d := .al 15 none 1 ((two (idN code)).length) X 0) rfl rfl) ?_
       refine RW.callOwn rfl (text2 code) rfl (.cons (.one (.r (.al (k := none) (i := 15) (sz := 1) (V := X) rfl rfl nofun))) (.nil)) rfl fun g27 => ?_
       refine RW.moveMove rfl rfl rfl (by decide) (Nat.le_of_ble_eq_true rfl) (Nat.le_of_ble_eq_true rfl) ?_
       refine RW.extract (d := S (txt (two (idN code)))) rfl rfl rfl (by decide) (Nat.le_of_ble_eq_true rfl) rfl rfl ?_
       refine RW.extract (d := Bo true) rfl rfl rfl (by decide) (Nat.le_of_ble_eq_true rfl) rfl rfl ?_
       refine RW.v rfl (V.as (d := S (txt (two (idN code)))) rfl rfl) ?_
       refine RW.v rfl (V.as (d := Bo true) rfl rfl) ?_
       refine RW.nil ?_
       refine CW.le [(4, I (IntKind.i64.wrap (1 + (Int.tmod ((drawPlaces code).getD 0 0) 4)))), (10, .obj b18 [I ((nB (idN code)).id), I ((nB (idN code)).term_), I ((nB (idN code)).vote), I ((nB (idN code)).role), I ((nB (idN code)).lead), .w (sl 1 cI ((nB (idN code)).conf)) (g17 0 5), I (((nB (idN code)).log).start), I (((nB (idN code)).log).startTerm), .w (sl 3 Entry.c (((nB (idN code)).log).entries)) (g17 0 8), I ((nB (idN code)).commit), I ((nB (idN code)).clock), I ((nB (idN code)).limit), .w (sl 1 cI ((nB (idN code)).votes)) (g17 0 12), .w (sl 4 Peer.c ((nB (idN code)).peers)) (g17 0 13)]), (15, .w (sl 1 cI (two (idN code))) X), (16, S (txt (two (idN code))))] rfl (Le.of rfl) ?_
       refine CW.seq ?_
       refine CW.region ?_
       refine RW.v rfl (V.loadAgg rfl rfl rfl rfl rfl (Nat.le_of_ble_eq_true rfl)) ?_
       refine RW.v rfl (V.mv (d := S (txt (two (idN code)))) rfl rfl) ?_
       refine RW.callOwn rfl (propB code) rfl (.cons (.agg (.cons (.r .r) (.cons (.r .r) (.cons (.r .r) (.cons (.r .r) (.cons (.r .r) (.cons (.r (.alo (k := none) (i := 10) (j := 5) (sz := 1) (V := (g17 0 5)) rfl rfl rfl nofun)) (.cons (.r .r) (.cons (.r .r) (.cons (.r (.alo (k := none) (i := 10) (j := 8) (sz := 3) (V := (g17 0 8)) rfl rfl rfl nofun)) (.cons (.r .r) (.cons (.r .r) (.cons (.r .r) (.cons (.r (.alo (k := none) (i := 10) (j := 12) (sz := 1) (V := (g17 0 12)) rfl rfl rfl nofun)) (.cons (.r (.alo (k := none) (i := 10) (j := 13) (sz := 4) (V := (g17 0 13)) rfl rfl rfl nofun)) (.nil)))))))))))))))) (.cons (.one (.r .r)) (.cons (.one (.r .r)) (.nil)))) rfl fun g28 => ?_
       refine RW.moveMove rfl rfl rfl (by decide) (Nat.le_of_ble_eq_true rfl) (Nat.le_of_ble_eq_true rfl) ?_
       refine RW.extract (d := .agg [I ((nC (idN code)).id), I ((nC (idN code)).term_), I ((nC (idN code)).vote), I ((nC (idN code)).role), I ((nC (idN code)).lead), .w (sl 1 cI ((nC (idN code)).conf)) (g28 0 5), I (((nC (idN code)).log).start), I (((nC (idN code)).log).startTerm), .w (sl 3 Entry.c (((nC (idN code)).log).entries)) (g28 0 8), I ((nC (idN code)).commit), I ((nC (idN code)).clock), I ((nC (idN code)).limit), .w (sl 1 cI ((nC (idN code)).votes)) (g28 0 12), .w (sl 4 Peer.c ((nC (idN code)).peers)) (g28 0 13)]) rfl rfl rfl (by decide) (Nat.le_of_ble_eq_true rfl) rfl rfl ?_
       refine RW.extract (d := .w (sl 12 Message.c ([sendN (nC (idN code)) ⟨oth (idN code), 3, 0, 0⟩])) (g28 1 0)) rfl rfl rfl (by decide) (Nat.le_of_ble_eq_true rfl) rfl rfl ?_
       refine RW.extract (d := I 3) rfl rfl rfl (by decide) (Nat.le_of_ble_eq_true rfl) rfl rfl ?_
       refine RW.extract (d := Bo true) rfl rfl rfl (by decide) (Nat.le_of_ble_eq_true rfl) rfl rfl ?_
       refine RW.alloc (ds := [I 0, I 0, I 0, I 0, I 0, .r (.v (.slice none 0 0)), I 0, I 0, .r (.v (.slice none 0 0)), I 0, I 0, I 0, .r (.v (.slice none 0 0)), .r (.v (.slice none 0 0))]) rfl rfl rfl rfl fun b29 => ?_
       refine RW.storeAgg (es := [I ((nC (idN code)).id), I ((nC (idN code)).term_), I ((nC (idN code)).vote), I ((nC (idN code)).role), I ((nC (idN code)).lead), .al 118 (some 5) 1 (((nC (idN code)).conf).length) (g28 0 5) 0, I (((nC (idN code)).log).start), I (((nC (idN code)).log).startTerm), .al 118 (some 8) 3 ((((nC (idN code)).log).entries).length) (g28 0 8) 0, I ((nC (idN code)).commit), I ((nC (idN code)).clock), I ((nC (idN code)).limit), .al 118 (some 12) 1 (((nC (idN code)).votes).length) (g28 0 12) 0, .al 118 (some 13) 4 (((nC (idN code)).peers).length) (g28 0 13) 0]) rfl rfl rfl rfl rfl rfl rfl rfl (Nat.le_of_ble_eq_true rfl) rfl ?_
       refine RW.le [(4, I (IntKind.i64.wrap (1 + (Int.tmod ((drawPlaces code).getD 0 0) 4)))), (15, .w (sl 1 cI (two (idN code))) X), (18, .obj b29 [I ((nC (idN code)).id), I ((nC (idN code)).term_), I ((nC (idN code)).vote), I ((nC (idN code)).role), I ((nC (idN code)).lead), .al 118 (some 5) 1 (((nC (idN code)).conf).length) (g28 0 5) 0, I (((nC (idN code)).log).start), I (((nC (idN code)).log).startTerm), .al 118 (some 8) 3 ((((nC (idN code)).log).entries).length) (g28 0 8) 0, I ((nC (idN code)).commit), I ((nC (idN code)).clock), I ((nC (idN code)).limit), .al 118 (some 12) 1 (((nC (idN code)).votes).length) (g28 0 12) 0, .al 118 (some 13) 4 (((nC (idN code)).peers).length) (g28 0 13) 0]), (118, .agg [I ((nC (idN code)).id), I ((nC (idN code)).term_), I ((nC (idN code)).vote), I ((nC (idN code)).role), I ((nC (idN code)).lead), .w (sl 1 cI ((nC (idN code)).conf)) (g28 0 5), I (((nC (idN code)).log).start), I (((nC (idN code)).log).startTerm), .w (sl 3 Entry.c (((nC (idN code)).log).entries)) (g28 0 8), I ((nC (idN code)).commit), I ((nC (idN code)).clock), I ((nC (idN code)).limit), .w (sl 1 cI ((nC (idN code)).votes)) (g28 0 12), .w (sl 4 Peer.c ((nC (idN code)).peers)) (g28 0 13)]), (119, .w (sl 12 Message.c ([sendN (nC (idN code)) ⟨oth (idN code), 3, 0, 0⟩])) (g28 1 0)), (120, I 3), (121, Bo true)] rfl (Le.of rfl) ?_
       refine RW.pullA (k := 18) (l := 118) (j := 5) 18 118 5 rfl rfl rfl (by decide) rfl rfl rfl rfl ?_
       refine RW.le [(4, I (IntKind.i64.wrap (1 + (Int.tmod ((drawPlaces code).getD 0 0) 4)))), (15, .w (sl 1 cI (two (idN code))) X), (18, .obj b29 [I ((nC (idN code)).id), I ((nC (idN code)).term_), I ((nC (idN code)).vote), I ((nC (idN code)).role), I ((nC (idN code)).lead), .w (sl 1 cI ((nC (idN code)).conf)) (g28 0 5), I (((nC (idN code)).log).start), I (((nC (idN code)).log).startTerm), .al 118 (some 8) 3 ((((nC (idN code)).log).entries).length) (g28 0 8) 0, I ((nC (idN code)).commit), I ((nC (idN code)).clock), I ((nC (idN code)).limit), .al 118 (some 12) 1 (((nC (idN code)).votes).length) (g28 0 12) 0, .al 118 (some 13) 4 (((nC (idN code)).peers).length) (g28 0 13) 0]), (118, .agg [I ((nC (idN code)).id), I ((nC (idN code)).term_), I ((nC (idN code)).vote), I ((nC (idN code)).role), I ((nC (idN code)).lead), .u, I (((nC (idN code)).log).start), I (((nC (idN code)).log).startTerm), .w (sl 3 Entry.c (((nC (idN code)).log).entries)) (g28 0 8), I ((nC (idN code)).commit), I ((nC (idN code)).clock), I ((nC (idN code)).limit), .w (sl 1 cI ((nC (idN code)).votes)) (g28 0 12), .w (sl 4 Peer.c ((nC (idN code)).peers)) (g28 0 13)]), (119, .w (sl 12 Message.c ([sendN (nC (idN code)) ⟨oth (idN code), 3, 0, 0⟩])) (g28 1 0)), (120, I 3), (121, Bo true)] rfl (Le.of rfl) ?_
       refine RW.pullA (k := 18) (l := 118) (j := 8) 18 118 8 rfl rfl rfl (by decide) rfl rfl rfl rfl ?_
       refine RW.le [(4, I (IntKind.i64.wrap (1 + (Int.tmod ((drawPlaces code).getD 0 0) 4)))), (15, .w (sl 1 cI (two (idN code))) X), (18, .obj b29 [I ((nC (idN code)).id), I ((nC (idN code)).term_), I ((nC (idN code)).vote), I ((nC (idN code)).role), I ((nC (idN code)).lead), .w (sl 1 cI ((nC (idN code)).conf)) (g28 0 5), I (((nC (idN code)).log).start), I (((nC (idN code)).log).startTerm), .w (sl 3 Entry.c (((nC (idN code)).log).entries)) (g28 0 8), I ((nC (idN code)).commit), I ((nC (idN code)).clock), I ((nC (idN code)).limit), .al 118 (some 12) 1 (((nC (idN code)).votes).length) (g28 0 12) 0, .al 118 (some 13) 4 (((nC (idN code)).peers).length) (g28 0 13) 0]), (118, .agg [I ((nC (idN code)).id), I ((nC (idN code)).term_), I ((nC (idN code)).vote), I ((nC (idN code)).role), I ((nC (idN code)).lead), .u, I (((nC (idN code)).log).start), I (((nC (idN code)).log).startTerm), .u, I ((nC (idN code)).commit), I ((nC (idN code)).clock), I ((nC (idN code)).limit), .w (sl 1 cI ((nC (idN code)).votes)) (g28 0 12), .w (sl 4 Peer.c ((nC (idN code)).peers)) (g28 0 13)]), (119, .w (sl 12 Message.c ([sendN (nC (idN code)) ⟨oth (idN code), 3, 0, 0⟩])) (g28 1 0)), (120, I 3), (121, Bo true)] rfl (Le.of rfl) ?_
       refine RW.pullA (k := 18) (l := 118) (j := 12) 18 118 12 rfl rfl rfl (by decide) rfl rfl rfl rfl ?_
       refine RW.le [(4, I (IntKind.i64.wrap (1 + (Int.tmod ((drawPlaces code).getD 0 0) 4)))), (15, .w (sl 1 cI (two (idN code))) X), (18, .obj b29 [I ((nC (idN code)).id), I ((nC (idN code)).term_), I ((nC (idN code)).vote), I ((nC (idN code)).role), I ((nC (idN code)).lead), .w (sl 1 cI ((nC (idN code)).conf)) (g28 0 5), I (((nC (idN code)).log).start), I (((nC (idN code)).log).startTerm), .w (sl 3 Entry.c (((nC (idN code)).log).entries)) (g28 0 8), I ((nC (idN code)).commit), I ((nC (idN code)).clock), I ((nC (idN code)).limit), .w (sl 1 cI ((nC (idN code)).votes)) (g28 0 12), .al 118 (some 13) 4 (((nC (idN code)).peers).length) (g28 0 13) 0]), (118, .agg [I ((nC (idN code)).id), I ((nC (idN code)).term_), I ((nC (idN code)).vote), I ((nC (idN code)).role), I ((nC (idN code)).lead), .u, I (((nC (idN code)).log).start), I (((nC (idN code)).log).startTerm), .u, I ((nC (idN code)).commit), I ((nC (idN code)).clock), I ((nC (idN code)).limit), .u, .w (sl 4 Peer.c ((nC (idN code)).peers)) (g28 0 13)]), (119, .w (sl 12 Message.c ([sendN (nC (idN code)) ⟨oth (idN code), 3, 0, 0⟩])) (g28 1 0)), (120, I 3), (121, Bo true)] rfl (Le.of rfl) ?_
       refine RW.pullA (k := 18) (l := 118) (j := 13) 18 118 13 rfl rfl rfl (by decide) rfl rfl rfl rfl ?_
       refine RW.le [(4, I (IntKind.i64.wrap (1 + (Int.tmod ((drawPlaces code).getD 0 0) 4)))), (15, .w (sl 1 cI (two (idN code))) X), (18, .obj b29 [I ((nC (idN code)).id), I ((nC (idN code)).term_), I ((nC (idN code)).vote), I ((nC (idN code)).role), I ((nC (idN code)).lead), .w (sl 1 cI ((nC (idN code)).conf)) (g28 0 5), I (((nC (idN code)).log).start), I (((nC (idN code)).log).startTerm), .w (sl 3 Entry.c (((nC (idN code)).log).entries)) (g28 0 8), I ((nC (idN code)).commit), I ((nC (idN code)).clock), I ((nC (idN code)).limit), .w (sl 1 cI ((nC (idN code)).votes)) (g28 0 12), .w (sl 4 Peer.c ((nC (idN code)).peers)) (g28 0 13)]), (119, .w (sl 12 Message.c ([sendN (nC (idN code)) ⟨oth (idN code), 3, 0, 0⟩])) (g28 1 0)), (120, I 3), (121, Bo true)] rfl (Le.of rfl) ?_
       refine RW.assignMove rfl rfl rfl (by decide) (Nat.le_of_ble_eq_true rfl) (Nat.le_of_ble_eq_true rfl) ?_
       refine RW.v rfl (V.as (d := I 3) rfl rfl) ?_
       refine RW.v rfl (V.as (d := Bo true) rfl rfl) ?_
       refine RW.nil ?_
       refine CW.le [(4, I (IntKind.i64.wrap (1 + (Int.tmod ((drawPlaces code).getD 0 0) 4)))), (15, .w (sl 1 cI (two (idN code))) X), (18, .obj b29 [I ((nC (idN code)).id), I ((nC (idN code)).term_), I ((nC (idN code)).vote), I ((nC (idN code)).role), I ((nC (idN code)).lead), .w (sl 1 cI ((nC (idN code)).conf)) (g28 0 5), I (((nC (idN code)).log).start), I (((nC (idN code)).log).startTerm), .w (sl 3 Entry.c (((nC (idN code)).log).entries)) (g28 0 8), I ((nC (idN code)).commit), I ((nC (idN code)).clock), I ((nC (idN code)).limit), .w (sl 1 cI ((nC (idN code)).votes)) (g28 0 12), .w (sl 4 Peer.c ((nC (idN code)).peers)) (g28 0 13)]), (19, .w (sl 12 Message.c ([sendN (nC (idN code)) ⟨oth (idN code), 3, 0, 0⟩])) (g28 1 0)), (21, Bo true)] rfl (Le.of rfl) ?_
       refine CW.seq ?_
       refine CW.region ?_
       refine RW.v rfl (V.mv (d := I (IntKind.i64.wrap (1 + (Int.tmod ((drawPlaces code).getD 0 0) 4)))) rfl rfl) ?_
       refine RW.build1c (c := cI) (v := (IntKind.i64.wrap (1 + (Int.tmod ((drawPlaces code).getD 0 0) 4)))) (u := .v (.int .i64 (IntKind.i64.wrap (1 + (Int.tmod ((drawPlaces code).getD 0 0) 4))))) rfl rfl rfl rfl rfl rfl (.inl rfl) rfl rfl fun X30 => ?_
       refine RW.callOwn rfl (text1 code) rfl (.cons (.one (.r (.al (k := none) (i := 124) (sz := 1) (V := X30) rfl rfl nofun))) (.nil)) rfl fun g31 => ?_
       refine RW.moveMove rfl rfl rfl (by decide) (Nat.le_of_ble_eq_true rfl) (Nat.le_of_ble_eq_true rfl) ?_
       refine RW.extract (d := S (txt [idN code])) rfl rfl rfl (by decide) (Nat.le_of_ble_eq_true rfl) rfl rfl ?_
       refine RW.extract (d := Bo true) rfl rfl rfl (by decide) (Nat.le_of_ble_eq_true rfl) rfl rfl ?_
       refine RW.v rfl (V.as (d := S (txt [idN code])) rfl rfl) ?_
       refine RW.v rfl (V.as (d := Bo true) rfl rfl) ?_
       refine RW.nil ?_
       refine CW.le [(4, I (IntKind.i64.wrap (1 + (Int.tmod ((drawPlaces code).getD 0 0) 4)))), (15, .w (sl 1 cI (two (idN code))) X), (18, .obj b29 [I ((nC (idN code)).id), I ((nC (idN code)).term_), I ((nC (idN code)).vote), I ((nC (idN code)).role), I ((nC (idN code)).lead), .w (sl 1 cI ((nC (idN code)).conf)) (g28 0 5), I (((nC (idN code)).log).start), I (((nC (idN code)).log).startTerm), .w (sl 3 Entry.c (((nC (idN code)).log).entries)) (g28 0 8), I ((nC (idN code)).commit), I ((nC (idN code)).clock), I ((nC (idN code)).limit), .w (sl 1 cI ((nC (idN code)).votes)) (g28 0 12), .w (sl 4 Peer.c ((nC (idN code)).peers)) (g28 0 13)]), (19, .w (sl 12 Message.c ([sendN (nC (idN code)) ⟨oth (idN code), 3, 0, 0⟩])) (g28 1 0)), (21, Bo true), (22, S (txt [idN code]))] rfl (Le.of rfl) ?_
       refine CW.seq ?_
       refine CW.region ?_
       refine RW.v rfl (V.loadAgg rfl rfl rfl rfl rfl (Nat.le_of_ble_eq_true rfl)) ?_
       refine RW.v rfl (V.mv (d := S (txt [idN code])) rfl rfl) ?_
       refine RW.callOwn rfl (propC code) rfl (.cons (.agg (.cons (.r .r) (.cons (.r .r) (.cons (.r .r) (.cons (.r .r) (.cons (.r .r) (.cons (.r (.alo (k := none) (i := 18) (j := 5) (sz := 1) (V := (g28 0 5)) rfl rfl rfl nofun)) (.cons (.r .r) (.cons (.r .r) (.cons (.r (.alo (k := none) (i := 18) (j := 8) (sz := 3) (V := (g28 0 8)) rfl rfl rfl nofun)) (.cons (.r .r) (.cons (.r .r) (.cons (.r .r) (.cons (.r (.alo (k := none) (i := 18) (j := 12) (sz := 1) (V := (g28 0 12)) rfl rfl rfl nofun)) (.cons (.r (.alo (k := none) (i := 18) (j := 13) (sz := 4) (V := (g28 0 13)) rfl rfl rfl nofun)) (.nil)))))))))))))))) (.cons (.one (.r .r)) (.cons (.one (.r .r)) (.nil)))) rfl fun g32 => ?_
       refine RW.moveMove rfl rfl rfl (by decide) (Nat.le_of_ble_eq_true rfl) (Nat.le_of_ble_eq_true rfl) ?_
       refine RW.extract (d := .agg [I Node.z.id, I Node.z.term_, I Node.z.vote, I Node.z.role, I Node.z.lead, .w (sl 1 cI Node.z.conf) (g32 0 5), I Node.z.log.start, I Node.z.log.startTerm, .w (sl 3 Entry.c Node.z.log.entries) (g32 0 8), I Node.z.commit, I Node.z.clock, I Node.z.limit, .w (sl 1 cI Node.z.votes) (g32 0 12), .w (sl 4 Peer.c Node.z.peers) (g32 0 13)]) rfl rfl rfl (by decide) (Nat.le_of_ble_eq_true rfl) rfl rfl ?_
       refine RW.extract (d := .w (sl 12 Message.c ([] : List Message)) (g32 1 0)) rfl rfl rfl (by decide) (Nat.le_of_ble_eq_true rfl) rfl rfl ?_
       refine RW.extract (d := I 0) rfl rfl rfl (by decide) (Nat.le_of_ble_eq_true rfl) rfl rfl ?_
       refine RW.extract (d := Bo false) rfl rfl rfl (by decide) (Nat.le_of_ble_eq_true rfl) rfl rfl ?_
       refine RW.alloc (ds := [I 0, I 0, I 0, I 0, I 0, .r (.v (.slice none 0 0)), I 0, I 0, .r (.v (.slice none 0 0)), I 0, I 0, I 0, .r (.v (.slice none 0 0)), .r (.v (.slice none 0 0))]) rfl rfl rfl rfl fun b33 => ?_
       refine RW.storeAgg (es := [I Node.z.id, I Node.z.term_, I Node.z.vote, I Node.z.role, I Node.z.lead, .al 132 (some 5) 1 Node.z.conf.length (g32 0 5) 0, I Node.z.log.start, I Node.z.log.startTerm, .al 132 (some 8) 3 Node.z.log.entries.length (g32 0 8) 0, I Node.z.commit, I Node.z.clock, I Node.z.limit, .al 132 (some 12) 1 Node.z.votes.length (g32 0 12) 0, .al 132 (some 13) 4 Node.z.peers.length (g32 0 13) 0]) rfl rfl rfl rfl rfl rfl rfl rfl (Nat.le_of_ble_eq_true rfl) rfl ?_
       refine RW.le [(4, I (IntKind.i64.wrap (1 + (Int.tmod ((drawPlaces code).getD 0 0) 4)))), (15, .w (sl 1 cI (two (idN code))) X), (18, .obj b29 [I ((nC (idN code)).id), I ((nC (idN code)).term_), I ((nC (idN code)).vote), I ((nC (idN code)).role), I ((nC (idN code)).lead), .w (sl 1 cI ((nC (idN code)).conf)) (g28 0 5), I (((nC (idN code)).log).start), I (((nC (idN code)).log).startTerm), .w (sl 3 Entry.c (((nC (idN code)).log).entries)) (g28 0 8), I ((nC (idN code)).commit), I ((nC (idN code)).clock), I ((nC (idN code)).limit), .w (sl 1 cI ((nC (idN code)).votes)) (g28 0 12), .w (sl 4 Peer.c ((nC (idN code)).peers)) (g28 0 13)]), (19, .w (sl 12 Message.c ([sendN (nC (idN code)) ⟨oth (idN code), 3, 0, 0⟩])) (g28 1 0)), (21, Bo true), (24, .obj b33 [I Node.z.id, I Node.z.term_, I Node.z.vote, I Node.z.role, I Node.z.lead, .al 132 (some 5) 1 Node.z.conf.length (g32 0 5) 0, I Node.z.log.start, I Node.z.log.startTerm, .al 132 (some 8) 3 Node.z.log.entries.length (g32 0 8) 0, I Node.z.commit, I Node.z.clock, I Node.z.limit, .al 132 (some 12) 1 Node.z.votes.length (g32 0 12) 0, .al 132 (some 13) 4 Node.z.peers.length (g32 0 13) 0]), (132, .agg [I Node.z.id, I Node.z.term_, I Node.z.vote, I Node.z.role, I Node.z.lead, .w (sl 1 cI Node.z.conf) (g32 0 5), I Node.z.log.start, I Node.z.log.startTerm, .w (sl 3 Entry.c Node.z.log.entries) (g32 0 8), I Node.z.commit, I Node.z.clock, I Node.z.limit, .w (sl 1 cI Node.z.votes) (g32 0 12), .w (sl 4 Peer.c Node.z.peers) (g32 0 13)]), (133, .w (sl 12 Message.c ([] : List Message)) (g32 1 0)), (134, I 0), (135, Bo false)] rfl (Le.of rfl) ?_
       refine RW.pullA (k := 24) (l := 132) (j := 5) 24 132 5 rfl rfl rfl (by decide) rfl rfl rfl rfl ?_
       refine RW.le [(4, I (IntKind.i64.wrap (1 + (Int.tmod ((drawPlaces code).getD 0 0) 4)))), (15, .w (sl 1 cI (two (idN code))) X), (18, .obj b29 [I ((nC (idN code)).id), I ((nC (idN code)).term_), I ((nC (idN code)).vote), I ((nC (idN code)).role), I ((nC (idN code)).lead), .w (sl 1 cI ((nC (idN code)).conf)) (g28 0 5), I (((nC (idN code)).log).start), I (((nC (idN code)).log).startTerm), .w (sl 3 Entry.c (((nC (idN code)).log).entries)) (g28 0 8), I ((nC (idN code)).commit), I ((nC (idN code)).clock), I ((nC (idN code)).limit), .w (sl 1 cI ((nC (idN code)).votes)) (g28 0 12), .w (sl 4 Peer.c ((nC (idN code)).peers)) (g28 0 13)]), (19, .w (sl 12 Message.c ([sendN (nC (idN code)) ⟨oth (idN code), 3, 0, 0⟩])) (g28 1 0)), (21, Bo true), (24, .obj b33 [I Node.z.id, I Node.z.term_, I Node.z.vote, I Node.z.role, I Node.z.lead, .w (sl 1 cI Node.z.conf) (g32 0 5), I Node.z.log.start, I Node.z.log.startTerm, .al 132 (some 8) 3 Node.z.log.entries.length (g32 0 8) 0, I Node.z.commit, I Node.z.clock, I Node.z.limit, .al 132 (some 12) 1 Node.z.votes.length (g32 0 12) 0, .al 132 (some 13) 4 Node.z.peers.length (g32 0 13) 0]), (132, .agg [I Node.z.id, I Node.z.term_, I Node.z.vote, I Node.z.role, I Node.z.lead, .u, I Node.z.log.start, I Node.z.log.startTerm, .w (sl 3 Entry.c Node.z.log.entries) (g32 0 8), I Node.z.commit, I Node.z.clock, I Node.z.limit, .w (sl 1 cI Node.z.votes) (g32 0 12), .w (sl 4 Peer.c Node.z.peers) (g32 0 13)]), (133, .w (sl 12 Message.c ([] : List Message)) (g32 1 0)), (134, I 0), (135, Bo false)] rfl (Le.of rfl) ?_
       refine RW.pullA (k := 24) (l := 132) (j := 8) 24 132 8 rfl rfl rfl (by decide) rfl rfl rfl rfl ?_
       refine RW.le [(4, I (IntKind.i64.wrap (1 + (Int.tmod ((drawPlaces code).getD 0 0) 4)))), (15, .w (sl 1 cI (two (idN code))) X), (18, .obj b29 [I ((nC (idN code)).id), I ((nC (idN code)).term_), I ((nC (idN code)).vote), I ((nC (idN code)).role), I ((nC (idN code)).lead), .w (sl 1 cI ((nC (idN code)).conf)) (g28 0 5), I (((nC (idN code)).log).start), I (((nC (idN code)).log).startTerm), .w (sl 3 Entry.c (((nC (idN code)).log).entries)) (g28 0 8), I ((nC (idN code)).commit), I ((nC (idN code)).clock), I ((nC (idN code)).limit), .w (sl 1 cI ((nC (idN code)).votes)) (g28 0 12), .w (sl 4 Peer.c ((nC (idN code)).peers)) (g28 0 13)]), (19, .w (sl 12 Message.c ([sendN (nC (idN code)) ⟨oth (idN code), 3, 0, 0⟩])) (g28 1 0)), (21, Bo true), (24, .obj b33 [I Node.z.id, I Node.z.term_, I Node.z.vote, I Node.z.role, I Node.z.lead, .w (sl 1 cI Node.z.conf) (g32 0 5), I Node.z.log.start, I Node.z.log.startTerm, .w (sl 3 Entry.c Node.z.log.entries) (g32 0 8), I Node.z.commit, I Node.z.clock, I Node.z.limit, .al 132 (some 12) 1 Node.z.votes.length (g32 0 12) 0, .al 132 (some 13) 4 Node.z.peers.length (g32 0 13) 0]), (132, .agg [I Node.z.id, I Node.z.term_, I Node.z.vote, I Node.z.role, I Node.z.lead, .u, I Node.z.log.start, I Node.z.log.startTerm, .u, I Node.z.commit, I Node.z.clock, I Node.z.limit, .w (sl 1 cI Node.z.votes) (g32 0 12), .w (sl 4 Peer.c Node.z.peers) (g32 0 13)]), (133, .w (sl 12 Message.c ([] : List Message)) (g32 1 0)), (134, I 0), (135, Bo false)] rfl (Le.of rfl) ?_
       refine RW.pullA (k := 24) (l := 132) (j := 12) 24 132 12 rfl rfl rfl (by decide) rfl rfl rfl rfl ?_
       refine RW.le [(4, I (IntKind.i64.wrap (1 + (Int.tmod ((drawPlaces code).getD 0 0) 4)))), (15, .w (sl 1 cI (two (idN code))) X), (18, .obj b29 [I ((nC (idN code)).id), I ((nC (idN code)).term_), I ((nC (idN code)).vote), I ((nC (idN code)).role), I ((nC (idN code)).lead), .w (sl 1 cI ((nC (idN code)).conf)) (g28 0 5), I (((nC (idN code)).log).start), I (((nC (idN code)).log).startTerm), .w (sl 3 Entry.c (((nC (idN code)).log).entries)) (g28 0 8), I ((nC (idN code)).commit), I ((nC (idN code)).clock), I ((nC (idN code)).limit), .w (sl 1 cI ((nC (idN code)).votes)) (g28 0 12), .w (sl 4 Peer.c ((nC (idN code)).peers)) (g28 0 13)]), (19, .w (sl 12 Message.c ([sendN (nC (idN code)) ⟨oth (idN code), 3, 0, 0⟩])) (g28 1 0)), (21, Bo true), (24, .obj b33 [I Node.z.id, I Node.z.term_, I Node.z.vote, I Node.z.role, I Node.z.lead, .w (sl 1 cI Node.z.conf) (g32 0 5), I Node.z.log.start, I Node.z.log.startTerm, .w (sl 3 Entry.c Node.z.log.entries) (g32 0 8), I Node.z.commit, I Node.z.clock, I Node.z.limit, .w (sl 1 cI Node.z.votes) (g32 0 12), .al 132 (some 13) 4 Node.z.peers.length (g32 0 13) 0]), (132, .agg [I Node.z.id, I Node.z.term_, I Node.z.vote, I Node.z.role, I Node.z.lead, .u, I Node.z.log.start, I Node.z.log.startTerm, .u, I Node.z.commit, I Node.z.clock, I Node.z.limit, .u, .w (sl 4 Peer.c Node.z.peers) (g32 0 13)]), (133, .w (sl 12 Message.c ([] : List Message)) (g32 1 0)), (134, I 0), (135, Bo false)] rfl (Le.of rfl) ?_
       refine RW.pullA (k := 24) (l := 132) (j := 13) 24 132 13 rfl rfl rfl (by decide) rfl rfl rfl rfl ?_
       refine RW.le [(4, I (IntKind.i64.wrap (1 + (Int.tmod ((drawPlaces code).getD 0 0) 4)))), (15, .w (sl 1 cI (two (idN code))) X), (18, .obj b29 [I ((nC (idN code)).id), I ((nC (idN code)).term_), I ((nC (idN code)).vote), I ((nC (idN code)).role), I ((nC (idN code)).lead), .w (sl 1 cI ((nC (idN code)).conf)) (g28 0 5), I (((nC (idN code)).log).start), I (((nC (idN code)).log).startTerm), .w (sl 3 Entry.c (((nC (idN code)).log).entries)) (g28 0 8), I ((nC (idN code)).commit), I ((nC (idN code)).clock), I ((nC (idN code)).limit), .w (sl 1 cI ((nC (idN code)).votes)) (g28 0 12), .w (sl 4 Peer.c ((nC (idN code)).peers)) (g28 0 13)]), (19, .w (sl 12 Message.c ([sendN (nC (idN code)) ⟨oth (idN code), 3, 0, 0⟩])) (g28 1 0)), (21, Bo true), (24, .obj b33 [I Node.z.id, I Node.z.term_, I Node.z.vote, I Node.z.role, I Node.z.lead, .w (sl 1 cI Node.z.conf) (g32 0 5), I Node.z.log.start, I Node.z.log.startTerm, .w (sl 3 Entry.c Node.z.log.entries) (g32 0 8), I Node.z.commit, I Node.z.clock, I Node.z.limit, .w (sl 1 cI Node.z.votes) (g32 0 12), .w (sl 4 Peer.c Node.z.peers) (g32 0 13)]), (133, .w (sl 12 Message.c ([] : List Message)) (g32 1 0)), (134, I 0), (135, Bo false)] rfl (Le.of rfl) ?_
       refine RW.assignMove rfl rfl rfl (by decide) (Nat.le_of_ble_eq_true rfl) (Nat.le_of_ble_eq_true rfl) ?_
       refine RW.v rfl (V.as (d := I 0) rfl rfl) ?_
       refine RW.v rfl (V.as (d := Bo false) rfl rfl) ?_
       refine RW.nil ?_
       refine CW.le [(4, I (IntKind.i64.wrap (1 + (Int.tmod ((drawPlaces code).getD 0 0) 4)))), (15, .w (sl 1 cI (two (idN code))) X), (18, .obj b29 [I ((nC (idN code)).id), I ((nC (idN code)).term_), I ((nC (idN code)).vote), I ((nC (idN code)).role), I ((nC (idN code)).lead), .w (sl 1 cI ((nC (idN code)).conf)) (g28 0 5), I (((nC (idN code)).log).start), I (((nC (idN code)).log).startTerm), .w (sl 3 Entry.c (((nC (idN code)).log).entries)) (g28 0 8), I ((nC (idN code)).commit), I ((nC (idN code)).clock), I ((nC (idN code)).limit), .w (sl 1 cI ((nC (idN code)).votes)) (g28 0 12), .w (sl 4 Peer.c ((nC (idN code)).peers)) (g28 0 13)]), (19, .w (sl 12 Message.c ([sendN (nC (idN code)) ⟨oth (idN code), 3, 0, 0⟩])) (g28 1 0)), (21, Bo true), (27, Bo false)] rfl (Le.of rfl) ?_
       refine CW.seq ?_
       refine CW.region ?_
       refine RW.v rfl (V.loadAgg rfl rfl rfl rfl rfl (Nat.le_of_ble_eq_true rfl)) ?_
       refine RW.callOwn rfl (settleC code) rfl (.cons (.agg (.cons (.r .r) (.cons (.r .r) (.cons (.r .r) (.cons (.r .r) (.cons (.r .r) (.cons (.r (.alo (k := none) (i := 18) (j := 5) (sz := 1) (V := (g28 0 5)) rfl rfl rfl nofun)) (.cons (.r .r) (.cons (.r .r) (.cons (.r (.alo (k := none) (i := 18) (j := 8) (sz := 3) (V := (g28 0 8)) rfl rfl rfl nofun)) (.cons (.r .r) (.cons (.r .r) (.cons (.r .r) (.cons (.r (.alo (k := none) (i := 18) (j := 12) (sz := 1) (V := (g28 0 12)) rfl rfl rfl nofun)) (.cons (.r (.alo (k := none) (i := 18) (j := 13) (sz := 4) (V := (g28 0 13)) rfl rfl rfl nofun)) (.nil)))))))))))))))) (.cons (.one (.r .r)) (.nil))) rfl fun g34 => ?_
       refine RW.moveMove rfl rfl rfl (by decide) (Nat.le_of_ble_eq_true rfl) (Nat.le_of_ble_eq_true rfl) ?_
       refine RW.extract (d := .agg [I ((nS (idN code)).id), I ((nS (idN code)).term_), I ((nS (idN code)).vote), I ((nS (idN code)).role), I ((nS (idN code)).lead), .w (sl 1 cI ((nS (idN code)).conf)) (g34 0 5), I (((nS (idN code)).log).start), I (((nS (idN code)).log).startTerm), .w (sl 3 Entry.c (((nS (idN code)).log).entries)) (g34 0 8), I ((nS (idN code)).commit), I ((nS (idN code)).clock), I ((nS (idN code)).limit), .w (sl 1 cI ((nS (idN code)).votes)) (g34 0 12), .w (sl 4 Peer.c ((nS (idN code)).peers)) (g34 0 13)]) rfl rfl rfl (by decide) (Nat.le_of_ble_eq_true rfl) rfl rfl ?_
       refine RW.extract (d := Bo true) rfl rfl rfl (by decide) (Nat.le_of_ble_eq_true rfl) rfl rfl ?_
       refine RW.alloc (ds := [I 0, I 0, I 0, I 0, I 0, .r (.v (.slice none 0 0)), I 0, I 0, .r (.v (.slice none 0 0)), I 0, I 0, I 0, .r (.v (.slice none 0 0)), .r (.v (.slice none 0 0))]) rfl rfl rfl rfl fun b35 => ?_
       refine RW.storeAgg (es := [I ((nS (idN code)).id), I ((nS (idN code)).term_), I ((nS (idN code)).vote), I ((nS (idN code)).role), I ((nS (idN code)).lead), .al 139 (some 5) 1 (((nS (idN code)).conf).length) (g34 0 5) 0, I (((nS (idN code)).log).start), I (((nS (idN code)).log).startTerm), .al 139 (some 8) 3 ((((nS (idN code)).log).entries).length) (g34 0 8) 0, I ((nS (idN code)).commit), I ((nS (idN code)).clock), I ((nS (idN code)).limit), .al 139 (some 12) 1 (((nS (idN code)).votes).length) (g34 0 12) 0, .al 139 (some 13) 4 (((nS (idN code)).peers).length) (g34 0 13) 0]) rfl rfl rfl rfl rfl rfl rfl rfl (Nat.le_of_ble_eq_true rfl) rfl ?_
       refine RW.le [(4, I (IntKind.i64.wrap (1 + (Int.tmod ((drawPlaces code).getD 0 0) 4)))), (15, .w (sl 1 cI (two (idN code))) X), (18, .obj b29 [I ((nC (idN code)).id), I ((nC (idN code)).term_), I ((nC (idN code)).vote), I ((nC (idN code)).role), I ((nC (idN code)).lead), .w (sl 1 cI ((nC (idN code)).conf)) (g28 0 5), I (((nC (idN code)).log).start), I (((nC (idN code)).log).startTerm), .w (sl 3 Entry.c (((nC (idN code)).log).entries)) (g28 0 8), I ((nC (idN code)).commit), I ((nC (idN code)).clock), I ((nC (idN code)).limit), .w (sl 1 cI ((nC (idN code)).votes)) (g28 0 12), .w (sl 4 Peer.c ((nC (idN code)).peers)) (g28 0 13)]), (19, .w (sl 12 Message.c ([sendN (nC (idN code)) ⟨oth (idN code), 3, 0, 0⟩])) (g28 1 0)), (21, Bo true), (27, Bo false), (28, .obj b35 [I ((nS (idN code)).id), I ((nS (idN code)).term_), I ((nS (idN code)).vote), I ((nS (idN code)).role), I ((nS (idN code)).lead), .al 139 (some 5) 1 (((nS (idN code)).conf).length) (g34 0 5) 0, I (((nS (idN code)).log).start), I (((nS (idN code)).log).startTerm), .al 139 (some 8) 3 ((((nS (idN code)).log).entries).length) (g34 0 8) 0, I ((nS (idN code)).commit), I ((nS (idN code)).clock), I ((nS (idN code)).limit), .al 139 (some 12) 1 (((nS (idN code)).votes).length) (g34 0 12) 0, .al 139 (some 13) 4 (((nS (idN code)).peers).length) (g34 0 13) 0]), (139, .agg [I ((nS (idN code)).id), I ((nS (idN code)).term_), I ((nS (idN code)).vote), I ((nS (idN code)).role), I ((nS (idN code)).lead), .w (sl 1 cI ((nS (idN code)).conf)) (g34 0 5), I (((nS (idN code)).log).start), I (((nS (idN code)).log).startTerm), .w (sl 3 Entry.c (((nS (idN code)).log).entries)) (g34 0 8), I ((nS (idN code)).commit), I ((nS (idN code)).clock), I ((nS (idN code)).limit), .w (sl 1 cI ((nS (idN code)).votes)) (g34 0 12), .w (sl 4 Peer.c ((nS (idN code)).peers)) (g34 0 13)]), (140, Bo true)] rfl (Le.of rfl) ?_
       refine RW.pullA (k := 28) (l := 139) (j := 5) 28 139 5 rfl rfl rfl (by decide) rfl rfl rfl rfl ?_
       refine RW.le [(4, I (IntKind.i64.wrap (1 + (Int.tmod ((drawPlaces code).getD 0 0) 4)))), (15, .w (sl 1 cI (two (idN code))) X), (18, .obj b29 [I ((nC (idN code)).id), I ((nC (idN code)).term_), I ((nC (idN code)).vote), I ((nC (idN code)).role), I ((nC (idN code)).lead), .w (sl 1 cI ((nC (idN code)).conf)) (g28 0 5), I (((nC (idN code)).log).start), I (((nC (idN code)).log).startTerm), .w (sl 3 Entry.c (((nC (idN code)).log).entries)) (g28 0 8), I ((nC (idN code)).commit), I ((nC (idN code)).clock), I ((nC (idN code)).limit), .w (sl 1 cI ((nC (idN code)).votes)) (g28 0 12), .w (sl 4 Peer.c ((nC (idN code)).peers)) (g28 0 13)]), (19, .w (sl 12 Message.c ([sendN (nC (idN code)) ⟨oth (idN code), 3, 0, 0⟩])) (g28 1 0)), (21, Bo true), (27, Bo false), (28, .obj b35 [I ((nS (idN code)).id), I ((nS (idN code)).term_), I ((nS (idN code)).vote), I ((nS (idN code)).role), I ((nS (idN code)).lead), .w (sl 1 cI ((nS (idN code)).conf)) (g34 0 5), I (((nS (idN code)).log).start), I (((nS (idN code)).log).startTerm), .al 139 (some 8) 3 ((((nS (idN code)).log).entries).length) (g34 0 8) 0, I ((nS (idN code)).commit), I ((nS (idN code)).clock), I ((nS (idN code)).limit), .al 139 (some 12) 1 (((nS (idN code)).votes).length) (g34 0 12) 0, .al 139 (some 13) 4 (((nS (idN code)).peers).length) (g34 0 13) 0]), (139, .agg [I ((nS (idN code)).id), I ((nS (idN code)).term_), I ((nS (idN code)).vote), I ((nS (idN code)).role), I ((nS (idN code)).lead), .u, I (((nS (idN code)).log).start), I (((nS (idN code)).log).startTerm), .w (sl 3 Entry.c (((nS (idN code)).log).entries)) (g34 0 8), I ((nS (idN code)).commit), I ((nS (idN code)).clock), I ((nS (idN code)).limit), .w (sl 1 cI ((nS (idN code)).votes)) (g34 0 12), .w (sl 4 Peer.c ((nS (idN code)).peers)) (g34 0 13)]), (140, Bo true)] rfl (Le.of rfl) ?_
       refine RW.pullA (k := 28) (l := 139) (j := 8) 28 139 8 rfl rfl rfl (by decide) rfl rfl rfl rfl ?_
       refine RW.le [(4, I (IntKind.i64.wrap (1 + (Int.tmod ((drawPlaces code).getD 0 0) 4)))), (15, .w (sl 1 cI (two (idN code))) X), (18, .obj b29 [I ((nC (idN code)).id), I ((nC (idN code)).term_), I ((nC (idN code)).vote), I ((nC (idN code)).role), I ((nC (idN code)).lead), .w (sl 1 cI ((nC (idN code)).conf)) (g28 0 5), I (((nC (idN code)).log).start), I (((nC (idN code)).log).startTerm), .w (sl 3 Entry.c (((nC (idN code)).log).entries)) (g28 0 8), I ((nC (idN code)).commit), I ((nC (idN code)).clock), I ((nC (idN code)).limit), .w (sl 1 cI ((nC (idN code)).votes)) (g28 0 12), .w (sl 4 Peer.c ((nC (idN code)).peers)) (g28 0 13)]), (19, .w (sl 12 Message.c ([sendN (nC (idN code)) ⟨oth (idN code), 3, 0, 0⟩])) (g28 1 0)), (21, Bo true), (27, Bo false), (28, .obj b35 [I ((nS (idN code)).id), I ((nS (idN code)).term_), I ((nS (idN code)).vote), I ((nS (idN code)).role), I ((nS (idN code)).lead), .w (sl 1 cI ((nS (idN code)).conf)) (g34 0 5), I (((nS (idN code)).log).start), I (((nS (idN code)).log).startTerm), .w (sl 3 Entry.c (((nS (idN code)).log).entries)) (g34 0 8), I ((nS (idN code)).commit), I ((nS (idN code)).clock), I ((nS (idN code)).limit), .al 139 (some 12) 1 (((nS (idN code)).votes).length) (g34 0 12) 0, .al 139 (some 13) 4 (((nS (idN code)).peers).length) (g34 0 13) 0]), (139, .agg [I ((nS (idN code)).id), I ((nS (idN code)).term_), I ((nS (idN code)).vote), I ((nS (idN code)).role), I ((nS (idN code)).lead), .u, I (((nS (idN code)).log).start), I (((nS (idN code)).log).startTerm), .u, I ((nS (idN code)).commit), I ((nS (idN code)).clock), I ((nS (idN code)).limit), .w (sl 1 cI ((nS (idN code)).votes)) (g34 0 12), .w (sl 4 Peer.c ((nS (idN code)).peers)) (g34 0 13)]), (140, Bo true)] rfl (Le.of rfl) ?_
       refine RW.pullA (k := 28) (l := 139) (j := 12) 28 139 12 rfl rfl rfl (by decide) rfl rfl rfl rfl ?_
       refine RW.le [(4, I (IntKind.i64.wrap (1 + (Int.tmod ((drawPlaces code).getD 0 0) 4)))), (15, .w (sl 1 cI (two (idN code))) X), (18, .obj b29 [I ((nC (idN code)).id), I ((nC (idN code)).term_), I ((nC (idN code)).vote), I ((nC (idN code)).role), I ((nC (idN code)).lead), .w (sl 1 cI ((nC (idN code)).conf)) (g28 0 5), I (((nC (idN code)).log).start), I (((nC (idN code)).log).startTerm), .w (sl 3 Entry.c (((nC (idN code)).log).entries)) (g28 0 8), I ((nC (idN code)).commit), I ((nC (idN code)).clock), I ((nC (idN code)).limit), .w (sl 1 cI ((nC (idN code)).votes)) (g28 0 12), .w (sl 4 Peer.c ((nC (idN code)).peers)) (g28 0 13)]), (19, .w (sl 12 Message.c ([sendN (nC (idN code)) ⟨oth (idN code), 3, 0, 0⟩])) (g28 1 0)), (21, Bo true), (27, Bo false), (28, .obj b35 [I ((nS (idN code)).id), I ((nS (idN code)).term_), I ((nS (idN code)).vote), I ((nS (idN code)).role), I ((nS (idN code)).lead), .w (sl 1 cI ((nS (idN code)).conf)) (g34 0 5), I (((nS (idN code)).log).start), I (((nS (idN code)).log).startTerm), .w (sl 3 Entry.c (((nS (idN code)).log).entries)) (g34 0 8), I ((nS (idN code)).commit), I ((nS (idN code)).clock), I ((nS (idN code)).limit), .w (sl 1 cI ((nS (idN code)).votes)) (g34 0 12), .al 139 (some 13) 4 (((nS (idN code)).peers).length) (g34 0 13) 0]), (139, .agg [I ((nS (idN code)).id), I ((nS (idN code)).term_), I ((nS (idN code)).vote), I ((nS (idN code)).role), I ((nS (idN code)).lead), .u, I (((nS (idN code)).log).start), I (((nS (idN code)).log).startTerm), .u, I ((nS (idN code)).commit), I ((nS (idN code)).clock), I ((nS (idN code)).limit), .u, .w (sl 4 Peer.c ((nS (idN code)).peers)) (g34 0 13)]), (140, Bo true)] rfl (Le.of rfl) ?_
       refine RW.pullA (k := 28) (l := 139) (j := 13) 28 139 13 rfl rfl rfl (by decide) rfl rfl rfl rfl ?_
       refine RW.le [(4, I (IntKind.i64.wrap (1 + (Int.tmod ((drawPlaces code).getD 0 0) 4)))), (15, .w (sl 1 cI (two (idN code))) X), (18, .obj b29 [I ((nC (idN code)).id), I ((nC (idN code)).term_), I ((nC (idN code)).vote), I ((nC (idN code)).role), I ((nC (idN code)).lead), .w (sl 1 cI ((nC (idN code)).conf)) (g28 0 5), I (((nC (idN code)).log).start), I (((nC (idN code)).log).startTerm), .w (sl 3 Entry.c (((nC (idN code)).log).entries)) (g28 0 8), I ((nC (idN code)).commit), I ((nC (idN code)).clock), I ((nC (idN code)).limit), .w (sl 1 cI ((nC (idN code)).votes)) (g28 0 12), .w (sl 4 Peer.c ((nC (idN code)).peers)) (g28 0 13)]), (19, .w (sl 12 Message.c ([sendN (nC (idN code)) ⟨oth (idN code), 3, 0, 0⟩])) (g28 1 0)), (21, Bo true), (27, Bo false), (28, .obj b35 [I ((nS (idN code)).id), I ((nS (idN code)).term_), I ((nS (idN code)).vote), I ((nS (idN code)).role), I ((nS (idN code)).lead), .w (sl 1 cI ((nS (idN code)).conf)) (g34 0 5), I (((nS (idN code)).log).start), I (((nS (idN code)).log).startTerm), .w (sl 3 Entry.c (((nS (idN code)).log).entries)) (g34 0 8), I ((nS (idN code)).commit), I ((nS (idN code)).clock), I ((nS (idN code)).limit), .w (sl 1 cI ((nS (idN code)).votes)) (g34 0 12), .w (sl 4 Peer.c ((nS (idN code)).peers)) (g34 0 13)]), (140, Bo true)] rfl (Le.of rfl) ?_
       refine RW.v rfl (V.as (d := Bo true) rfl rfl) ?_
       refine RW.nil ?_
       refine CW.le [(4, I (IntKind.i64.wrap (1 + (Int.tmod ((drawPlaces code).getD 0 0) 4)))), (15, .w (sl 1 cI (two (idN code))) X), (18, .obj b29 [I ((nC (idN code)).id), I ((nC (idN code)).term_), I ((nC (idN code)).vote), I ((nC (idN code)).role), I ((nC (idN code)).lead), .w (sl 1 cI ((nC (idN code)).conf)) (g28 0 5), I (((nC (idN code)).log).start), I (((nC (idN code)).log).startTerm), .w (sl 3 Entry.c (((nC (idN code)).log).entries)) (g28 0 8), I ((nC (idN code)).commit), I ((nC (idN code)).clock), I ((nC (idN code)).limit), .w (sl 1 cI ((nC (idN code)).votes)) (g28 0 12), .w (sl 4 Peer.c ((nC (idN code)).peers)) (g28 0 13)]), (19, .w (sl 12 Message.c ([sendN (nC (idN code)) ⟨oth (idN code), 3, 0, 0⟩])) (g28 1 0)), (21, Bo true), (27, Bo false), (28, .obj b35 [I ((nS (idN code)).id), I ((nS (idN code)).term_), I ((nS (idN code)).vote), I ((nS (idN code)).role), I ((nS (idN code)).lead), .w (sl 1 cI ((nS (idN code)).conf)) (g34 0 5), I (((nS (idN code)).log).start), I (((nS (idN code)).log).startTerm), .w (sl 3 Entry.c (((nS (idN code)).log).entries)) (g34 0 8), I ((nS (idN code)).commit), I ((nS (idN code)).clock), I ((nS (idN code)).limit), .w (sl 1 cI ((nS (idN code)).votes)) (g34 0 12), .w (sl 4 Peer.c ((nS (idN code)).peers)) (g34 0 13)]), (29, Bo true)] rfl (Le.of rfl) ?_
       refine CW.seqJ 182 (fun (v36 : Bool) => [(2, Bo v36)]) (fun v36 => v36 = ((((((((!false) && ((nC (idN code)).commit == 2)) && ((([sendN (nC (idN code)) ⟨oth (idN code), 3, 0, 0⟩]).length : Int) == 1)) && (eqS eqI (two (idN code)) (two (idN code)))) && (eqS eqI ([idN code]) ([(IntKind.i64.wrap (1 + (Int.tmod ((drawPlaces code).getD 0 0) 4)))]))) && true) && true) && (((nS (idN code)).log).start == 1))) ?_ ?_
       ·refine CW.region ?_
        refine RW.v rfl (V.mv (d := Bo true) rfl rfl) ?_
        refine RW.v rfl (V.mv (d := Bo true) rfl rfl) ?_
        refine RW.gt rfl rfl rfl rfl (V.mv (d := Bo false) rfl rfl) ?_
        refine RW.gt rfl rfl rfl rfl (V.not rfl rfl) ?_
        refine RW.v rfl (V.pickT (d := Bo (!false)) rfl rfl rfl) ?_
        refine RW.v rfl (V.mv (d := Bo (!false)) rfl rfl) ?_
        refine RW.gv rfl rfl rfl rfl (fun h37 => V.field rfl rfl rfl rfl (by decide) rfl) (fun h37 => ?_) (fun h37 => ?_)
        ·skip
         refine RW.gt rfl rfl rfl rfl (V.loadPrim (d := I ((nC (idN code)).commit)) rfl rfl (.inl rfl) rfl rfl rfl) ?_
         refine RW.gt rfl rfl rfl rfl (V.cmpInt rfl rfl rfl rfl) ?_
         refine RW.v rfl (V.pickT (d := Bo ((nC (idN code)).commit == 2)) rfl rfl rfl) ?_
         refine RW.v rfl (V.mv (d := Bo ((nC (idN code)).commit == 2)) rfl rfl) ?_
         refine RW.gv rfl rfl rfl rfl (fun h38 => V.mv (d := .al 19 none 12 (([sendN (nC (idN code)) ⟨oth (idN code), 3, 0, 0⟩]).length) (g28 1 0) 0) rfl rfl) (fun h38 => ?_) (fun h38 => ?_)
         ·skip
          refine RW.gt rfl rfl rfl rfl (V.lenT (n := ([sendN (nC (idN code)) ⟨oth (idN code), 3, 0, 0⟩]).length) rfl rfl rfl (.al rfl rfl nofun)) ?_
          refine RW.gt rfl rfl rfl rfl (V.cmpInt rfl rfl rfl rfl) ?_
          refine RW.v rfl (V.pickT (d := Bo ((([sendN (nC (idN code)) ⟨oth (idN code), 3, 0, 0⟩]).length : Int) == 1)) rfl rfl rfl) ?_
          refine RW.v rfl (V.mv (d := Bo ((([sendN (nC (idN code)) ⟨oth (idN code), 3, 0, 0⟩]).length : Int) == 1)) rfl rfl) ?_
          refine RW.gv rfl rfl rfl rfl (fun h39 => V.loadAgg rfl rfl rfl rfl rfl (Nat.le_of_ble_eq_true rfl)) (fun h39 => ?_) (fun h39 => ?_)
          ·skip
           refine RW.gcallOwn rfl rfl rfl rfl (confC code) rfl (.cons (.agg (.cons (.r .r) (.cons (.r .r) (.cons (.r .r) (.cons (.r .r) (.cons (.r .r) (.cons (.r (.alo (k := none) (i := 18) (j := 5) (sz := 1) (V := (g28 0 5)) rfl rfl rfl nofun)) (.cons (.r .r) (.cons (.r .r) (.cons (.r (.alo (k := none) (i := 18) (j := 8) (sz := 3) (V := (g28 0 8)) rfl rfl rfl nofun)) (.cons (.r .r) (.cons (.r .r) (.cons (.r .r) (.cons (.r (.alo (k := none) (i := 18) (j := 12) (sz := 1) (V := (g28 0 12)) rfl rfl rfl nofun)) (.cons (.r (.alo (k := none) (i := 18) (j := 13) (sz := 4) (V := (g28 0 13)) rfl rfl rfl nofun)) (.nil)))))))))))))))) (.nil)) rfl fun g40 => ?_
           refine RW.gt rfl rfl rfl rfl (V.mv (d := .al 15 none 1 ((two (idN code)).length) X 0) rfl rfl) ?_
           refine RW.gcallOwn rfl rfl rfl rfl (laws_sameInts_fn (two (idN code)) (two (idN code))) rfl (.cons (.one (.r (.al (k := none) (i := 158) (sz := 1) (V := (g40 0 0)) rfl rfl nofun))) (.cons (.one (.r (.al (k := none) (i := 15) (sz := 1) (V := X) rfl rfl nofun))) (.nil))) rfl fun g41 => ?_
           refine RW.v rfl (V.pickT (d := Bo (eqS eqI (two (idN code)) (two (idN code)))) rfl rfl rfl) ?_
           refine RW.v rfl (V.mv (d := Bo (eqS eqI (two (idN code)) (two (idN code)))) rfl rfl) ?_
           refine RW.gv rfl rfl rfl rfl (fun h42 => V.loadAgg rfl rfl rfl rfl rfl (Nat.le_of_ble_eq_true rfl)) (fun h42 => ?_) (fun h42 => ?_)
           ·skip
            refine RW.gcallOwn rfl rfl rfl rfl (atC code) rfl (.cons (.agg (.cons (.r .r) (.cons (.r .r) (.cons (.r .r) (.cons (.r .r) (.cons (.r .r) (.cons (.r (.alo (k := none) (i := 18) (j := 5) (sz := 1) (V := (g28 0 5)) rfl rfl rfl nofun)) (.cons (.r .r) (.cons (.r .r) (.cons (.r (.alo (k := none) (i := 18) (j := 8) (sz := 3) (V := (g28 0 8)) rfl rfl rfl nofun)) (.cons (.r .r) (.cons (.r .r) (.cons (.r .r) (.cons (.r (.alo (k := none) (i := 18) (j := 12) (sz := 1) (V := (g28 0 12)) rfl rfl rfl nofun)) (.cons (.r (.alo (k := none) (i := 18) (j := 13) (sz := 4) (V := (g28 0 13)) rfl rfl rfl nofun)) (.nil)))))))))))))))) (.cons (.one (.r .r)) (.nil))) rfl fun g43 => ?_
            refine RW.gt rfl rfl rfl rfl (V.mv (d := I (IntKind.i64.wrap (1 + (Int.tmod ((drawPlaces code).getD 0 0) 4)))) rfl rfl) ?_
            refine RW.gbuild1c (c := cI) (v := (IntKind.i64.wrap (1 + (Int.tmod ((drawPlaces code).getD 0 0) 4)))) (u := .v (.int .i64 (IntKind.i64.wrap (1 + (Int.tmod ((drawPlaces code).getD 0 0) 4))))) rfl rfl rfl rfl rfl rfl rfl rfl rfl (.inl rfl) rfl rfl fun X44 => ?_
            refine RW.gcallOwn rfl rfl rfl rfl (laws_sameInts_fn ([idN code]) ([(IntKind.i64.wrap (1 + (Int.tmod ((drawPlaces code).getD 0 0) 4)))])) rfl (.cons (.one (.r (.al (k := none) (i := 164) (sz := 1) (V := (g43 0 0)) rfl rfl nofun))) (.cons (.one (.r (.al (k := none) (i := 166) (sz := 1) (V := X44) rfl rfl nofun))) (.nil))) rfl fun g45 => ?_
            refine RW.v rfl (V.pickT (d := Bo (eqS eqI ([idN code]) ([(IntKind.i64.wrap (1 + (Int.tmod ((drawPlaces code).getD 0 0) 4)))]))) rfl rfl rfl) ?_
            refine RW.v rfl (V.mv (d := Bo (eqS eqI ([idN code]) ([(IntKind.i64.wrap (1 + (Int.tmod ((drawPlaces code).getD 0 0) 4)))]))) rfl rfl) ?_
            refine RW.gv rfl rfl rfl rfl (fun h46 => V.mv (d := Bo true) rfl rfl) (fun h46 => ?_) (fun h46 => ?_)
            ·skip
             refine RW.v rfl (V.pickT (d := Bo true) rfl rfl rfl) ?_
             refine RW.v rfl (V.mv (d := Bo true) rfl rfl) ?_
             refine RW.gt rfl rfl rfl rfl (V.loadAgg rfl rfl rfl rfl rfl (Nat.le_of_ble_eq_true rfl)) ?_
             refine RW.gcallOwn rfl rfl rfl rfl (okS code) rfl (.cons (.agg (.cons (.r .r) (.cons (.r .r) (.cons (.r .r) (.cons (.r .r) (.cons (.r .r) (.cons (.r (.alo (k := none) (i := 28) (j := 5) (sz := 1) (V := (g34 0 5)) rfl rfl rfl nofun)) (.cons (.r .r) (.cons (.r .r) (.cons (.r (.alo (k := none) (i := 28) (j := 8) (sz := 3) (V := (g34 0 8)) rfl rfl rfl nofun)) (.cons (.r .r) (.cons (.r .r) (.cons (.r .r) (.cons (.r (.alo (k := none) (i := 28) (j := 12) (sz := 1) (V := (g34 0 12)) rfl rfl rfl nofun)) (.cons (.r (.alo (k := none) (i := 28) (j := 13) (sz := 4) (V := (g34 0 13)) rfl rfl rfl nofun)) (.nil)))))))))))))))) (.nil)) rfl fun g47 => ?_
             refine RW.v rfl (V.pickT (d := Bo true) rfl rfl rfl) ?_
             refine RW.v rfl (V.mv (d := Bo true) rfl rfl) ?_
             refine RW.gt rfl rfl rfl rfl (V.field rfl rfl rfl rfl (by decide) rfl) ?_
             refine RW.gt rfl rfl rfl rfl (V.field rfl rfl rfl rfl (by decide) rfl) ?_
             refine RW.gt rfl rfl rfl rfl (V.loadPrim (d := I (((nS (idN code)).log).start)) rfl rfl (.inl rfl) rfl rfl rfl) ?_
             refine RW.gt rfl rfl rfl rfl (V.cmpInt rfl rfl rfl rfl) ?_
             refine RW.v rfl (V.pickT (d := Bo (((nS (idN code)).log).start == 1)) rfl rfl rfl) ?_
             refine RW.v rfl (V.as (d := Bo (((nS (idN code)).log).start == 1)) rfl rfl) ?_
             refine RW.nil ?_
             exact ⟨_, by first | rfl | (simp_all; done) | (simp_all; omega) | grind, rfl, Le.c rfl <| Le.e⟩
            ·skip
             refine RW.v rfl (V.pickF (d := Bo false) rfl rfl rfl) ?_
             refine RW.v rfl (V.mv (d := Bo false) rfl rfl) ?_
             refine RW.guardF rfl rfl rfl rfl ?_
             refine RW.guardF rfl rfl rfl rfl ?_
             refine RW.v rfl (V.pickF (d := Bo false) rfl rfl rfl) ?_
             refine RW.v rfl (V.mv (d := Bo false) rfl rfl) ?_
             refine RW.guardF rfl rfl rfl rfl ?_
             refine RW.guardF rfl rfl rfl rfl ?_
             refine RW.guardF rfl rfl rfl rfl ?_
             refine RW.guardF rfl rfl rfl rfl ?_
             refine RW.v rfl (V.pickF (d := Bo false) rfl rfl rfl) ?_
             refine RW.v rfl (V.as (d := Bo false) rfl rfl) ?_
             refine RW.nil ?_
             exact ⟨_, by first | rfl | (simp_all; done) | (simp_all; omega) | grind, rfl, Le.c rfl <| Le.e⟩
           ·skip
            refine RW.guardF rfl rfl rfl rfl ?_
            refine RW.guardF rfl rfl rfl rfl ?_
            refine RW.guardF rfl rfl rfl rfl ?_
            refine RW.guardF rfl rfl rfl rfl ?_
            refine RW.v rfl (V.pickF (d := Bo false) rfl rfl rfl) ?_
            refine RW.v rfl (V.mv (d := Bo false) rfl rfl) ?_
            refine RW.guardF rfl rfl rfl rfl ?_
            refine RW.v rfl (V.pickF (d := Bo false) rfl rfl rfl) ?_
            refine RW.v rfl (V.mv (d := Bo false) rfl rfl) ?_
            refine RW.guardF rfl rfl rfl rfl ?_
            refine RW.guardF rfl rfl rfl rfl ?_
            refine RW.v rfl (V.pickF (d := Bo false) rfl rfl rfl) ?_
            refine RW.v rfl (V.mv (d := Bo false) rfl rfl) ?_
            refine RW.guardF rfl rfl rfl rfl ?_
            refine RW.guardF rfl rfl rfl rfl ?_
            refine RW.guardF rfl rfl rfl rfl ?_
            refine RW.guardF rfl rfl rfl rfl ?_
            refine RW.v rfl (V.pickF (d := Bo false) rfl rfl rfl) ?_
            refine RW.v rfl (V.as (d := Bo false) rfl rfl) ?_
            refine RW.nil ?_
            exact ⟨_, by first | rfl | (simp_all; done) | (simp_all; omega) | grind, rfl, Le.c rfl <| Le.e⟩
          ·skip
           refine RW.guardF rfl rfl rfl rfl ?_
           refine RW.guardF rfl rfl rfl rfl ?_
           refine RW.guardF rfl rfl rfl rfl ?_
           refine RW.v rfl (V.pickF (d := Bo false) rfl rfl rfl) ?_
           refine RW.v rfl (V.mv (d := Bo false) rfl rfl) ?_
           refine RW.guardF rfl rfl rfl rfl ?_
           refine RW.guardF rfl rfl rfl rfl ?_
           refine RW.guardF rfl rfl rfl rfl ?_
           refine RW.guardF rfl rfl rfl rfl ?_
           refine RW.guardF rfl rfl rfl rfl ?_
           refine RW.v rfl (V.pickF (d := Bo false) rfl rfl rfl) ?_
           refine RW.v rfl (V.mv (d := Bo false) rfl rfl) ?_
           refine RW.guardF rfl rfl rfl rfl ?_
           refine RW.v rfl (V.pickF (d := Bo false) rfl rfl rfl) ?_
           refine RW.v rfl (V.mv (d := Bo false) rfl rfl) ?_
           refine RW.guardF rfl rfl rfl rfl ?_
           refine RW.guardF rfl rfl rfl rfl ?_
           refine RW.v rfl (V.pickF (d := Bo false) rfl rfl rfl) ?_
           refine RW.v rfl (V.mv (d := Bo false) rfl rfl) ?_
           refine RW.guardF rfl rfl rfl rfl ?_
           refine RW.guardF rfl rfl rfl rfl ?_
           refine RW.guardF rfl rfl rfl rfl ?_
           refine RW.guardF rfl rfl rfl rfl ?_
           refine RW.v rfl (V.pickF (d := Bo false) rfl rfl rfl) ?_
           refine RW.v rfl (V.as (d := Bo false) rfl rfl) ?_
           refine RW.nil ?_
           exact ⟨_, by first | rfl | (simp_all; done) | (simp_all; omega) | grind, rfl, Le.c rfl <| Le.e⟩
         ·skip
          refine RW.guardF rfl rfl rfl rfl ?_
          refine RW.guardF rfl rfl rfl rfl ?_
          refine RW.v rfl (V.pickF (d := Bo false) rfl rfl rfl) ?_
          refine RW.v rfl (V.mv (d := Bo false) rfl rfl) ?_
          refine RW.guardF rfl rfl rfl rfl ?_
          refine RW.guardF rfl rfl rfl rfl ?_
          refine RW.guardF rfl rfl rfl rfl ?_
          refine RW.guardF rfl rfl rfl rfl ?_
          refine RW.v rfl (V.pickF (d := Bo false) rfl rfl rfl) ?_
          refine RW.v rfl (V.mv (d := Bo false) rfl rfl) ?_
          refine RW.guardF rfl rfl rfl rfl ?_
          refine RW.guardF rfl rfl rfl rfl ?_
          refine RW.guardF rfl rfl rfl rfl ?_
          refine RW.guardF rfl rfl rfl rfl ?_
          refine RW.guardF rfl rfl rfl rfl ?_
          refine RW.v rfl (V.pickF (d := Bo false) rfl rfl rfl) ?_
          refine RW.v rfl (V.mv (d := Bo false) rfl rfl) ?_
          refine RW.guardF rfl rfl rfl rfl ?_
          refine RW.v rfl (V.pickF (d := Bo false) rfl rfl rfl) ?_
          refine RW.v rfl (V.mv (d := Bo false) rfl rfl) ?_
          refine RW.guardF rfl rfl rfl rfl ?_
          refine RW.guardF rfl rfl rfl rfl ?_
          refine RW.v rfl (V.pickF (d := Bo false) rfl rfl rfl) ?_
          refine RW.v rfl (V.mv (d := Bo false) rfl rfl) ?_
          refine RW.guardF rfl rfl rfl rfl ?_
          refine RW.guardF rfl rfl rfl rfl ?_
          refine RW.guardF rfl rfl rfl rfl ?_
          refine RW.guardF rfl rfl rfl rfl ?_
          refine RW.v rfl (V.pickF (d := Bo false) rfl rfl rfl) ?_
          refine RW.v rfl (V.as (d := Bo false) rfl rfl) ?_
          refine RW.nil ?_
          exact ⟨_, by first | rfl | (simp_all; done) | (simp_all; omega) | grind, rfl, Le.c rfl <| Le.e⟩
        ·skip
         refine RW.guardF rfl rfl rfl rfl ?_
         refine RW.guardF rfl rfl rfl rfl ?_
         refine RW.v rfl (V.pickF (d := Bo false) rfl rfl rfl) ?_
         refine RW.v rfl (V.mv (d := Bo false) rfl rfl) ?_
         refine RW.guardF rfl rfl rfl rfl ?_
         refine RW.guardF rfl rfl rfl rfl ?_
         refine RW.guardF rfl rfl rfl rfl ?_
         refine RW.v rfl (V.pickF (d := Bo false) rfl rfl rfl) ?_
         refine RW.v rfl (V.mv (d := Bo false) rfl rfl) ?_
         refine RW.guardF rfl rfl rfl rfl ?_
         refine RW.guardF rfl rfl rfl rfl ?_
         refine RW.guardF rfl rfl rfl rfl ?_
         refine RW.guardF rfl rfl rfl rfl ?_
         refine RW.v rfl (V.pickF (d := Bo false) rfl rfl rfl) ?_
         refine RW.v rfl (V.mv (d := Bo false) rfl rfl) ?_
         refine RW.guardF rfl rfl rfl rfl ?_
         refine RW.guardF rfl rfl rfl rfl ?_
         refine RW.guardF rfl rfl rfl rfl ?_
         refine RW.guardF rfl rfl rfl rfl ?_
         refine RW.guardF rfl rfl rfl rfl ?_
         refine RW.v rfl (V.pickF (d := Bo false) rfl rfl rfl) ?_
         refine RW.v rfl (V.mv (d := Bo false) rfl rfl) ?_
         refine RW.guardF rfl rfl rfl rfl ?_
         refine RW.v rfl (V.pickF (d := Bo false) rfl rfl rfl) ?_
         refine RW.v rfl (V.mv (d := Bo false) rfl rfl) ?_
         refine RW.guardF rfl rfl rfl rfl ?_
         refine RW.guardF rfl rfl rfl rfl ?_
         refine RW.v rfl (V.pickF (d := Bo false) rfl rfl rfl) ?_
         refine RW.v rfl (V.mv (d := Bo false) rfl rfl) ?_
         refine RW.guardF rfl rfl rfl rfl ?_
         refine RW.guardF rfl rfl rfl rfl ?_
         refine RW.guardF rfl rfl rfl rfl ?_
         refine RW.guardF rfl rfl rfl rfl ?_
         refine RW.v rfl (V.pickF (d := Bo false) rfl rfl rfl) ?_
         refine RW.v rfl (V.as (d := Bo false) rfl rfl) ?_
         refine RW.nil ?_
         exact ⟨_, by first | rfl | (simp_all; done) | (simp_all; omega) | grind, rfl, Le.c rfl <| Le.e⟩
       ·intro v36 hv48
        refine CW.ret ?_
        exact Post.one (RV.b rfl (by first | rfl | (exfalso; simp_all [nA, nB]; done) | (rw [show eqS eqI [idN code] [(IntKind.i64.wrap (1 + (Int.tmod ((drawPlaces code).getD 0 0) 4)))] = true from eqS_refl eqI_refl [idN code]] at hv48; simp_all [nC, nS, eqS_refl eqI_refl]; done))) (AOs.r AOs.e)
end Go.Proofs.Ytbiocicogminlaa.Y
