import Derived.Test.YtbiocicogminlaaWNodeNewA
namespace Go.Proofs.Ytbiocicogminlaa.Y
open Go Go.RowKit Go.Eng Go.Proofs
set_option maxHeartbeats 4000000 in
theorem spec_NodeOk_fn (n : Node) (hok : okToNode n) : Eng.Fn E.P 20 [.agg ((Node.c n).map .r)] (.one (.one (.w (.v (.bool (nodeOk n)))))) [.agg ((Node.c n).map .r)] := by
  refine Eng.Fn.intro (E := E) (rvs := [.tmp 2]) Try.func20 rfl rfl rfl (by simp [outSlots, moved, rvSlot, sl]) ?_
  intro B g bo
  refine CW.le [(0, .agg ((Node.c n).map .r))] rfl (Le.c rfl <| Le.e) ?_
  refine CW.seq ?_
  refine CW.region ?_
  refine RW.box (ds := ((Node.c n).map .r)) rfl rfl rfl fun b1 => ?_
  refine RW.v rfl (V.as (d := Bo false) rfl rfl) ?_
  refine RW.nil ?_
  refine CW.le [(1, .obj b1 ((Node.c n).map .r))] rfl (Le.c rfl <| Le.e) ?_
  refine CW.seq ?_
  refine CW.seqJ 153 (fun (v2 : Bool) => [(1, .obj b1 ((Node.c n).map .r)), (47, Bo v2)]) (fun v2 => v2 = (((((((!(inR n.id 1 4)) || (!(confOk n.conf))) || (!(logOk n.log))) || (!(inR n.term_ 0 100000))) || (!(inR n.vote 0 4))) || (!(inR n.lead 0 4))) || (!(inR n.role 0 2)))) ?_ ?_
  · refine CW.region ?_
    refine RW.v rfl (V.field rfl rfl rfl rfl (by decide) rfl) ?_
    refine RW.v rfl (V.loadPrim (d := I n.id) rfl rfl (.inl rfl) rfl rfl rfl) ?_
    refine RW.call rfl (spec_l01In_fn n.id 1 4) rfl (.cons (.one (.r .r)) (.cons (.one (.r .r)) (.cons (.one (.r .r)) (.nil)))) fun g3 => ?_
    refine RW.v rfl (V.not rfl rfl) ?_
    refine RW.v rfl (V.mv (d := Bo (!(inR n.id 1 4))) rfl rfl) ?_
    refine RW.gv rfl rfl rfl rfl (fun h4 => V.field rfl rfl rfl rfl (by decide) rfl) (fun h4 => ?_) (fun h4 => ?_)
    · skip
      refine RW.gt rfl rfl rfl rfl (V.loadPrim (d := .r (sl 1 cI n.conf)) rfl rfl (.inr ⟨_, rfl⟩) rfl rfl rfl) ?_
      refine RW.gcall rfl rfl rfl rfl (spec_ConfOk_fn n.conf) rfl (.cons (.one (.r .r)) (.nil)) fun g5 => ?_
      refine RW.gt rfl rfl rfl rfl (V.not rfl rfl) ?_
      refine RW.v rfl (V.pickF (d := Bo (!(confOk n.conf))) rfl rfl rfl) ?_
      refine RW.v rfl (V.mv (d := Bo (!(confOk n.conf))) rfl rfl) ?_
      refine RW.gv rfl rfl rfl rfl (fun h6 => V.field rfl rfl rfl rfl (by decide) rfl) (fun h6 => ?_) (fun h6 => ?_)
      · skip
        refine RW.gt rfl rfl rfl rfl (V.loadAgg rfl rfl rfl rfl rfl (Nat.le_of_ble_eq_true rfl)) ?_
        refine RW.gcall rfl rfl rfl rfl (spec_LogOk_fn n.log (hok.2.1)) rfl (.cons (.agg (.cons (.r .r) (.cons (.r .r) (.cons (.r .r) (.nil))))) (.nil)) fun g7 => ?_
        refine RW.gt rfl rfl rfl rfl (V.not rfl rfl) ?_
        refine RW.v rfl (V.pickF (d := Bo (!(logOk n.log))) rfl rfl rfl) ?_
        refine RW.v rfl (V.mv (d := Bo (!(logOk n.log))) rfl rfl) ?_
        refine RW.gv rfl rfl rfl rfl (fun h8 => V.field rfl rfl rfl rfl (by decide) rfl) (fun h8 => ?_) (fun h8 => ?_)
        · skip
          refine RW.gt rfl rfl rfl rfl (V.loadPrim (d := I n.term_) rfl rfl (.inl rfl) rfl rfl rfl) ?_
          refine RW.gcall rfl rfl rfl rfl (spec_l01In_fn n.term_ 0 100000) rfl (.cons (.one (.r .r)) (.cons (.one (.r .r)) (.cons (.one (.r .r)) (.nil)))) fun g9 => ?_
          refine RW.gt rfl rfl rfl rfl (V.not rfl rfl) ?_
          refine RW.v rfl (V.pickF (d := Bo (!(inR n.term_ 0 100000))) rfl rfl rfl) ?_
          refine RW.v rfl (V.mv (d := Bo (!(inR n.term_ 0 100000))) rfl rfl) ?_
          refine RW.gv rfl rfl rfl rfl (fun h10 => V.field rfl rfl rfl rfl (by decide) rfl) (fun h10 => ?_) (fun h10 => ?_)
          · skip
            refine RW.gt rfl rfl rfl rfl (V.loadPrim (d := I n.vote) rfl rfl (.inl rfl) rfl rfl rfl) ?_
            refine RW.gcall rfl rfl rfl rfl (spec_l01In_fn n.vote 0 4) rfl (.cons (.one (.r .r)) (.cons (.one (.r .r)) (.cons (.one (.r .r)) (.nil)))) fun g11 => ?_
            refine RW.gt rfl rfl rfl rfl (V.not rfl rfl) ?_
            refine RW.v rfl (V.pickF (d := Bo (!(inR n.vote 0 4))) rfl rfl rfl) ?_
            refine RW.v rfl (V.mv (d := Bo (!(inR n.vote 0 4))) rfl rfl) ?_
            refine RW.gv rfl rfl rfl rfl (fun h12 => V.field rfl rfl rfl rfl (by decide) rfl) (fun h12 => ?_) (fun h12 => ?_)
            · skip
              refine RW.gt rfl rfl rfl rfl (V.loadPrim (d := I n.lead) rfl rfl (.inl rfl) rfl rfl rfl) ?_
              refine RW.gcall rfl rfl rfl rfl (spec_l01In_fn n.lead 0 4) rfl (.cons (.one (.r .r)) (.cons (.one (.r .r)) (.cons (.one (.r .r)) (.nil)))) fun g13 => ?_
              refine RW.gt rfl rfl rfl rfl (V.not rfl rfl) ?_
              refine RW.v rfl (V.pickF (d := Bo (!(inR n.lead 0 4))) rfl rfl rfl) ?_
              refine RW.v rfl (V.mv (d := Bo (!(inR n.lead 0 4))) rfl rfl) ?_
              refine RW.gv rfl rfl rfl rfl (fun h14 => V.field rfl rfl rfl rfl (by decide) rfl) (fun h14 => ?_) (fun h14 => ?_)
              · skip
                refine RW.gt rfl rfl rfl rfl (V.loadPrim (d := I n.role) rfl rfl (.inl rfl) rfl rfl rfl) ?_
                refine RW.gcall rfl rfl rfl rfl (spec_l01In_fn n.role 0 2) rfl (.cons (.one (.r .r)) (.cons (.one (.r .r)) (.cons (.one (.r .r)) (.nil)))) fun g15 => ?_
                refine RW.gt rfl rfl rfl rfl (V.not rfl rfl) ?_
                refine RW.v rfl (V.pickF (d := Bo (!(inR n.role 0 2))) rfl rfl rfl) ?_
                refine RW.nil ?_
                exact ⟨_, by first | rfl | (simp_all; done) | (simp_all; omega) | grind, rfl, Le.c rfl <| Le.c rfl <| Le.e⟩
              · skip
                refine RW.guardF rfl rfl rfl rfl ?_
                refine RW.guardF rfl rfl rfl rfl ?_
                refine RW.guardF rfl rfl rfl rfl ?_
                refine RW.v rfl (V.pickT (d := Bo true) rfl rfl rfl) ?_
                refine RW.nil ?_
                exact ⟨_, by first | rfl | (simp_all; done) | (simp_all; omega) | grind, rfl, Le.c rfl <| Le.c rfl <| Le.e⟩
            · skip
              refine RW.guardF rfl rfl rfl rfl ?_
              refine RW.guardF rfl rfl rfl rfl ?_
              refine RW.guardF rfl rfl rfl rfl ?_
              refine RW.v rfl (V.pickT (d := Bo true) rfl rfl rfl) ?_
              refine RW.v rfl (V.mv (d := Bo true) rfl rfl) ?_
              refine RW.guardF rfl rfl rfl rfl ?_
              refine RW.guardF rfl rfl rfl rfl ?_
              refine RW.guardF rfl rfl rfl rfl ?_
              refine RW.guardF rfl rfl rfl rfl ?_
              refine RW.v rfl (V.pickT (d := Bo true) rfl rfl rfl) ?_
              refine RW.nil ?_
              exact ⟨_, by first | rfl | (simp_all; done) | (simp_all; omega) | grind, rfl, Le.c rfl <| Le.c rfl <| Le.e⟩
          · skip
            refine RW.guardF rfl rfl rfl rfl ?_
            refine RW.guardF rfl rfl rfl rfl ?_
            refine RW.guardF rfl rfl rfl rfl ?_
            refine RW.v rfl (V.pickT (d := Bo true) rfl rfl rfl) ?_
            refine RW.v rfl (V.mv (d := Bo true) rfl rfl) ?_
            refine RW.guardF rfl rfl rfl rfl ?_
            refine RW.guardF rfl rfl rfl rfl ?_
            refine RW.guardF rfl rfl rfl rfl ?_
            refine RW.guardF rfl rfl rfl rfl ?_
            refine RW.v rfl (V.pickT (d := Bo true) rfl rfl rfl) ?_
            refine RW.v rfl (V.mv (d := Bo true) rfl rfl) ?_
            refine RW.guardF rfl rfl rfl rfl ?_
            refine RW.guardF rfl rfl rfl rfl ?_
            refine RW.guardF rfl rfl rfl rfl ?_
            refine RW.guardF rfl rfl rfl rfl ?_
            refine RW.v rfl (V.pickT (d := Bo true) rfl rfl rfl) ?_
            refine RW.nil ?_
            exact ⟨_, by first | rfl | (simp_all; done) | (simp_all; omega) | grind, rfl, Le.c rfl <| Le.c rfl <| Le.e⟩
        · skip
          refine RW.guardF rfl rfl rfl rfl ?_
          refine RW.guardF rfl rfl rfl rfl ?_
          refine RW.guardF rfl rfl rfl rfl ?_
          refine RW.v rfl (V.pickT (d := Bo true) rfl rfl rfl) ?_
          refine RW.v rfl (V.mv (d := Bo true) rfl rfl) ?_
          refine RW.guardF rfl rfl rfl rfl ?_
          refine RW.guardF rfl rfl rfl rfl ?_
          refine RW.guardF rfl rfl rfl rfl ?_
          refine RW.guardF rfl rfl rfl rfl ?_
          refine RW.v rfl (V.pickT (d := Bo true) rfl rfl rfl) ?_
          refine RW.v rfl (V.mv (d := Bo true) rfl rfl) ?_
          refine RW.guardF rfl rfl rfl rfl ?_
          refine RW.guardF rfl rfl rfl rfl ?_
          refine RW.guardF rfl rfl rfl rfl ?_
          refine RW.guardF rfl rfl rfl rfl ?_
          refine RW.v rfl (V.pickT (d := Bo true) rfl rfl rfl) ?_
          refine RW.v rfl (V.mv (d := Bo true) rfl rfl) ?_
          refine RW.guardF rfl rfl rfl rfl ?_
          refine RW.guardF rfl rfl rfl rfl ?_
          refine RW.guardF rfl rfl rfl rfl ?_
          refine RW.guardF rfl rfl rfl rfl ?_
          refine RW.v rfl (V.pickT (d := Bo true) rfl rfl rfl) ?_
          refine RW.nil ?_
          exact ⟨_, by first | rfl | (simp_all; done) | (simp_all; omega) | grind, rfl, Le.c rfl <| Le.c rfl <| Le.e⟩
      · skip
        refine RW.guardF rfl rfl rfl rfl ?_
        refine RW.guardF rfl rfl rfl rfl ?_
        refine RW.guardF rfl rfl rfl rfl ?_
        refine RW.v rfl (V.pickT (d := Bo true) rfl rfl rfl) ?_
        refine RW.v rfl (V.mv (d := Bo true) rfl rfl) ?_
        refine RW.guardF rfl rfl rfl rfl ?_
        refine RW.guardF rfl rfl rfl rfl ?_
        refine RW.guardF rfl rfl rfl rfl ?_
        refine RW.guardF rfl rfl rfl rfl ?_
        refine RW.v rfl (V.pickT (d := Bo true) rfl rfl rfl) ?_
        refine RW.v rfl (V.mv (d := Bo true) rfl rfl) ?_
        refine RW.guardF rfl rfl rfl rfl ?_
        refine RW.guardF rfl rfl rfl rfl ?_
        refine RW.guardF rfl rfl rfl rfl ?_
        refine RW.guardF rfl rfl rfl rfl ?_
        refine RW.v rfl (V.pickT (d := Bo true) rfl rfl rfl) ?_
        refine RW.v rfl (V.mv (d := Bo true) rfl rfl) ?_
        refine RW.guardF rfl rfl rfl rfl ?_
        refine RW.guardF rfl rfl rfl rfl ?_
        refine RW.guardF rfl rfl rfl rfl ?_
        refine RW.guardF rfl rfl rfl rfl ?_
        refine RW.v rfl (V.pickT (d := Bo true) rfl rfl rfl) ?_
        refine RW.v rfl (V.mv (d := Bo true) rfl rfl) ?_
        refine RW.guardF rfl rfl rfl rfl ?_
        refine RW.guardF rfl rfl rfl rfl ?_
        refine RW.guardF rfl rfl rfl rfl ?_
        refine RW.guardF rfl rfl rfl rfl ?_
        refine RW.v rfl (V.pickT (d := Bo true) rfl rfl rfl) ?_
        refine RW.nil ?_
        exact ⟨_, by first | rfl | (simp_all; done) | (simp_all; omega) | grind, rfl, Le.c rfl <| Le.c rfl <| Le.e⟩
    · skip
      refine RW.guardF rfl rfl rfl rfl ?_
      refine RW.guardF rfl rfl rfl rfl ?_
      refine RW.guardF rfl rfl rfl rfl ?_
      refine RW.v rfl (V.pickT (d := Bo true) rfl rfl rfl) ?_
      refine RW.v rfl (V.mv (d := Bo true) rfl rfl) ?_
      refine RW.guardF rfl rfl rfl rfl ?_
      refine RW.guardF rfl rfl rfl rfl ?_
      refine RW.guardF rfl rfl rfl rfl ?_
      refine RW.guardF rfl rfl rfl rfl ?_
      refine RW.v rfl (V.pickT (d := Bo true) rfl rfl rfl) ?_
      refine RW.v rfl (V.mv (d := Bo true) rfl rfl) ?_
      refine RW.guardF rfl rfl rfl rfl ?_
      refine RW.guardF rfl rfl rfl rfl ?_
      refine RW.guardF rfl rfl rfl rfl ?_
      refine RW.guardF rfl rfl rfl rfl ?_
      refine RW.v rfl (V.pickT (d := Bo true) rfl rfl rfl) ?_
      refine RW.v rfl (V.mv (d := Bo true) rfl rfl) ?_
      refine RW.guardF rfl rfl rfl rfl ?_
      refine RW.guardF rfl rfl rfl rfl ?_
      refine RW.guardF rfl rfl rfl rfl ?_
      refine RW.guardF rfl rfl rfl rfl ?_
      refine RW.v rfl (V.pickT (d := Bo true) rfl rfl rfl) ?_
      refine RW.v rfl (V.mv (d := Bo true) rfl rfl) ?_
      refine RW.guardF rfl rfl rfl rfl ?_
      refine RW.guardF rfl rfl rfl rfl ?_
      refine RW.guardF rfl rfl rfl rfl ?_
      refine RW.guardF rfl rfl rfl rfl ?_
      refine RW.v rfl (V.pickT (d := Bo true) rfl rfl rfl) ?_
      refine RW.v rfl (V.mv (d := Bo true) rfl rfl) ?_
      refine RW.guardF rfl rfl rfl rfl ?_
      refine RW.guardF rfl rfl rfl rfl ?_
      refine RW.guardF rfl rfl rfl rfl ?_
      refine RW.guardF rfl rfl rfl rfl ?_
      refine RW.v rfl (V.pickT (d := Bo true) rfl rfl rfl) ?_
      refine RW.nil ?_
      exact ⟨_, by first | rfl | (simp_all; done) | (simp_all; omega) | grind, rfl, Le.c rfl <| Le.c rfl <| Le.e⟩
  · intro v2 hv16
    refine CW.cond rfl (fun h17 => ?_) (fun h17 => ?_)
    · skip
      refine CW.seq ?_
      refine CW.region ?_
      refine RW.v rfl (V.as (d := Bo false) rfl rfl) ?_
      refine RW.nil ?_
      refine CW.le [(2, Bo false)] rfl (Le.c rfl <| Le.e) ?_
      refine CW.ret ?_
      exact Post.one (RV.b rfl (by by_cases hr2 : inR n.role 0 2 = true; (first | (simp_all [nodeOk]; done) | grind [nodeOk]); rw [nodeOk_role hr2])) (AOs.a rfl AOs.e)
    · skip
      refine CW.skip ?_
      refine CW.le [(1, .obj b1 ((Node.c n).map .r))] rfl (Le.c rfl <| Le.e) ?_
      refine CW.seq ?_
      refine CW.region ?_
      refine RW.v rfl (V.field rfl rfl rfl rfl (by decide) rfl) ?_
      refine RW.v rfl (V.loadAgg rfl rfl rfl rfl rfl (Nat.le_of_ble_eq_true rfl)) ?_
      refine RW.call rfl (spec_LogLast_fn n.log (hok.2.1)) rfl (.cons (.agg (.cons (.r .r) (.cons (.r .r) (.cons (.r .r) (.nil))))) (.nil)) fun g18 => ?_
      refine RW.moveMove rfl rfl rfl (by decide) (Nat.le_of_ble_eq_true rfl) (Nat.le_of_ble_eq_true rfl) ?_
      refine RW.extract (d := I ((logLast n.log).1)) rfl rfl rfl (by decide) (Nat.le_of_ble_eq_true rfl) rfl rfl ?_
      refine RW.extract (d := I ((logLast n.log).2)) rfl rfl rfl (by decide) (Nat.le_of_ble_eq_true rfl) rfl rfl ?_
      refine RW.v rfl (V.as (d := I ((logLast n.log).1)) rfl rfl) ?_
      refine RW.v rfl (V.as (d := I ((logLast n.log).2)) rfl rfl) ?_
      refine RW.nil ?_
      refine CW.le [(1, .obj b1 ((Node.c n).map .r)), (3, I ((logLast n.log).1)), (4, I ((logLast n.log).2))] rfl (Le.c rfl <| Le.c rfl <| Le.c rfl <| Le.e) ?_
      refine CW.seq ?_
      refine CW.seqJ 153 (fun (v19 : Bool) => [(1, .obj b1 ((Node.c n).map .r)), (3, I ((logLast n.log).1)), (96, Bo v19)]) (fun v19 => v19 = (((((decide (n.term_ < ((logLast n.log).2)) || (!(inR n.commit n.log.start ((logLast n.log).1)))) || (!(inR n.clock 0 20))) || (!(inR n.limit 1 20))) || (!(riseOk 1 4 none n.votes))) || (decide ((n.votes.length : Int) > 0) && (n.role != 1)))) ?_ ?_
      · refine CW.region ?_
        refine RW.v rfl (V.field rfl rfl rfl rfl (by decide) rfl) ?_
        refine RW.v rfl (V.loadPrim (d := I n.term_) rfl rfl (.inl rfl) rfl rfl rfl) ?_
        refine RW.v rfl (V.mv (d := I ((logLast n.log).2)) rfl rfl) ?_
        refine RW.v rfl (V.cmpInt rfl rfl rfl rfl) ?_
        refine RW.v rfl (V.mv (d := Bo (decide (n.term_ < ((logLast n.log).2)))) rfl rfl) ?_
        refine RW.gv rfl rfl rfl rfl (fun h20 => V.field rfl rfl rfl rfl (by decide) rfl) (fun h20 => ?_) (fun h20 => ?_)
        · skip
          refine RW.gt rfl rfl rfl rfl (V.loadPrim (d := I n.commit) rfl rfl (.inl rfl) rfl rfl rfl) ?_
          refine RW.gt rfl rfl rfl rfl (V.field rfl rfl rfl rfl (by decide) rfl) ?_
          refine RW.gt rfl rfl rfl rfl (V.field rfl rfl rfl rfl (by decide) rfl) ?_
          refine RW.gt rfl rfl rfl rfl (V.loadPrim (d := I n.log.start) rfl rfl (.inl rfl) rfl rfl rfl) ?_
          refine RW.gt rfl rfl rfl rfl (V.mv (d := I ((logLast n.log).1)) rfl rfl) ?_
          refine RW.gcall rfl rfl rfl rfl (spec_l01In_fn n.commit n.log.start ((logLast n.log).1)) rfl (.cons (.one (.r .r)) (.cons (.one (.r .r)) (.cons (.one (.r .r)) (.nil)))) fun g21 => ?_
          refine RW.gt rfl rfl rfl rfl (V.not rfl rfl) ?_
          refine RW.v rfl (V.pickF (d := Bo (!(inR n.commit n.log.start ((logLast n.log).1)))) rfl rfl rfl) ?_
          refine RW.v rfl (V.mv (d := Bo (!(inR n.commit n.log.start ((logLast n.log).1)))) rfl rfl) ?_
          refine RW.gv rfl rfl rfl rfl (fun h22 => V.field rfl rfl rfl rfl (by decide) rfl) (fun h22 => ?_) (fun h22 => ?_)
          · skip
            refine RW.gt rfl rfl rfl rfl (V.loadPrim (d := I n.clock) rfl rfl (.inl rfl) rfl rfl rfl) ?_
            refine RW.gcall rfl rfl rfl rfl (spec_l01In_fn n.clock 0 20) rfl (.cons (.one (.r .r)) (.cons (.one (.r .r)) (.cons (.one (.r .r)) (.nil)))) fun g23 => ?_
            refine RW.gt rfl rfl rfl rfl (V.not rfl rfl) ?_
            refine RW.v rfl (V.pickF (d := Bo (!(inR n.clock 0 20))) rfl rfl rfl) ?_
            refine RW.v rfl (V.mv (d := Bo (!(inR n.clock 0 20))) rfl rfl) ?_
            refine RW.gv rfl rfl rfl rfl (fun h24 => V.field rfl rfl rfl rfl (by decide) rfl) (fun h24 => ?_) (fun h24 => ?_)
            · skip
              refine RW.gt rfl rfl rfl rfl (V.loadPrim (d := I n.limit) rfl rfl (.inl rfl) rfl rfl rfl) ?_
              refine RW.gcall rfl rfl rfl rfl (spec_l01In_fn n.limit 1 20) rfl (.cons (.one (.r .r)) (.cons (.one (.r .r)) (.cons (.one (.r .r)) (.nil)))) fun g25 => ?_
              refine RW.gt rfl rfl rfl rfl (V.not rfl rfl) ?_
              refine RW.v rfl (V.pickF (d := Bo (!(inR n.limit 1 20))) rfl rfl rfl) ?_
              refine RW.v rfl (V.mv (d := Bo (!(inR n.limit 1 20))) rfl rfl) ?_
              refine RW.gv rfl rfl rfl rfl (fun h26 => V.field rfl rfl rfl rfl (by decide) rfl) (fun h26 => ?_) (fun h26 => ?_)
              · skip
                refine RW.gt rfl rfl rfl rfl (V.loadPrim (d := .r (sl 1 cI n.votes)) rfl rfl (.inr ⟨_, rfl⟩) rfl rfl rfl) ?_
                refine RW.gcall rfl rfl rfl rfl (spec_l05Rise_fn n.votes 1 4) rfl (.cons (.one (.r .r)) (.cons (.one (.r .r)) (.cons (.one (.r .r)) (.nil)))) fun g27 => ?_
                refine RW.gt rfl rfl rfl rfl (V.not rfl rfl) ?_
                refine RW.v rfl (V.pickF (d := Bo (!(riseOk 1 4 none n.votes))) rfl rfl rfl) ?_
                refine RW.v rfl (V.mv (d := Bo (!(riseOk 1 4 none n.votes))) rfl rfl) ?_
                refine RW.gv rfl rfl rfl rfl (fun h28 => V.field rfl rfl rfl rfl (by decide) rfl) (fun h28 => ?_) (fun h28 => ?_)
                · skip
                  refine RW.gt rfl rfl rfl rfl (V.loadPrim (d := .r (sl 1 cI n.votes)) rfl rfl (.inr ⟨_, rfl⟩) rfl rfl rfl) ?_
                  refine RW.gt rfl rfl rfl rfl (V.lenT (n := n.votes.length) rfl rfl rfl .r) ?_
                  refine RW.gt rfl rfl rfl rfl (V.cmpInt rfl rfl rfl rfl) ?_
                  refine RW.gt rfl rfl rfl rfl (V.mv (d := Bo (decide ((n.votes.length : Int) > 0))) rfl rfl) ?_
                  refine RW.gv rfl rfl rfl rfl (fun h29 => V.field rfl rfl rfl rfl (by decide) rfl) (fun h29 => ?_) (fun h29 => ?_)
                  · skip
                    refine RW.gt rfl rfl rfl rfl (V.loadPrim (d := I n.role) rfl rfl (.inl rfl) rfl rfl rfl) ?_
                    refine RW.gt rfl rfl rfl rfl (V.cmpInt rfl rfl rfl rfl) ?_
                    refine RW.gt rfl rfl rfl rfl (V.pickT (d := Bo (n.role != 1)) rfl rfl rfl) ?_
                    refine RW.v rfl (V.pickF (d := Bo (n.role != 1)) rfl rfl rfl) ?_
                    refine RW.nil ?_
                    exact ⟨_, by first | rfl | (simp_all; done) | (simp_all; omega) | grind, rfl, Le.c rfl <| Le.c rfl <| Le.c rfl <| Le.e⟩
                  · skip
                    refine RW.guardF rfl rfl rfl rfl ?_
                    refine RW.guardF rfl rfl rfl rfl ?_
                    refine RW.gt rfl rfl rfl rfl (V.pickF (d := Bo false) rfl rfl rfl) ?_
                    refine RW.v rfl (V.pickF (d := Bo false) rfl rfl rfl) ?_
                    refine RW.nil ?_
                    exact ⟨_, by first | rfl | (simp_all; done) | (simp_all; omega) | grind, rfl, Le.c rfl <| Le.c rfl <| Le.c rfl <| Le.e⟩
                · skip
                  refine RW.guardF rfl rfl rfl rfl ?_
                  refine RW.guardF rfl rfl rfl rfl ?_
                  refine RW.guardF rfl rfl rfl rfl ?_
                  refine RW.guardF rfl rfl rfl rfl ?_
                  refine RW.guardU rfl rfl rfl rfl ?_
                  refine RW.guardU rfl rfl rfl rfl ?_
                  refine RW.guardU rfl rfl rfl rfl ?_
                  refine RW.guardF rfl rfl rfl rfl ?_
                  refine RW.v rfl (V.pickT (d := Bo true) rfl rfl rfl) ?_
                  refine RW.nil ?_
                  exact ⟨_, by first | rfl | (simp_all; done) | (simp_all; omega) | grind, rfl, Le.c rfl <| Le.c rfl <| Le.c rfl <| Le.e⟩
              · skip
                refine RW.guardF rfl rfl rfl rfl ?_
                refine RW.guardF rfl rfl rfl rfl ?_
                refine RW.guardF rfl rfl rfl rfl ?_
                refine RW.v rfl (V.pickT (d := Bo true) rfl rfl rfl) ?_
                refine RW.v rfl (V.mv (d := Bo true) rfl rfl) ?_
                refine RW.guardF rfl rfl rfl rfl ?_
                refine RW.guardF rfl rfl rfl rfl ?_
                refine RW.guardF rfl rfl rfl rfl ?_
                refine RW.guardF rfl rfl rfl rfl ?_
                refine RW.guardF rfl rfl rfl rfl ?_
                refine RW.guardU rfl rfl rfl rfl ?_
                refine RW.guardU rfl rfl rfl rfl ?_
                refine RW.guardU rfl rfl rfl rfl ?_
                refine RW.guardF rfl rfl rfl rfl ?_
                refine RW.v rfl (V.pickT (d := Bo true) rfl rfl rfl) ?_
                refine RW.nil ?_
                exact ⟨_, by first | rfl | (simp_all; done) | (simp_all; omega) | grind, rfl, Le.c rfl <| Le.c rfl <| Le.c rfl <| Le.e⟩
            · skip
              refine RW.guardF rfl rfl rfl rfl ?_
              refine RW.guardF rfl rfl rfl rfl ?_
              refine RW.guardF rfl rfl rfl rfl ?_
              refine RW.v rfl (V.pickT (d := Bo true) rfl rfl rfl) ?_
              refine RW.v rfl (V.mv (d := Bo true) rfl rfl) ?_
              refine RW.guardF rfl rfl rfl rfl ?_
              refine RW.guardF rfl rfl rfl rfl ?_
              refine RW.guardF rfl rfl rfl rfl ?_
              refine RW.guardF rfl rfl rfl rfl ?_
              refine RW.v rfl (V.pickT (d := Bo true) rfl rfl rfl) ?_
              refine RW.v rfl (V.mv (d := Bo true) rfl rfl) ?_
              refine RW.guardF rfl rfl rfl rfl ?_
              refine RW.guardF rfl rfl rfl rfl ?_
              refine RW.guardF rfl rfl rfl rfl ?_
              refine RW.guardF rfl rfl rfl rfl ?_
              refine RW.guardF rfl rfl rfl rfl ?_
              refine RW.guardU rfl rfl rfl rfl ?_
              refine RW.guardU rfl rfl rfl rfl ?_
              refine RW.guardU rfl rfl rfl rfl ?_
              refine RW.guardF rfl rfl rfl rfl ?_
              refine RW.v rfl (V.pickT (d := Bo true) rfl rfl rfl) ?_
              refine RW.nil ?_
              exact ⟨_, by first | rfl | (simp_all; done) | (simp_all; omega) | grind, rfl, Le.c rfl <| Le.c rfl <| Le.c rfl <| Le.e⟩
          · skip
            refine RW.guardF rfl rfl rfl rfl ?_
            refine RW.guardF rfl rfl rfl rfl ?_
            refine RW.guardF rfl rfl rfl rfl ?_
            refine RW.v rfl (V.pickT (d := Bo true) rfl rfl rfl) ?_
            refine RW.v rfl (V.mv (d := Bo true) rfl rfl) ?_
            refine RW.guardF rfl rfl rfl rfl ?_
            refine RW.guardF rfl rfl rfl rfl ?_
            refine RW.guardF rfl rfl rfl rfl ?_
            refine RW.guardF rfl rfl rfl rfl ?_
            refine RW.v rfl (V.pickT (d := Bo true) rfl rfl rfl) ?_
            refine RW.v rfl (V.mv (d := Bo true) rfl rfl) ?_
            refine RW.guardF rfl rfl rfl rfl ?_
            refine RW.guardF rfl rfl rfl rfl ?_
            refine RW.guardF rfl rfl rfl rfl ?_
            refine RW.guardF rfl rfl rfl rfl ?_
            refine RW.v rfl (V.pickT (d := Bo true) rfl rfl rfl) ?_
            refine RW.v rfl (V.mv (d := Bo true) rfl rfl) ?_
            refine RW.guardF rfl rfl rfl rfl ?_
            refine RW.guardF rfl rfl rfl rfl ?_
            refine RW.guardF rfl rfl rfl rfl ?_
            refine RW.guardF rfl rfl rfl rfl ?_
            refine RW.guardF rfl rfl rfl rfl ?_
            refine RW.guardU rfl rfl rfl rfl ?_
            refine RW.guardU rfl rfl rfl rfl ?_
            refine RW.guardU rfl rfl rfl rfl ?_
            refine RW.guardF rfl rfl rfl rfl ?_
            refine RW.v rfl (V.pickT (d := Bo true) rfl rfl rfl) ?_
            refine RW.nil ?_
            exact ⟨_, by first | rfl | (simp_all; done) | (simp_all; omega) | grind, rfl, Le.c rfl <| Le.c rfl <| Le.c rfl <| Le.e⟩
        · skip
          refine RW.guardF rfl rfl rfl rfl ?_
          refine RW.guardF rfl rfl rfl rfl ?_
          refine RW.guardF rfl rfl rfl rfl ?_
          refine RW.guardF rfl rfl rfl rfl ?_
          refine RW.guardF rfl rfl rfl rfl ?_
          refine RW.guardF rfl rfl rfl rfl ?_
          refine RW.guardF rfl rfl rfl rfl ?_
          refine RW.v rfl (V.pickT (d := Bo true) rfl rfl rfl) ?_
          refine RW.v rfl (V.mv (d := Bo true) rfl rfl) ?_
          refine RW.guardF rfl rfl rfl rfl ?_
          refine RW.guardF rfl rfl rfl rfl ?_
          refine RW.guardF rfl rfl rfl rfl ?_
          refine RW.guardF rfl rfl rfl rfl ?_
          refine RW.v rfl (V.pickT (d := Bo true) rfl rfl rfl) ?_
          refine RW.v rfl (V.mv (d := Bo true) rfl rfl) ?_
          refine RW.guardF rfl rfl rfl rfl ?_
          refine RW.guardF rfl rfl rfl rfl ?_
          refine RW.guardF rfl rfl rfl rfl ?_
          refine RW.guardF rfl rfl rfl rfl ?_
          refine RW.v rfl (V.pickT (d := Bo true) rfl rfl rfl) ?_
          refine RW.v rfl (V.mv (d := Bo true) rfl rfl) ?_
          refine RW.guardF rfl rfl rfl rfl ?_
          refine RW.guardF rfl rfl rfl rfl ?_
          refine RW.guardF rfl rfl rfl rfl ?_
          refine RW.guardF rfl rfl rfl rfl ?_
          refine RW.v rfl (V.pickT (d := Bo true) rfl rfl rfl) ?_
          refine RW.v rfl (V.mv (d := Bo true) rfl rfl) ?_
          refine RW.guardF rfl rfl rfl rfl ?_
          refine RW.guardF rfl rfl rfl rfl ?_
          refine RW.guardF rfl rfl rfl rfl ?_
          refine RW.guardF rfl rfl rfl rfl ?_
          refine RW.guardF rfl rfl rfl rfl ?_
          refine RW.guardU rfl rfl rfl rfl ?_
          refine RW.guardU rfl rfl rfl rfl ?_
          refine RW.guardU rfl rfl rfl rfl ?_
          refine RW.guardF rfl rfl rfl rfl ?_
          refine RW.v rfl (V.pickT (d := Bo true) rfl rfl rfl) ?_
          refine RW.nil ?_
          exact ⟨_, by first | rfl | (simp_all; done) | (simp_all; omega) | grind, rfl, Le.c rfl <| Le.c rfl <| Le.c rfl <| Le.e⟩
      · intro v19 hv30
        refine CW.cond rfl (fun h31 => ?_) (fun h31 => ?_)
        · skip
          refine CW.seq ?_
          refine CW.region ?_
          refine RW.v rfl (V.as (d := Bo false) rfl rfl) ?_
          refine RW.nil ?_
          refine CW.le [(2, Bo false)] rfl (Le.c rfl <| Le.e) ?_
          refine CW.ret ?_
          exact Post.one (RV.b rfl (by first | (simp_all [nodeOk]; done) | grind [nodeOk])) (AOs.a rfl AOs.e)
        · skip
          refine CW.skip ?_
          refine CW.le [(1, .obj b1 ((Node.c n).map .r)), (3, I ((logLast n.log).1))] rfl (Le.c rfl <| Le.c rfl <| Le.e) ?_
          refine CW.seq ?_
          refine CW.region ?_
          refine RW.build0 cI rfl rfl rfl rfl rfl fun X32 => ?_
          refine RW.assignMove rfl rfl rfl (by decide) (Nat.le_of_ble_eq_true rfl) (Nat.le_of_ble_eq_true rfl) ?_
          refine RW.nil ?_
          refine CW.le [(1, .obj b1 ((Node.c n).map .r)), (3, I ((logLast n.log).1)), (5, .w (sl 1 cI ([] : List Int)) X32)] rfl (Le.c rfl <| Le.c rfl <| Le.c rfl <| Le.e) ?_
          refine CW.seq ?_
          refine CW.seq ?_
          refine CW.region ?_
          refine RW.v rfl (V.field rfl rfl rfl rfl (by decide) rfl) ?_
          refine RW.v rfl (V.loadPrim (d := I n.role) rfl rfl (.inl rfl) rfl rfl rfl) ?_
          refine RW.v rfl (V.cmpInt rfl rfl rfl rfl) ?_
          refine RW.nil ?_
          refine CW.le [(1, .obj b1 ((Node.c n).map .r)), (3, I ((logLast n.log).1)), (5, .w (sl 1 cI ([] : List Int)) X32), (100, Bo (n.role == 2))] rfl (Le.c rfl <| Le.c rfl <| Le.c rfl <| Le.c rfl <| Le.e) ?_
          refine CW.cond rfl (fun h33 => ?_) (fun h33 => ?_)
          · skip
            refine CW.any ?_
            refine RA.step (L := [0, 2]) (by kernel_rfl) (by simp) (RA.each ?_ (RA.each ?_ (RA.each0)))
            · skip
              refine RO.v (ls' := #[true, false, false, false, false, false]) rfl rfl (V.loadAgg rfl rfl rfl rfl rfl (Nat.le_of_ble_eq_true rfl)) rfl ?_
              refine RA.step (L := [1, 2]) (by kernel_rfl) (by simp) (RA.each ?_ (RA.each ?_ (RA.each0)))
              · skip
                refine RO.call (ls' := #[true, true, false, false, false, false]) rfl rfl (spec_ConfOf_fn n hok) rfl (.cons (.agg (.cons (.r .r) (.cons (.r .r) (.cons (.r .r) (.cons (.r .r) (.cons (.r .r) (.cons (.r .r) (.cons (.r .r) (.cons (.r .r) (.cons (.r .r) (.cons (.r .r) (.cons (.r .r) (.cons (.r .r) (.cons (.r .r) (.cons (.r .r) (.nil)))))))))))))))) (.nil)) rfl fun g34 => ?_
                refine RA.step (L := [2]) (by kernel_rfl) (by simp) (RA.each ?_ (RA.each0))
                · skip
                  refine RO.v (ls' := #[true, true, true, false, false, false]) rfl rfl (V.field rfl rfl rfl rfl (by decide) rfl) rfl ?_
                  refine RA.step (L := [3]) (by kernel_rfl) (by simp) (RA.each ?_ (RA.each0))
                  · skip
                    refine RO.v (ls' := #[true, true, true, true, false, false]) rfl rfl (V.loadPrim (d := I n.id) rfl rfl (.inl rfl) rfl rfl rfl) rfl ?_
                    refine RA.step (L := [4]) (by kernel_rfl) (by simp) (RA.each ?_ (RA.each0))
                    · skip
                      refine RO.callOwn (ls' := #[true, true, true, true, true, false]) rfl rfl (spec_l18Others_fn (confAtS n 1000060) n.id (confAtS_len hok _)) rfl (.cons (.one (.r (.al (k := none) (i := 102) (sz := 1) (V := (g34 0 0)) rfl rfl nofun))) (.cons (.one (.r .r)) (.nil))) rfl rfl fun g35 => ?_
                      refine RA.step (L := [5]) (by kernel_rfl) (by simp) (RA.each ?_ (RA.each0))
                      · skip
                        refine RO.assignMove (ls' := #[true, true, true, true, true, true]) rfl rfl rfl rfl rfl (by decide) (Nat.le_of_ble_eq_true rfl) (Nat.le_of_ble_eq_true rfl) ?_
                        refine RA.fin (by kernel_rfl) ?_
                        refine CW.le [(1, .obj b1 ((Node.c n).map .r)), (3, I ((logLast n.log).1)), (5, .w (sl 1 cI (others (confAtS n 1000060) n.id)) (g35 0 0))] rfl (Le.c rfl <| Le.c rfl <| Le.c rfl <| Le.e) ?_
                        refine CW.seq ?_
                        refine CW.seq ?_
                        refine CW.region ?_
                        refine RW.v rfl (V.field rfl rfl rfl rfl (by decide) rfl) ?_
                        refine RW.v rfl (V.loadPrim (d := .r (sl 4 Peer.c n.peers)) rfl rfl (.inr ⟨_, rfl⟩) rfl rfl rfl) ?_
                        refine RW.v rfl (V.lenT (n := n.peers.length) rfl rfl rfl .r) ?_
                        refine RW.v rfl (V.mv (d := .al 5 none 1 ((others (confAtS n 1000060) n.id).length) (g35 0 0) 0) rfl rfl) ?_
                        refine RW.v rfl (V.lenT (n := (others (confAtS n 1000060) n.id).length) rfl rfl rfl (.al rfl rfl nofun)) ?_
                        refine RW.v rfl (V.cmpInt rfl rfl rfl rfl) ?_
                        refine RW.nil ?_
                        refine CW.le [(1, .obj b1 ((Node.c n).map .r)), (3, I ((logLast n.log).1)), (5, .w (sl 1 cI (others (confAtS n 1000060) n.id)) (g35 0 0)), (111, Bo ((n.peers.length : Int) != ((others (confAtS n 1000060) n.id).length : Int)))] rfl (Le.c rfl <| Le.c rfl <| Le.c rfl <| Le.c rfl <| Le.e) ?_
                        refine CW.cond rfl (fun h36 => ?_) (fun h36 => ?_)
                        · skip
                          refine CW.seq ?_
                          refine CW.region ?_
                          refine RW.v rfl (V.as (d := Bo false) rfl rfl) ?_
                          refine RW.nil ?_
                          refine CW.le [(2, Bo false)] rfl (Le.c rfl <| Le.e) ?_
                          refine CW.ret ?_
                          exact Post.one (RV.b rfl (by have hl : logOk n.log = true := (by first | (simp_all; done) | grind); have hro : n.role = 0 ∨ n.role = 1 ∨ n.role = 2 := role_of (by first | (simp_all; done) | grind); have hne := peersOkB_ne hl; have heq := peersOkB_eq hl; grind [nodeOk])) (AOs.a rfl AOs.e)
                        · skip
                          refine CW.skip ?_
                          refine CW.le [(1, .obj b1 ((Node.c n).map .r)), (3, I ((logLast n.log).1)), (5, .w (sl 1 cI (others (confAtS n 1000060) n.id)) (g35 0 0))] rfl (Le.c rfl <| Le.c rfl <| Le.c rfl <| Le.e) ?_
                          refine CW.seq ?_
                          refine CW.seq ?_
                          refine CW.region ?_
                          refine RW.v rfl (V.as (d := I 0) rfl rfl) ?_
                          refine RW.nil ?_
                          refine CW.le [(1, .obj b1 ((Node.c n).map .r)), (3, I ((logLast n.log).1)), (5, .w (sl 1 cI (others (confAtS n 1000060) n.id)) (g35 0 0)), (6, I 0)] rfl (Le.c rfl <| Le.c rfl <| Le.c rfl <| Le.c rfl <| Le.e) ?_
                          refine CW.block ?_
                          refine CW.loopI 153 (fun (i : Nat) => [(1, .obj b1 ((Node.c n).map .r)), (3, I ((logLast n.log).1)), (5, .w (sl 1 cI (others (confAtS n 1000060) n.id)) (g35 0 0)), (6, I (i : Int))]) (fun (i : Nat) => i ≤ (others (confAtS n 1000060) n.id).length ∧ pkGo (logLast n.log).1 (n.peers.drop i) ((others (confAtS n 1000060) n.id).drop i) = pkGo (logLast n.log).1 n.peers (others (confAtS n 1000060) n.id)) (fun (i : Nat) => (others (confAtS n 1000060) n.id).length - i) 0 rfl (Le.c rfl <| Le.c rfl <| Le.c rfl <| Le.c rfl <| Le.e) ⟨by omega, by simp⟩ ?_
                          rintro i ⟨hb, hr⟩
                          have hlen : n.peers.length = (others (confAtS n 1000060) n.id).length := by first | (simp_all; done) | grind
                          refine CW.seq ?_
                          refine CW.seq ?_
                          refine CW.region ?_
                          refine RW.v rfl (V.mv (d := I (i : Int)) rfl rfl) ?_
                          refine RW.v rfl (V.mv (d := .al 5 none 1 ((others (confAtS n 1000060) n.id).length) (g35 0 0) 0) rfl rfl) ?_
                          refine RW.v rfl (V.lenT (n := (others (confAtS n 1000060) n.id).length) rfl rfl rfl (.al rfl rfl nofun)) ?_
                          refine RW.v rfl (V.cmpInt rfl rfl rfl rfl) ?_
                          refine RW.nil ?_
                          refine CW.le [(1, .obj b1 ((Node.c n).map .r)), (3, I ((logLast n.log).1)), (5, .w (sl 1 cI (others (confAtS n 1000060) n.id)) (g35 0 0)), (6, I (i : Int)), (115, Bo (decide ((i : Int) < ((others (confAtS n 1000060) n.id).length : Int))))] rfl (Le.c rfl <| Le.c rfl <| Le.c rfl <| Le.c rfl <| Le.c rfl <| Le.e) ?_
                          refine CW.cond rfl (fun h37 => ?_) (fun h37 => ?_)
                          · skip
                            have hii : i < (others (confAtS n 1000060) n.id).length := by have := h37; simp at this; first | exact this | omega | (simp; done) | (simp; omega)
                            obtain ⟨ei, hei⟩ : ∃ e, (others (confAtS n 1000060) n.id)[i]? = some e := ⟨_, List.getElem?_eq_getElem hii⟩
                            have hdi := drop_get hei
                            have hip : i < n.peers.length := by have := hlen; omega
                            obtain ⟨ep, hep⟩ : ∃ e, n.peers[i]? = some e := ⟨_, List.getElem?_eq_getElem hip⟩
                            have hdp := drop_get hep
                            refine CW.skip ?_
                            refine CW.le [(1, .obj b1 ((Node.c n).map .r)), (3, I ((logLast n.log).1)), (5, .w (sl 1 cI (others (confAtS n 1000060) n.id)) (g35 0 0)), (6, I (i : Int))] rfl (Le.c rfl <| Le.c rfl <| Le.c rfl <| Le.c rfl <| Le.e) ?_
                            refine CW.seq ?_
                            refine CW.block ?_
                            refine CW.seq ?_
                            refine CW.region ?_
                            refine RW.v rfl (V.field rfl rfl rfl rfl (by decide) rfl) ?_
                            refine RW.v rfl (V.loadPrim (d := .r (sl 4 Peer.c n.peers)) rfl rfl (.inr ⟨_, rfl⟩) rfl rfl rfl) ?_
                            refine RW.v rfl (V.mv (d := I (i : Int)) rfl rfl) ?_
                            refine RW.v rfl (V.indexS rfl rfl rfl rfl rfl rfl Peer.len hep) ?_
                            refine RW.v rfl (V.loadAggR rfl rfl rfl rfl (Nat.le_of_ble_eq_true rfl)) ?_
                            refine RW.alloc (ds := [I 0, I 0, I 0, I 0]) rfl rfl rfl rfl fun b38 => ?_
                            refine RW.storeAgg (es := ((Peer.c ep).map .r)) rfl rfl rfl rfl rfl rfl rfl rfl (Nat.le_of_ble_eq_true rfl) rfl ?_
                            refine RW.nil ?_
                            refine CW.le [(1, .obj b1 ((Node.c n).map .r)), (3, I ((logLast n.log).1)), (5, .w (sl 1 cI (others (confAtS n 1000060) n.id)) (g35 0 0)), (6, I (i : Int)), (7, .obj b38 ((Peer.c ep).map .r))] rfl (Le.c rfl <| Le.c rfl <| Le.c rfl <| Le.c rfl <| Le.c rfl <| Le.e) ?_
                            refine CW.seqJ 153 (fun (v39 : Bool) => [(1, .obj b1 ((Node.c n).map .r)), (3, I ((logLast n.log).1)), (5, .w (sl 1 cI (others (confAtS n 1000060) n.id)) (g35 0 0)), (6, I (i : Int)), (152, Bo v39)]) (fun v39 => v39 = ((((ep.id != ei) || (!(inR ep.next 1 (IntKind.i64.wrap (((logLast n.log).1) + 1))))) || (!(inR ep.match_ 0 (IntKind.i64.wrap (ep.next - 1))))) || (!(inR ep.sent 0 20000)))) ?_ ?_
                            · refine CW.drawn (by kernel_rfl) ?_
                              refine RQ.v rfl (V.field rfl rfl rfl rfl (by decide) rfl) ?_
                              refine RQ.v rfl (V.loadPrim (d := I ep.id) rfl rfl (.inl rfl) rfl rfl rfl) ?_
                              refine RQ.v rfl (V.mv (d := .al 5 none 1 ((others (confAtS n 1000060) n.id).length) (g35 0 0) 0) rfl rfl) ?_
                              refine RQ.v rfl (V.mv (d := I (i : Int)) rfl rfl) ?_
                              refine RQ.v rfl (V.indexW rfl rfl rfl rfl rfl rfl rfl hii) ?_
                              refine RQ.v rfl (V.loadF (m := i) (off := 0) rfl rfl (.inl rfl) rfl rfl cI.len hei (by decide) rfl) ?_
                              refine RQ.v rfl (V.cmpInt rfl rfl rfl rfl) ?_
                              refine RQ.v rfl (V.mv (d := Bo (ep.id != ei)) rfl rfl) ?_
                              refine RQ.gv rfl rfl rfl rfl (fun h40 => V.field rfl rfl rfl rfl (by decide) rfl) (fun h40 => ?_) (fun h40 => ?_)
                              · skip
                                refine RQ.gt rfl rfl rfl rfl (V.loadPrim (d := I ep.next) rfl rfl (.inl rfl) rfl rfl rfl) ?_
                                refine RQ.gt rfl rfl rfl rfl (V.mv (d := I ((logLast n.log).1)) rfl rfl) ?_
                                refine RQ.gt rfl rfl rfl rfl (V.arInt rfl rfl rfl rfl) ?_
                                refine RQ.guardT rfl rfl rfl rfl (QOK.call (spec_l01In_fn ep.next 1 (IntKind.i64.wrap (((logLast n.log).1) + 1))) rfl (.cons (.one (.r .r)) (.cons (.one (.r .r)) (.cons (.one (.r .r)) (.nil)))) ?_)
                                refine RQ.gt rfl rfl rfl rfl (V.not rfl rfl) ?_
                                refine RQ.v rfl (V.pickF (d := Bo (!(inR ep.next 1 (IntKind.i64.wrap (((logLast n.log).1) + 1))))) rfl rfl rfl) ?_
                                refine RQ.v rfl (V.mv (d := Bo (!(inR ep.next 1 (IntKind.i64.wrap (((logLast n.log).1) + 1))))) rfl rfl) ?_
                                refine RQ.gv rfl rfl rfl rfl (fun h41 => V.field rfl rfl rfl rfl (by decide) rfl) (fun h41 => ?_) (fun h41 => ?_)
                                · skip
                                  refine RQ.gt rfl rfl rfl rfl (V.loadPrim (d := I ep.match_) rfl rfl (.inl rfl) rfl rfl rfl) ?_
                                  refine RQ.gt rfl rfl rfl rfl (V.field rfl rfl rfl rfl (by decide) rfl) ?_
                                  refine RQ.gt rfl rfl rfl rfl (V.loadPrim (d := I ep.next) rfl rfl (.inl rfl) rfl rfl rfl) ?_
                                  refine RQ.gt rfl rfl rfl rfl (V.arInt rfl rfl rfl rfl) ?_
                                  refine RQ.guardT rfl rfl rfl rfl (QOK.call (spec_l01In_fn ep.match_ 0 (IntKind.i64.wrap (ep.next - 1))) rfl (.cons (.one (.r .r)) (.cons (.one (.r .r)) (.cons (.one (.r .r)) (.nil)))) ?_)
                                  refine RQ.gt rfl rfl rfl rfl (V.not rfl rfl) ?_
                                  refine RQ.v rfl (V.pickF (d := Bo (!(inR ep.match_ 0 (IntKind.i64.wrap (ep.next - 1))))) rfl rfl rfl) ?_
                                  refine RQ.v rfl (V.mv (d := Bo (!(inR ep.match_ 0 (IntKind.i64.wrap (ep.next - 1))))) rfl rfl) ?_
                                  refine RQ.gv rfl rfl rfl rfl (fun h42 => V.field rfl rfl rfl rfl (by decide) rfl) (fun h42 => ?_) (fun h42 => ?_)
                                  · skip
                                    refine RQ.gt rfl rfl rfl rfl (V.loadPrim (d := I ep.sent) rfl rfl (.inl rfl) rfl rfl rfl) ?_
                                    refine RQ.guardT rfl rfl rfl rfl (QOK.call (spec_l01In_fn ep.sent 0 20000) rfl (.cons (.one (.r .r)) (.cons (.one (.r .r)) (.cons (.one (.r .r)) (.nil)))) ?_)
                                    refine RQ.gt rfl rfl rfl rfl (V.not rfl rfl) ?_
                                    refine RQ.v rfl (V.pickF (d := Bo (!(inR ep.sent 0 20000))) rfl rfl rfl) ?_
                                    refine RQ.nil ?_
                                    exact ⟨_, by first | rfl | (simp_all; done) | (simp_all; omega) | grind, rfl, Le.c rfl <| Le.c rfl <| Le.c rfl <| Le.c rfl <| Le.c rfl <| Le.e⟩
                                  · skip
                                    refine RQ.guardF rfl rfl rfl rfl ?_
                                    refine RQ.guardF rfl rfl rfl rfl ?_
                                    refine RQ.guardF rfl rfl rfl rfl ?_
                                    refine RQ.v rfl (V.pickT (d := Bo true) rfl rfl rfl) ?_
                                    refine RQ.nil ?_
                                    exact ⟨_, by first | rfl | (simp_all; done) | (simp_all; omega) | grind, rfl, Le.c rfl <| Le.c rfl <| Le.c rfl <| Le.c rfl <| Le.c rfl <| Le.e⟩
                                · skip
                                  refine RQ.guardF rfl rfl rfl rfl ?_
                                  refine RQ.guardF rfl rfl rfl rfl ?_
                                  refine RQ.guardF rfl rfl rfl rfl ?_
                                  refine RQ.guardF rfl rfl rfl rfl ?_
                                  refine RQ.guardF rfl rfl rfl rfl ?_
                                  refine RQ.guardF rfl rfl rfl rfl ?_
                                  refine RQ.v rfl (V.pickT (d := Bo true) rfl rfl rfl) ?_
                                  refine RQ.v rfl (V.mv (d := Bo true) rfl rfl) ?_
                                  refine RQ.guardF rfl rfl rfl rfl ?_
                                  refine RQ.guardF rfl rfl rfl rfl ?_
                                  refine RQ.guardF rfl rfl rfl rfl ?_
                                  refine RQ.guardF rfl rfl rfl rfl ?_
                                  refine RQ.v rfl (V.pickT (d := Bo true) rfl rfl rfl) ?_
                                  refine RQ.nil ?_
                                  exact ⟨_, by first | rfl | (simp_all; done) | (simp_all; omega) | grind, rfl, Le.c rfl <| Le.c rfl <| Le.c rfl <| Le.c rfl <| Le.c rfl <| Le.e⟩
                              · skip
                                refine RQ.guardF rfl rfl rfl rfl ?_
                                refine RQ.guardF rfl rfl rfl rfl ?_
                                refine RQ.guardF rfl rfl rfl rfl ?_
                                refine RQ.guardF rfl rfl rfl rfl ?_
                                refine RQ.guardF rfl rfl rfl rfl ?_
                                refine RQ.v rfl (V.pickT (d := Bo true) rfl rfl rfl) ?_
                                refine RQ.v rfl (V.mv (d := Bo true) rfl rfl) ?_
                                refine RQ.guardF rfl rfl rfl rfl ?_
                                refine RQ.guardF rfl rfl rfl rfl ?_
                                refine RQ.guardF rfl rfl rfl rfl ?_
                                refine RQ.guardF rfl rfl rfl rfl ?_
                                refine RQ.guardF rfl rfl rfl rfl ?_
                                refine RQ.guardF rfl rfl rfl rfl ?_
                                refine RQ.guardF rfl rfl rfl rfl ?_
                                refine RQ.v rfl (V.pickT (d := Bo true) rfl rfl rfl) ?_
                                refine RQ.v rfl (V.mv (d := Bo true) rfl rfl) ?_
                                refine RQ.guardF rfl rfl rfl rfl ?_
                                refine RQ.guardF rfl rfl rfl rfl ?_
                                refine RQ.guardF rfl rfl rfl rfl ?_
                                refine RQ.guardF rfl rfl rfl rfl ?_
                                refine RQ.v rfl (V.pickT (d := Bo true) rfl rfl rfl) ?_
                                refine RQ.nil ?_
                                exact ⟨_, by first | rfl | (simp_all; done) | (simp_all; omega) | grind, rfl, Le.c rfl <| Le.c rfl <| Le.c rfl <| Le.c rfl <| Le.c rfl <| Le.e⟩
                            · intro v39 hv43
                              refine CW.cond rfl (fun h44 => ?_) (fun h44 => ?_)
                              · skip
                                refine CW.seq ?_
                                refine CW.region ?_
                                refine RW.v rfl (V.as (d := Bo false) rfl rfl) ?_
                                refine RW.nil ?_
                                refine CW.le [(2, Bo false)] rfl (Le.c rfl <| Le.e) ?_
                                refine CW.ret ?_
                                exact Post.one (RV.b rfl (by have hl : logOk n.log = true := (by first | (simp_all; done) | grind); have hro : n.role = 0 ∨ n.role = 1 ∨ n.role = 2 := role_of (by first | (simp_all; done) | grind); have hne := peersOkB_ne hl; have heq := peersOkB_eq hl; have hf : pkGo (logLast n.log).1 n.peers (others (confAtS n 1000060) n.id) = false := (by rw [← hr, hdi, hdp, pkGo]; first | (simp_all [pkOk]; done) | grind [pkOk]); clear hr; grind [nodeOk])) (AOs.a rfl AOs.e)
                              · skip
                                refine CW.skip ?_
                                refine CW.le [(1, .obj b1 ((Node.c n).map .r)), (3, I ((logLast n.log).1)), (5, .w (sl 1 cI (others (confAtS n 1000060) n.id)) (g35 0 0)), (6, I (i : Int))] rfl (Le.c rfl <| Le.c rfl <| Le.c rfl <| Le.c rfl <| Le.e) ?_
                                refine CW.region ?_
                                refine RW.v rfl (V.mv (d := I (i : Int)) rfl rfl) ?_
                                refine RW.v rfl (V.inc rfl rfl rfl hii (by have := others_len (confAtS n 1000060) n.id; have := confAtS_len hok 1000060; simp only [maxLen]; first | omega | (simp; done))) ?_
                                refine RW.v rfl (V.as (d := I ((i + 1 : Nat) : Int)) rfl rfl) ?_
                                refine RW.nil ?_
                                exact ⟨i + 1, by omega, ⟨by omega, by rw [← hr, hdi, hdp, pkGo]; first | (simp_all [pkOk]; done) | grind [pkOk]⟩, rfl, Le.c rfl <| Le.c rfl <| Le.c rfl <| Le.c rfl <| Le.e⟩
                          · skip
                            have hii : (others (confAtS n 1000060) n.id).length ≤ i := by have := h37; simp at this; first | exact this | omega | (simp; done) | (simp; omega)
                            have hdi : (others (confAtS n 1000060) n.id).drop i = [] := List.drop_eq_nil_of_le hii
                            refine CW.exit ?_
                            refine CW.le [] rfl (Le.e) ?_
                            refine CW.seq ?_
                            refine CW.region ?_
                            refine RW.v rfl (V.as (d := Bo true) rfl rfl) ?_
                            refine RW.nil ?_
                            refine CW.le [(2, Bo true)] rfl (Le.c rfl <| Le.e) ?_
                            refine CW.ret ?_
                            exact Post.one (RV.b rfl (by have hl : logOk n.log = true := (by first | (simp_all; done) | grind); have hro : n.role = 0 ∨ n.role = 1 ∨ n.role = 2 := role_of (by first | (simp_all; done) | grind); have hne := peersOkB_ne hl; have heq := peersOkB_eq hl; have hf : pkGo (logLast n.log).1 n.peers (others (confAtS n 1000060) n.id) = true := (by rw [← hr, hdi, List.drop_eq_nil_of_le (by omega)]; rfl); clear hr; grind [nodeOk])) (AOs.a rfl AOs.e)
              · skip
                refine RO.v (ls' := #[true, false, true, false, false, false]) rfl rfl (V.field rfl rfl rfl rfl (by decide) rfl) rfl ?_
                refine RA.step (L := [1, 3]) (by kernel_rfl) (by simp) (RA.each ?_ (RA.each ?_ (RA.each0)))
                · skip
                  refine RO.call (ls' := #[true, true, true, false, false, false]) rfl rfl (spec_ConfOf_fn n hok) rfl (.cons (.agg (.cons (.r .r) (.cons (.r .r) (.cons (.r .r) (.cons (.r .r) (.cons (.r .r) (.cons (.r .r) (.cons (.r .r) (.cons (.r .r) (.cons (.r .r) (.cons (.r .r) (.cons (.r .r) (.cons (.r .r) (.cons (.r .r) (.cons (.r .r) (.nil)))))))))))))))) (.nil)) rfl fun g45 => ?_
                  refine RA.step (L := [3]) (by kernel_rfl) (by simp) (RA.each ?_ (RA.each0))
                  · skip
                    refine RO.v (ls' := #[true, true, true, true, false, false]) rfl rfl (V.loadPrim (d := I n.id) rfl rfl (.inl rfl) rfl rfl rfl) rfl ?_
                    refine RA.step (L := [4]) (by kernel_rfl) (by simp) (RA.each ?_ (RA.each0))
                    · skip
                      refine RO.callOwn (ls' := #[true, true, true, true, true, false]) rfl rfl (spec_l18Others_fn (confAtS n 1000060) n.id (confAtS_len hok _)) rfl (.cons (.one (.r (.al (k := none) (i := 102) (sz := 1) (V := (g45 0 0)) rfl rfl nofun))) (.cons (.one (.r .r)) (.nil))) rfl rfl fun g46 => ?_
                      refine RA.step (L := [5]) (by kernel_rfl) (by simp) (RA.each ?_ (RA.each0))
                      · skip
                        refine RO.assignMove (ls' := #[true, true, true, true, true, true]) rfl rfl rfl rfl rfl (by decide) (Nat.le_of_ble_eq_true rfl) (Nat.le_of_ble_eq_true rfl) ?_
                        refine RA.fin (by kernel_rfl) ?_
                        refine CW.le [(1, .obj b1 ((Node.c n).map .r)), (3, I ((logLast n.log).1)), (5, .w (sl 1 cI (others (confAtS n 1000060) n.id)) (g46 0 0))] rfl (Le.c rfl <| Le.c rfl <| Le.c rfl <| Le.e) ?_
                        refine CW.seq ?_
                        refine CW.seq ?_
                        refine CW.region ?_
                        refine RW.v rfl (V.field rfl rfl rfl rfl (by decide) rfl) ?_
                        refine RW.v rfl (V.loadPrim (d := .r (sl 4 Peer.c n.peers)) rfl rfl (.inr ⟨_, rfl⟩) rfl rfl rfl) ?_
                        refine RW.v rfl (V.lenT (n := n.peers.length) rfl rfl rfl .r) ?_
                        refine RW.v rfl (V.mv (d := .al 5 none 1 ((others (confAtS n 1000060) n.id).length) (g46 0 0) 0) rfl rfl) ?_
                        refine RW.v rfl (V.lenT (n := (others (confAtS n 1000060) n.id).length) rfl rfl rfl (.al rfl rfl nofun)) ?_
                        refine RW.v rfl (V.cmpInt rfl rfl rfl rfl) ?_
                        refine RW.nil ?_
                        refine CW.le [(1, .obj b1 ((Node.c n).map .r)), (3, I ((logLast n.log).1)), (5, .w (sl 1 cI (others (confAtS n 1000060) n.id)) (g46 0 0)), (111, Bo ((n.peers.length : Int) != ((others (confAtS n 1000060) n.id).length : Int)))] rfl (Le.c rfl <| Le.c rfl <| Le.c rfl <| Le.c rfl <| Le.e) ?_
                        refine CW.cond rfl (fun h47 => ?_) (fun h47 => ?_)
                        · skip
                          refine CW.seq ?_
                          refine CW.region ?_
                          refine RW.v rfl (V.as (d := Bo false) rfl rfl) ?_
                          refine RW.nil ?_
                          refine CW.le [(2, Bo false)] rfl (Le.c rfl <| Le.e) ?_
                          refine CW.ret ?_
                          exact Post.one (RV.b rfl (by have hl : logOk n.log = true := (by first | (simp_all; done) | grind); have hro : n.role = 0 ∨ n.role = 1 ∨ n.role = 2 := role_of (by first | (simp_all; done) | grind); have hne := peersOkB_ne hl; have heq := peersOkB_eq hl; grind [nodeOk])) (AOs.a rfl AOs.e)
                        · skip
                          refine CW.skip ?_
                          refine CW.le [(1, .obj b1 ((Node.c n).map .r)), (3, I ((logLast n.log).1)), (5, .w (sl 1 cI (others (confAtS n 1000060) n.id)) (g46 0 0))] rfl (Le.c rfl <| Le.c rfl <| Le.c rfl <| Le.e) ?_
                          refine CW.seq ?_
                          refine CW.seq ?_
                          refine CW.region ?_
                          refine RW.v rfl (V.as (d := I 0) rfl rfl) ?_
                          refine RW.nil ?_
                          refine CW.le [(1, .obj b1 ((Node.c n).map .r)), (3, I ((logLast n.log).1)), (5, .w (sl 1 cI (others (confAtS n 1000060) n.id)) (g46 0 0)), (6, I 0)] rfl (Le.c rfl <| Le.c rfl <| Le.c rfl <| Le.c rfl <| Le.e) ?_
                          refine CW.block ?_
                          refine CW.loopI 153 (fun (i : Nat) => [(1, .obj b1 ((Node.c n).map .r)), (3, I ((logLast n.log).1)), (5, .w (sl 1 cI (others (confAtS n 1000060) n.id)) (g46 0 0)), (6, I (i : Int))]) (fun (i : Nat) => i ≤ (others (confAtS n 1000060) n.id).length ∧ pkGo (logLast n.log).1 (n.peers.drop i) ((others (confAtS n 1000060) n.id).drop i) = pkGo (logLast n.log).1 n.peers (others (confAtS n 1000060) n.id)) (fun (i : Nat) => (others (confAtS n 1000060) n.id).length - i) 0 rfl (Le.c rfl <| Le.c rfl <| Le.c rfl <| Le.c rfl <| Le.e) ⟨by omega, by simp⟩ ?_
                          rintro i ⟨hb, hr⟩
                          have hlen : n.peers.length = (others (confAtS n 1000060) n.id).length := by first | (simp_all; done) | grind
                          refine CW.seq ?_
                          refine CW.seq ?_
                          refine CW.region ?_
                          refine RW.v rfl (V.mv (d := I (i : Int)) rfl rfl) ?_
                          refine RW.v rfl (V.mv (d := .al 5 none 1 ((others (confAtS n 1000060) n.id).length) (g46 0 0) 0) rfl rfl) ?_
                          refine RW.v rfl (V.lenT (n := (others (confAtS n 1000060) n.id).length) rfl rfl rfl (.al rfl rfl nofun)) ?_
                          refine RW.v rfl (V.cmpInt rfl rfl rfl rfl) ?_
                          refine RW.nil ?_
                          refine CW.le [(1, .obj b1 ((Node.c n).map .r)), (3, I ((logLast n.log).1)), (5, .w (sl 1 cI (others (confAtS n 1000060) n.id)) (g46 0 0)), (6, I (i : Int)), (115, Bo (decide ((i : Int) < ((others (confAtS n 1000060) n.id).length : Int))))] rfl (Le.c rfl <| Le.c rfl <| Le.c rfl <| Le.c rfl <| Le.c rfl <| Le.e) ?_
                          refine CW.cond rfl (fun h48 => ?_) (fun h48 => ?_)
                          · skip
                            have hii : i < (others (confAtS n 1000060) n.id).length := by have := h48; simp at this; first | exact this | omega | (simp; done) | (simp; omega)
                            obtain ⟨ei, hei⟩ : ∃ e, (others (confAtS n 1000060) n.id)[i]? = some e := ⟨_, List.getElem?_eq_getElem hii⟩
                            have hdi := drop_get hei
                            have hip : i < n.peers.length := by have := hlen; omega
                            obtain ⟨ep, hep⟩ : ∃ e, n.peers[i]? = some e := ⟨_, List.getElem?_eq_getElem hip⟩
                            have hdp := drop_get hep
                            refine CW.skip ?_
                            refine CW.le [(1, .obj b1 ((Node.c n).map .r)), (3, I ((logLast n.log).1)), (5, .w (sl 1 cI (others (confAtS n 1000060) n.id)) (g46 0 0)), (6, I (i : Int))] rfl (Le.c rfl <| Le.c rfl <| Le.c rfl <| Le.c rfl <| Le.e) ?_
                            refine CW.seq ?_
                            refine CW.block ?_
                            refine CW.seq ?_
                            refine CW.region ?_
                            refine RW.v rfl (V.field rfl rfl rfl rfl (by decide) rfl) ?_
                            refine RW.v rfl (V.loadPrim (d := .r (sl 4 Peer.c n.peers)) rfl rfl (.inr ⟨_, rfl⟩) rfl rfl rfl) ?_
                            refine RW.v rfl (V.mv (d := I (i : Int)) rfl rfl) ?_
                            refine RW.v rfl (V.indexS rfl rfl rfl rfl rfl rfl Peer.len hep) ?_
                            refine RW.v rfl (V.loadAggR rfl rfl rfl rfl (Nat.le_of_ble_eq_true rfl)) ?_
                            refine RW.alloc (ds := [I 0, I 0, I 0, I 0]) rfl rfl rfl rfl fun b49 => ?_
                            refine RW.storeAgg (es := ((Peer.c ep).map .r)) rfl rfl rfl rfl rfl rfl rfl rfl (Nat.le_of_ble_eq_true rfl) rfl ?_
                            refine RW.nil ?_
                            refine CW.le [(1, .obj b1 ((Node.c n).map .r)), (3, I ((logLast n.log).1)), (5, .w (sl 1 cI (others (confAtS n 1000060) n.id)) (g46 0 0)), (6, I (i : Int)), (7, .obj b49 ((Peer.c ep).map .r))] rfl (Le.c rfl <| Le.c rfl <| Le.c rfl <| Le.c rfl <| Le.c rfl <| Le.e) ?_
                            refine CW.seqJ 153 (fun (v50 : Bool) => [(1, .obj b1 ((Node.c n).map .r)), (3, I ((logLast n.log).1)), (5, .w (sl 1 cI (others (confAtS n 1000060) n.id)) (g46 0 0)), (6, I (i : Int)), (152, Bo v50)]) (fun v50 => v50 = ((((ep.id != ei) || (!(inR ep.next 1 (IntKind.i64.wrap (((logLast n.log).1) + 1))))) || (!(inR ep.match_ 0 (IntKind.i64.wrap (ep.next - 1))))) || (!(inR ep.sent 0 20000)))) ?_ ?_
                            · refine CW.drawn (by kernel_rfl) ?_
                              refine RQ.v rfl (V.field rfl rfl rfl rfl (by decide) rfl) ?_
                              refine RQ.v rfl (V.loadPrim (d := I ep.id) rfl rfl (.inl rfl) rfl rfl rfl) ?_
                              refine RQ.v rfl (V.mv (d := .al 5 none 1 ((others (confAtS n 1000060) n.id).length) (g46 0 0) 0) rfl rfl) ?_
                              refine RQ.v rfl (V.mv (d := I (i : Int)) rfl rfl) ?_
                              refine RQ.v rfl (V.indexW rfl rfl rfl rfl rfl rfl rfl hii) ?_
                              refine RQ.v rfl (V.loadF (m := i) (off := 0) rfl rfl (.inl rfl) rfl rfl cI.len hei (by decide) rfl) ?_
                              refine RQ.v rfl (V.cmpInt rfl rfl rfl rfl) ?_
                              refine RQ.v rfl (V.mv (d := Bo (ep.id != ei)) rfl rfl) ?_
                              refine RQ.gv rfl rfl rfl rfl (fun h51 => V.field rfl rfl rfl rfl (by decide) rfl) (fun h51 => ?_) (fun h51 => ?_)
                              · skip
                                refine RQ.gt rfl rfl rfl rfl (V.loadPrim (d := I ep.next) rfl rfl (.inl rfl) rfl rfl rfl) ?_
                                refine RQ.gt rfl rfl rfl rfl (V.mv (d := I ((logLast n.log).1)) rfl rfl) ?_
                                refine RQ.gt rfl rfl rfl rfl (V.arInt rfl rfl rfl rfl) ?_
                                refine RQ.guardT rfl rfl rfl rfl (QOK.call (spec_l01In_fn ep.next 1 (IntKind.i64.wrap (((logLast n.log).1) + 1))) rfl (.cons (.one (.r .r)) (.cons (.one (.r .r)) (.cons (.one (.r .r)) (.nil)))) ?_)
                                refine RQ.gt rfl rfl rfl rfl (V.not rfl rfl) ?_
                                refine RQ.v rfl (V.pickF (d := Bo (!(inR ep.next 1 (IntKind.i64.wrap (((logLast n.log).1) + 1))))) rfl rfl rfl) ?_
                                refine RQ.v rfl (V.mv (d := Bo (!(inR ep.next 1 (IntKind.i64.wrap (((logLast n.log).1) + 1))))) rfl rfl) ?_
                                refine RQ.gv rfl rfl rfl rfl (fun h52 => V.field rfl rfl rfl rfl (by decide) rfl) (fun h52 => ?_) (fun h52 => ?_)
                                · skip
                                  refine RQ.gt rfl rfl rfl rfl (V.loadPrim (d := I ep.match_) rfl rfl (.inl rfl) rfl rfl rfl) ?_
                                  refine RQ.gt rfl rfl rfl rfl (V.field rfl rfl rfl rfl (by decide) rfl) ?_
                                  refine RQ.gt rfl rfl rfl rfl (V.loadPrim (d := I ep.next) rfl rfl (.inl rfl) rfl rfl rfl) ?_
                                  refine RQ.gt rfl rfl rfl rfl (V.arInt rfl rfl rfl rfl) ?_
                                  refine RQ.guardT rfl rfl rfl rfl (QOK.call (spec_l01In_fn ep.match_ 0 (IntKind.i64.wrap (ep.next - 1))) rfl (.cons (.one (.r .r)) (.cons (.one (.r .r)) (.cons (.one (.r .r)) (.nil)))) ?_)
                                  refine RQ.gt rfl rfl rfl rfl (V.not rfl rfl) ?_
                                  refine RQ.v rfl (V.pickF (d := Bo (!(inR ep.match_ 0 (IntKind.i64.wrap (ep.next - 1))))) rfl rfl rfl) ?_
                                  refine RQ.v rfl (V.mv (d := Bo (!(inR ep.match_ 0 (IntKind.i64.wrap (ep.next - 1))))) rfl rfl) ?_
                                  refine RQ.gv rfl rfl rfl rfl (fun h53 => V.field rfl rfl rfl rfl (by decide) rfl) (fun h53 => ?_) (fun h53 => ?_)
                                  · skip
                                    refine RQ.gt rfl rfl rfl rfl (V.loadPrim (d := I ep.sent) rfl rfl (.inl rfl) rfl rfl rfl) ?_
                                    refine RQ.guardT rfl rfl rfl rfl (QOK.call (spec_l01In_fn ep.sent 0 20000) rfl (.cons (.one (.r .r)) (.cons (.one (.r .r)) (.cons (.one (.r .r)) (.nil)))) ?_)
                                    refine RQ.gt rfl rfl rfl rfl (V.not rfl rfl) ?_
                                    refine RQ.v rfl (V.pickF (d := Bo (!(inR ep.sent 0 20000))) rfl rfl rfl) ?_
                                    refine RQ.nil ?_
                                    exact ⟨_, by first | rfl | (simp_all; done) | (simp_all; omega) | grind, rfl, Le.c rfl <| Le.c rfl <| Le.c rfl <| Le.c rfl <| Le.c rfl <| Le.e⟩
                                  · skip
                                    refine RQ.guardF rfl rfl rfl rfl ?_
                                    refine RQ.guardF rfl rfl rfl rfl ?_
                                    refine RQ.guardF rfl rfl rfl rfl ?_
                                    refine RQ.v rfl (V.pickT (d := Bo true) rfl rfl rfl) ?_
                                    refine RQ.nil ?_
                                    exact ⟨_, by first | rfl | (simp_all; done) | (simp_all; omega) | grind, rfl, Le.c rfl <| Le.c rfl <| Le.c rfl <| Le.c rfl <| Le.c rfl <| Le.e⟩
                                · skip
                                  refine RQ.guardF rfl rfl rfl rfl ?_
                                  refine RQ.guardF rfl rfl rfl rfl ?_
                                  refine RQ.guardF rfl rfl rfl rfl ?_
                                  refine RQ.guardF rfl rfl rfl rfl ?_
                                  refine RQ.guardF rfl rfl rfl rfl ?_
                                  refine RQ.guardF rfl rfl rfl rfl ?_
                                  refine RQ.v rfl (V.pickT (d := Bo true) rfl rfl rfl) ?_
                                  refine RQ.v rfl (V.mv (d := Bo true) rfl rfl) ?_
                                  refine RQ.guardF rfl rfl rfl rfl ?_
                                  refine RQ.guardF rfl rfl rfl rfl ?_
                                  refine RQ.guardF rfl rfl rfl rfl ?_
                                  refine RQ.guardF rfl rfl rfl rfl ?_
                                  refine RQ.v rfl (V.pickT (d := Bo true) rfl rfl rfl) ?_
                                  refine RQ.nil ?_
                                  exact ⟨_, by first | rfl | (simp_all; done) | (simp_all; omega) | grind, rfl, Le.c rfl <| Le.c rfl <| Le.c rfl <| Le.c rfl <| Le.c rfl <| Le.e⟩
                              · skip
                                refine RQ.guardF rfl rfl rfl rfl ?_
                                refine RQ.guardF rfl rfl rfl rfl ?_
                                refine RQ.guardF rfl rfl rfl rfl ?_
                                refine RQ.guardF rfl rfl rfl rfl ?_
                                refine RQ.guardF rfl rfl rfl rfl ?_
                                refine RQ.v rfl (V.pickT (d := Bo true) rfl rfl rfl) ?_
                                refine RQ.v rfl (V.mv (d := Bo true) rfl rfl) ?_
                                refine RQ.guardF rfl rfl rfl rfl ?_
                                refine RQ.guardF rfl rfl rfl rfl ?_
                                refine RQ.guardF rfl rfl rfl rfl ?_
                                refine RQ.guardF rfl rfl rfl rfl ?_
                                refine RQ.guardF rfl rfl rfl rfl ?_
                                refine RQ.guardF rfl rfl rfl rfl ?_
                                refine RQ.guardF rfl rfl rfl rfl ?_
                                refine RQ.v rfl (V.pickT (d := Bo true) rfl rfl rfl) ?_
                                refine RQ.v rfl (V.mv (d := Bo true) rfl rfl) ?_
                                refine RQ.guardF rfl rfl rfl rfl ?_
                                refine RQ.guardF rfl rfl rfl rfl ?_
                                refine RQ.guardF rfl rfl rfl rfl ?_
                                refine RQ.guardF rfl rfl rfl rfl ?_
                                refine RQ.v rfl (V.pickT (d := Bo true) rfl rfl rfl) ?_
                                refine RQ.nil ?_
                                exact ⟨_, by first | rfl | (simp_all; done) | (simp_all; omega) | grind, rfl, Le.c rfl <| Le.c rfl <| Le.c rfl <| Le.c rfl <| Le.c rfl <| Le.e⟩
                            · intro v50 hv54
                              refine CW.cond rfl (fun h55 => ?_) (fun h55 => ?_)
                              · skip
                                refine CW.seq ?_
                                refine CW.region ?_
                                refine RW.v rfl (V.as (d := Bo false) rfl rfl) ?_
                                refine RW.nil ?_
                                refine CW.le [(2, Bo false)] rfl (Le.c rfl <| Le.e) ?_
                                refine CW.ret ?_
                                exact Post.one (RV.b rfl (by have hl : logOk n.log = true := (by first | (simp_all; done) | grind); have hro : n.role = 0 ∨ n.role = 1 ∨ n.role = 2 := role_of (by first | (simp_all; done) | grind); have hne := peersOkB_ne hl; have heq := peersOkB_eq hl; have hf : pkGo (logLast n.log).1 n.peers (others (confAtS n 1000060) n.id) = false := (by rw [← hr, hdi, hdp, pkGo]; first | (simp_all [pkOk]; done) | grind [pkOk]); clear hr; grind [nodeOk])) (AOs.a rfl AOs.e)
                              · skip
                                refine CW.skip ?_
                                refine CW.le [(1, .obj b1 ((Node.c n).map .r)), (3, I ((logLast n.log).1)), (5, .w (sl 1 cI (others (confAtS n 1000060) n.id)) (g46 0 0)), (6, I (i : Int))] rfl (Le.c rfl <| Le.c rfl <| Le.c rfl <| Le.c rfl <| Le.e) ?_
                                refine CW.region ?_
                                refine RW.v rfl (V.mv (d := I (i : Int)) rfl rfl) ?_
                                refine RW.v rfl (V.inc rfl rfl rfl hii (by have := others_len (confAtS n 1000060) n.id; have := confAtS_len hok 1000060; simp only [maxLen]; first | omega | (simp; done))) ?_
                                refine RW.v rfl (V.as (d := I ((i + 1 : Nat) : Int)) rfl rfl) ?_
                                refine RW.nil ?_
                                exact ⟨i + 1, by omega, ⟨by omega, by rw [← hr, hdi, hdp, pkGo]; first | (simp_all [pkOk]; done) | grind [pkOk]⟩, rfl, Le.c rfl <| Le.c rfl <| Le.c rfl <| Le.c rfl <| Le.e⟩
                          · skip
                            have hii : (others (confAtS n 1000060) n.id).length ≤ i := by have := h48; simp at this; first | exact this | omega | (simp; done) | (simp; omega)
                            have hdi : (others (confAtS n 1000060) n.id).drop i = [] := List.drop_eq_nil_of_le hii
                            refine CW.exit ?_
                            refine CW.le [] rfl (Le.e) ?_
                            refine CW.seq ?_
                            refine CW.region ?_
                            refine RW.v rfl (V.as (d := Bo true) rfl rfl) ?_
                            refine RW.nil ?_
                            refine CW.le [(2, Bo true)] rfl (Le.c rfl <| Le.e) ?_
                            refine CW.ret ?_
                            exact Post.one (RV.b rfl (by have hl : logOk n.log = true := (by first | (simp_all; done) | grind); have hro : n.role = 0 ∨ n.role = 1 ∨ n.role = 2 := role_of (by first | (simp_all; done) | grind); have hne := peersOkB_ne hl; have heq := peersOkB_eq hl; have hf : pkGo (logLast n.log).1 n.peers (others (confAtS n 1000060) n.id) = true := (by rw [← hr, hdi, List.drop_eq_nil_of_le (by omega)]; rfl); clear hr; grind [nodeOk])) (AOs.a rfl AOs.e)
                · skip
                  refine RO.v (ls' := #[true, false, true, true, false, false]) rfl rfl (V.loadPrim (d := I n.id) rfl rfl (.inl rfl) rfl rfl rfl) rfl ?_
                  refine RA.step (L := [1]) (by kernel_rfl) (by simp) (RA.each ?_ (RA.each0))
                  · skip
                    refine RO.call (ls' := #[true, true, true, true, false, false]) rfl rfl (spec_ConfOf_fn n hok) rfl (.cons (.agg (.cons (.r .r) (.cons (.r .r) (.cons (.r .r) (.cons (.r .r) (.cons (.r .r) (.cons (.r .r) (.cons (.r .r) (.cons (.r .r) (.cons (.r .r) (.cons (.r .r) (.cons (.r .r) (.cons (.r .r) (.cons (.r .r) (.cons (.r .r) (.nil)))))))))))))))) (.nil)) rfl fun g56 => ?_
                    refine RA.step (L := [4]) (by kernel_rfl) (by simp) (RA.each ?_ (RA.each0))
                    · skip
                      refine RO.callOwn (ls' := #[true, true, true, true, true, false]) rfl rfl (spec_l18Others_fn (confAtS n 1000060) n.id (confAtS_len hok _)) rfl (.cons (.one (.r (.al (k := none) (i := 102) (sz := 1) (V := (g56 0 0)) rfl rfl nofun))) (.cons (.one (.r .r)) (.nil))) rfl rfl fun g57 => ?_
                      refine RA.step (L := [5]) (by kernel_rfl) (by simp) (RA.each ?_ (RA.each0))
                      · skip
                        refine RO.assignMove (ls' := #[true, true, true, true, true, true]) rfl rfl rfl rfl rfl (by decide) (Nat.le_of_ble_eq_true rfl) (Nat.le_of_ble_eq_true rfl) ?_
                        refine RA.fin (by kernel_rfl) ?_
                        refine CW.le [(1, .obj b1 ((Node.c n).map .r)), (3, I ((logLast n.log).1)), (5, .w (sl 1 cI (others (confAtS n 1000060) n.id)) (g57 0 0))] rfl (Le.c rfl <| Le.c rfl <| Le.c rfl <| Le.e) ?_
                        refine CW.seq ?_
                        refine CW.seq ?_
                        refine CW.region ?_
                        refine RW.v rfl (V.field rfl rfl rfl rfl (by decide) rfl) ?_
                        refine RW.v rfl (V.loadPrim (d := .r (sl 4 Peer.c n.peers)) rfl rfl (.inr ⟨_, rfl⟩) rfl rfl rfl) ?_
                        refine RW.v rfl (V.lenT (n := n.peers.length) rfl rfl rfl .r) ?_
                        refine RW.v rfl (V.mv (d := .al 5 none 1 ((others (confAtS n 1000060) n.id).length) (g57 0 0) 0) rfl rfl) ?_
                        refine RW.v rfl (V.lenT (n := (others (confAtS n 1000060) n.id).length) rfl rfl rfl (.al rfl rfl nofun)) ?_
                        refine RW.v rfl (V.cmpInt rfl rfl rfl rfl) ?_
                        refine RW.nil ?_
                        refine CW.le [(1, .obj b1 ((Node.c n).map .r)), (3, I ((logLast n.log).1)), (5, .w (sl 1 cI (others (confAtS n 1000060) n.id)) (g57 0 0)), (111, Bo ((n.peers.length : Int) != ((others (confAtS n 1000060) n.id).length : Int)))] rfl (Le.c rfl <| Le.c rfl <| Le.c rfl <| Le.c rfl <| Le.e) ?_
                        refine CW.cond rfl (fun h58 => ?_) (fun h58 => ?_)
                        · skip
                          refine CW.seq ?_
                          refine CW.region ?_
                          refine RW.v rfl (V.as (d := Bo false) rfl rfl) ?_
                          refine RW.nil ?_
                          refine CW.le [(2, Bo false)] rfl (Le.c rfl <| Le.e) ?_
                          refine CW.ret ?_
                          exact Post.one (RV.b rfl (by have hl : logOk n.log = true := (by first | (simp_all; done) | grind); have hro : n.role = 0 ∨ n.role = 1 ∨ n.role = 2 := role_of (by first | (simp_all; done) | grind); have hne := peersOkB_ne hl; have heq := peersOkB_eq hl; grind [nodeOk])) (AOs.a rfl AOs.e)
                        · skip
                          refine CW.skip ?_
                          refine CW.le [(1, .obj b1 ((Node.c n).map .r)), (3, I ((logLast n.log).1)), (5, .w (sl 1 cI (others (confAtS n 1000060) n.id)) (g57 0 0))] rfl (Le.c rfl <| Le.c rfl <| Le.c rfl <| Le.e) ?_
                          refine CW.seq ?_
                          refine CW.seq ?_
                          refine CW.region ?_
                          refine RW.v rfl (V.as (d := I 0) rfl rfl) ?_
                          refine RW.nil ?_
                          refine CW.le [(1, .obj b1 ((Node.c n).map .r)), (3, I ((logLast n.log).1)), (5, .w (sl 1 cI (others (confAtS n 1000060) n.id)) (g57 0 0)), (6, I 0)] rfl (Le.c rfl <| Le.c rfl <| Le.c rfl <| Le.c rfl <| Le.e) ?_
                          refine CW.block ?_
                          refine CW.loopI 153 (fun (i : Nat) => [(1, .obj b1 ((Node.c n).map .r)), (3, I ((logLast n.log).1)), (5, .w (sl 1 cI (others (confAtS n 1000060) n.id)) (g57 0 0)), (6, I (i : Int))]) (fun (i : Nat) => i ≤ (others (confAtS n 1000060) n.id).length ∧ pkGo (logLast n.log).1 (n.peers.drop i) ((others (confAtS n 1000060) n.id).drop i) = pkGo (logLast n.log).1 n.peers (others (confAtS n 1000060) n.id)) (fun (i : Nat) => (others (confAtS n 1000060) n.id).length - i) 0 rfl (Le.c rfl <| Le.c rfl <| Le.c rfl <| Le.c rfl <| Le.e) ⟨by omega, by simp⟩ ?_
                          rintro i ⟨hb, hr⟩
                          have hlen : n.peers.length = (others (confAtS n 1000060) n.id).length := by first | (simp_all; done) | grind
                          refine CW.seq ?_
                          refine CW.seq ?_
                          refine CW.region ?_
                          refine RW.v rfl (V.mv (d := I (i : Int)) rfl rfl) ?_
                          refine RW.v rfl (V.mv (d := .al 5 none 1 ((others (confAtS n 1000060) n.id).length) (g57 0 0) 0) rfl rfl) ?_
                          refine RW.v rfl (V.lenT (n := (others (confAtS n 1000060) n.id).length) rfl rfl rfl (.al rfl rfl nofun)) ?_
                          refine RW.v rfl (V.cmpInt rfl rfl rfl rfl) ?_
                          refine RW.nil ?_
                          refine CW.le [(1, .obj b1 ((Node.c n).map .r)), (3, I ((logLast n.log).1)), (5, .w (sl 1 cI (others (confAtS n 1000060) n.id)) (g57 0 0)), (6, I (i : Int)), (115, Bo (decide ((i : Int) < ((others (confAtS n 1000060) n.id).length : Int))))] rfl (Le.c rfl <| Le.c rfl <| Le.c rfl <| Le.c rfl <| Le.c rfl <| Le.e) ?_
                          refine CW.cond rfl (fun h59 => ?_) (fun h59 => ?_)
                          · skip
                            have hii : i < (others (confAtS n 1000060) n.id).length := by have := h59; simp at this; first | exact this | omega | (simp; done) | (simp; omega)
                            obtain ⟨ei, hei⟩ : ∃ e, (others (confAtS n 1000060) n.id)[i]? = some e := ⟨_, List.getElem?_eq_getElem hii⟩
                            have hdi := drop_get hei
                            have hip : i < n.peers.length := by have := hlen; omega
                            obtain ⟨ep, hep⟩ : ∃ e, n.peers[i]? = some e := ⟨_, List.getElem?_eq_getElem hip⟩
                            have hdp := drop_get hep
                            refine CW.skip ?_
                            refine CW.le [(1, .obj b1 ((Node.c n).map .r)), (3, I ((logLast n.log).1)), (5, .w (sl 1 cI (others (confAtS n 1000060) n.id)) (g57 0 0)), (6, I (i : Int))] rfl (Le.c rfl <| Le.c rfl <| Le.c rfl <| Le.c rfl <| Le.e) ?_
                            refine CW.seq ?_
                            refine CW.block ?_
                            refine CW.seq ?_
                            refine CW.region ?_
                            refine RW.v rfl (V.field rfl rfl rfl rfl (by decide) rfl) ?_
                            refine RW.v rfl (V.loadPrim (d := .r (sl 4 Peer.c n.peers)) rfl rfl (.inr ⟨_, rfl⟩) rfl rfl rfl) ?_
                            refine RW.v rfl (V.mv (d := I (i : Int)) rfl rfl) ?_
                            refine RW.v rfl (V.indexS rfl rfl rfl rfl rfl rfl Peer.len hep) ?_
                            refine RW.v rfl (V.loadAggR rfl rfl rfl rfl (Nat.le_of_ble_eq_true rfl)) ?_
                            refine RW.alloc (ds := [I 0, I 0, I 0, I 0]) rfl rfl rfl rfl fun b60 => ?_
                            refine RW.storeAgg (es := ((Peer.c ep).map .r)) rfl rfl rfl rfl rfl rfl rfl rfl (Nat.le_of_ble_eq_true rfl) rfl ?_
                            refine RW.nil ?_
                            refine CW.le [(1, .obj b1 ((Node.c n).map .r)), (3, I ((logLast n.log).1)), (5, .w (sl 1 cI (others (confAtS n 1000060) n.id)) (g57 0 0)), (6, I (i : Int)), (7, .obj b60 ((Peer.c ep).map .r))] rfl (Le.c rfl <| Le.c rfl <| Le.c rfl <| Le.c rfl <| Le.c rfl <| Le.e) ?_
                            refine CW.seqJ 153 (fun (v61 : Bool) => [(1, .obj b1 ((Node.c n).map .r)), (3, I ((logLast n.log).1)), (5, .w (sl 1 cI (others (confAtS n 1000060) n.id)) (g57 0 0)), (6, I (i : Int)), (152, Bo v61)]) (fun v61 => v61 = ((((ep.id != ei) || (!(inR ep.next 1 (IntKind.i64.wrap (((logLast n.log).1) + 1))))) || (!(inR ep.match_ 0 (IntKind.i64.wrap (ep.next - 1))))) || (!(inR ep.sent 0 20000)))) ?_ ?_
                            · refine CW.drawn (by kernel_rfl) ?_
                              refine RQ.v rfl (V.field rfl rfl rfl rfl (by decide) rfl) ?_
                              refine RQ.v rfl (V.loadPrim (d := I ep.id) rfl rfl (.inl rfl) rfl rfl rfl) ?_
                              refine RQ.v rfl (V.mv (d := .al 5 none 1 ((others (confAtS n 1000060) n.id).length) (g57 0 0) 0) rfl rfl) ?_
                              refine RQ.v rfl (V.mv (d := I (i : Int)) rfl rfl) ?_
                              refine RQ.v rfl (V.indexW rfl rfl rfl rfl rfl rfl rfl hii) ?_
                              refine RQ.v rfl (V.loadF (m := i) (off := 0) rfl rfl (.inl rfl) rfl rfl cI.len hei (by decide) rfl) ?_
                              refine RQ.v rfl (V.cmpInt rfl rfl rfl rfl) ?_
                              refine RQ.v rfl (V.mv (d := Bo (ep.id != ei)) rfl rfl) ?_
                              refine RQ.gv rfl rfl rfl rfl (fun h62 => V.field rfl rfl rfl rfl (by decide) rfl) (fun h62 => ?_) (fun h62 => ?_)
                              · skip
                                refine RQ.gt rfl rfl rfl rfl (V.loadPrim (d := I ep.next) rfl rfl (.inl rfl) rfl rfl rfl) ?_
                                refine RQ.gt rfl rfl rfl rfl (V.mv (d := I ((logLast n.log).1)) rfl rfl) ?_
                                refine RQ.gt rfl rfl rfl rfl (V.arInt rfl rfl rfl rfl) ?_
                                refine RQ.guardT rfl rfl rfl rfl (QOK.call (spec_l01In_fn ep.next 1 (IntKind.i64.wrap (((logLast n.log).1) + 1))) rfl (.cons (.one (.r .r)) (.cons (.one (.r .r)) (.cons (.one (.r .r)) (.nil)))) ?_)
                                refine RQ.gt rfl rfl rfl rfl (V.not rfl rfl) ?_
                                refine RQ.v rfl (V.pickF (d := Bo (!(inR ep.next 1 (IntKind.i64.wrap (((logLast n.log).1) + 1))))) rfl rfl rfl) ?_
                                refine RQ.v rfl (V.mv (d := Bo (!(inR ep.next 1 (IntKind.i64.wrap (((logLast n.log).1) + 1))))) rfl rfl) ?_
                                refine RQ.gv rfl rfl rfl rfl (fun h63 => V.field rfl rfl rfl rfl (by decide) rfl) (fun h63 => ?_) (fun h63 => ?_)
                                · skip
                                  refine RQ.gt rfl rfl rfl rfl (V.loadPrim (d := I ep.match_) rfl rfl (.inl rfl) rfl rfl rfl) ?_
                                  refine RQ.gt rfl rfl rfl rfl (V.field rfl rfl rfl rfl (by decide) rfl) ?_
                                  refine RQ.gt rfl rfl rfl rfl (V.loadPrim (d := I ep.next) rfl rfl (.inl rfl) rfl rfl rfl) ?_
                                  refine RQ.gt rfl rfl rfl rfl (V.arInt rfl rfl rfl rfl) ?_
                                  refine RQ.guardT rfl rfl rfl rfl (QOK.call (spec_l01In_fn ep.match_ 0 (IntKind.i64.wrap (ep.next - 1))) rfl (.cons (.one (.r .r)) (.cons (.one (.r .r)) (.cons (.one (.r .r)) (.nil)))) ?_)
                                  refine RQ.gt rfl rfl rfl rfl (V.not rfl rfl) ?_
                                  refine RQ.v rfl (V.pickF (d := Bo (!(inR ep.match_ 0 (IntKind.i64.wrap (ep.next - 1))))) rfl rfl rfl) ?_
                                  refine RQ.v rfl (V.mv (d := Bo (!(inR ep.match_ 0 (IntKind.i64.wrap (ep.next - 1))))) rfl rfl) ?_
                                  refine RQ.gv rfl rfl rfl rfl (fun h64 => V.field rfl rfl rfl rfl (by decide) rfl) (fun h64 => ?_) (fun h64 => ?_)
                                  · skip
                                    refine RQ.gt rfl rfl rfl rfl (V.loadPrim (d := I ep.sent) rfl rfl (.inl rfl) rfl rfl rfl) ?_
                                    refine RQ.guardT rfl rfl rfl rfl (QOK.call (spec_l01In_fn ep.sent 0 20000) rfl (.cons (.one (.r .r)) (.cons (.one (.r .r)) (.cons (.one (.r .r)) (.nil)))) ?_)
                                    refine RQ.gt rfl rfl rfl rfl (V.not rfl rfl) ?_
                                    refine RQ.v rfl (V.pickF (d := Bo (!(inR ep.sent 0 20000))) rfl rfl rfl) ?_
                                    refine RQ.nil ?_
                                    exact ⟨_, by first | rfl | (simp_all; done) | (simp_all; omega) | grind, rfl, Le.c rfl <| Le.c rfl <| Le.c rfl <| Le.c rfl <| Le.c rfl <| Le.e⟩
                                  · skip
                                    refine RQ.guardF rfl rfl rfl rfl ?_
                                    refine RQ.guardF rfl rfl rfl rfl ?_
                                    refine RQ.guardF rfl rfl rfl rfl ?_
                                    refine RQ.v rfl (V.pickT (d := Bo true) rfl rfl rfl) ?_
                                    refine RQ.nil ?_
                                    exact ⟨_, by first | rfl | (simp_all; done) | (simp_all; omega) | grind, rfl, Le.c rfl <| Le.c rfl <| Le.c rfl <| Le.c rfl <| Le.c rfl <| Le.e⟩
                                · skip
                                  refine RQ.guardF rfl rfl rfl rfl ?_
                                  refine RQ.guardF rfl rfl rfl rfl ?_
                                  refine RQ.guardF rfl rfl rfl rfl ?_
                                  refine RQ.guardF rfl rfl rfl rfl ?_
                                  refine RQ.guardF rfl rfl rfl rfl ?_
                                  refine RQ.guardF rfl rfl rfl rfl ?_
                                  refine RQ.v rfl (V.pickT (d := Bo true) rfl rfl rfl) ?_
                                  refine RQ.v rfl (V.mv (d := Bo true) rfl rfl) ?_
                                  refine RQ.guardF rfl rfl rfl rfl ?_
                                  refine RQ.guardF rfl rfl rfl rfl ?_
                                  refine RQ.guardF rfl rfl rfl rfl ?_
                                  refine RQ.guardF rfl rfl rfl rfl ?_
                                  refine RQ.v rfl (V.pickT (d := Bo true) rfl rfl rfl) ?_
                                  refine RQ.nil ?_
                                  exact ⟨_, by first | rfl | (simp_all; done) | (simp_all; omega) | grind, rfl, Le.c rfl <| Le.c rfl <| Le.c rfl <| Le.c rfl <| Le.c rfl <| Le.e⟩
                              · skip
                                refine RQ.guardF rfl rfl rfl rfl ?_
                                refine RQ.guardF rfl rfl rfl rfl ?_
                                refine RQ.guardF rfl rfl rfl rfl ?_
                                refine RQ.guardF rfl rfl rfl rfl ?_
                                refine RQ.guardF rfl rfl rfl rfl ?_
                                refine RQ.v rfl (V.pickT (d := Bo true) rfl rfl rfl) ?_
                                refine RQ.v rfl (V.mv (d := Bo true) rfl rfl) ?_
                                refine RQ.guardF rfl rfl rfl rfl ?_
                                refine RQ.guardF rfl rfl rfl rfl ?_
                                refine RQ.guardF rfl rfl rfl rfl ?_
                                refine RQ.guardF rfl rfl rfl rfl ?_
                                refine RQ.guardF rfl rfl rfl rfl ?_
                                refine RQ.guardF rfl rfl rfl rfl ?_
                                refine RQ.guardF rfl rfl rfl rfl ?_
                                refine RQ.v rfl (V.pickT (d := Bo true) rfl rfl rfl) ?_
                                refine RQ.v rfl (V.mv (d := Bo true) rfl rfl) ?_
                                refine RQ.guardF rfl rfl rfl rfl ?_
                                refine RQ.guardF rfl rfl rfl rfl ?_
                                refine RQ.guardF rfl rfl rfl rfl ?_
                                refine RQ.guardF rfl rfl rfl rfl ?_
                                refine RQ.v rfl (V.pickT (d := Bo true) rfl rfl rfl) ?_
                                refine RQ.nil ?_
                                exact ⟨_, by first | rfl | (simp_all; done) | (simp_all; omega) | grind, rfl, Le.c rfl <| Le.c rfl <| Le.c rfl <| Le.c rfl <| Le.c rfl <| Le.e⟩
                            · intro v61 hv65
                              refine CW.cond rfl (fun h66 => ?_) (fun h66 => ?_)
                              · skip
                                refine CW.seq ?_
                                refine CW.region ?_
                                refine RW.v rfl (V.as (d := Bo false) rfl rfl) ?_
                                refine RW.nil ?_
                                refine CW.le [(2, Bo false)] rfl (Le.c rfl <| Le.e) ?_
                                refine CW.ret ?_
                                exact Post.one (RV.b rfl (by have hl : logOk n.log = true := (by first | (simp_all; done) | grind); have hro : n.role = 0 ∨ n.role = 1 ∨ n.role = 2 := role_of (by first | (simp_all; done) | grind); have hne := peersOkB_ne hl; have heq := peersOkB_eq hl; have hf : pkGo (logLast n.log).1 n.peers (others (confAtS n 1000060) n.id) = false := (by rw [← hr, hdi, hdp, pkGo]; first | (simp_all [pkOk]; done) | grind [pkOk]); clear hr; grind [nodeOk])) (AOs.a rfl AOs.e)
                              · skip
                                refine CW.skip ?_
                                refine CW.le [(1, .obj b1 ((Node.c n).map .r)), (3, I ((logLast n.log).1)), (5, .w (sl 1 cI (others (confAtS n 1000060) n.id)) (g57 0 0)), (6, I (i : Int))] rfl (Le.c rfl <| Le.c rfl <| Le.c rfl <| Le.c rfl <| Le.e) ?_
                                refine CW.region ?_
                                refine RW.v rfl (V.mv (d := I (i : Int)) rfl rfl) ?_
                                refine RW.v rfl (V.inc rfl rfl rfl hii (by have := others_len (confAtS n 1000060) n.id; have := confAtS_len hok 1000060; simp only [maxLen]; first | omega | (simp; done))) ?_
                                refine RW.v rfl (V.as (d := I ((i + 1 : Nat) : Int)) rfl rfl) ?_
                                refine RW.nil ?_
                                exact ⟨i + 1, by omega, ⟨by omega, by rw [← hr, hdi, hdp, pkGo]; first | (simp_all [pkOk]; done) | grind [pkOk]⟩, rfl, Le.c rfl <| Le.c rfl <| Le.c rfl <| Le.c rfl <| Le.e⟩
                          · skip
                            have hii : (others (confAtS n 1000060) n.id).length ≤ i := by have := h59; simp at this; first | exact this | omega | (simp; done) | (simp; omega)
                            have hdi : (others (confAtS n 1000060) n.id).drop i = [] := List.drop_eq_nil_of_le hii
                            refine CW.exit ?_
                            refine CW.le [] rfl (Le.e) ?_
                            refine CW.seq ?_
                            refine CW.region ?_
                            refine RW.v rfl (V.as (d := Bo true) rfl rfl) ?_
                            refine RW.nil ?_
                            refine CW.le [(2, Bo true)] rfl (Le.c rfl <| Le.e) ?_
                            refine CW.ret ?_
                            exact Post.one (RV.b rfl (by have hl : logOk n.log = true := (by first | (simp_all; done) | grind); have hro : n.role = 0 ∨ n.role = 1 ∨ n.role = 2 := role_of (by first | (simp_all; done) | grind); have hne := peersOkB_ne hl; have heq := peersOkB_eq hl; have hf : pkGo (logLast n.log).1 n.peers (others (confAtS n 1000060) n.id) = true := (by rw [← hr, hdi, List.drop_eq_nil_of_le (by omega)]; rfl); clear hr; grind [nodeOk])) (AOs.a rfl AOs.e)
            · skip
              refine RO.v (ls' := #[false, false, true, false, false, false]) rfl rfl (V.field rfl rfl rfl rfl (by decide) rfl) rfl ?_
              refine RA.step (L := [0, 3]) (by kernel_rfl) (by simp) (RA.each ?_ (RA.each ?_ (RA.each0)))
              · skip
                refine RO.v (ls' := #[true, false, true, false, false, false]) rfl rfl (V.loadAgg rfl rfl rfl rfl rfl (Nat.le_of_ble_eq_true rfl)) rfl ?_
                refine RA.step (L := [1, 3]) (by kernel_rfl) (by simp) (RA.each ?_ (RA.each ?_ (RA.each0)))
                · skip
                  refine RO.call (ls' := #[true, true, true, false, false, false]) rfl rfl (spec_ConfOf_fn n hok) rfl (.cons (.agg (.cons (.r .r) (.cons (.r .r) (.cons (.r .r) (.cons (.r .r) (.cons (.r .r) (.cons (.r .r) (.cons (.r .r) (.cons (.r .r) (.cons (.r .r) (.cons (.r .r) (.cons (.r .r) (.cons (.r .r) (.cons (.r .r) (.cons (.r .r) (.nil)))))))))))))))) (.nil)) rfl fun g67 => ?_
                  refine RA.step (L := [3]) (by kernel_rfl) (by simp) (RA.each ?_ (RA.each0))
                  · skip
                    refine RO.v (ls' := #[true, true, true, true, false, false]) rfl rfl (V.loadPrim (d := I n.id) rfl rfl (.inl rfl) rfl rfl rfl) rfl ?_
                    refine RA.step (L := [4]) (by kernel_rfl) (by simp) (RA.each ?_ (RA.each0))
                    · skip
                      refine RO.callOwn (ls' := #[true, true, true, true, true, false]) rfl rfl (spec_l18Others_fn (confAtS n 1000060) n.id (confAtS_len hok _)) rfl (.cons (.one (.r (.al (k := none) (i := 102) (sz := 1) (V := (g67 0 0)) rfl rfl nofun))) (.cons (.one (.r .r)) (.nil))) rfl rfl fun g68 => ?_
                      refine RA.step (L := [5]) (by kernel_rfl) (by simp) (RA.each ?_ (RA.each0))
                      · skip
                        refine RO.assignMove (ls' := #[true, true, true, true, true, true]) rfl rfl rfl rfl rfl (by decide) (Nat.le_of_ble_eq_true rfl) (Nat.le_of_ble_eq_true rfl) ?_
                        refine RA.fin (by kernel_rfl) ?_
                        refine CW.le [(1, .obj b1 ((Node.c n).map .r)), (3, I ((logLast n.log).1)), (5, .w (sl 1 cI (others (confAtS n 1000060) n.id)) (g68 0 0))] rfl (Le.c rfl <| Le.c rfl <| Le.c rfl <| Le.e) ?_
                        refine CW.seq ?_
                        refine CW.seq ?_
                        refine CW.region ?_
                        refine RW.v rfl (V.field rfl rfl rfl rfl (by decide) rfl) ?_
                        refine RW.v rfl (V.loadPrim (d := .r (sl 4 Peer.c n.peers)) rfl rfl (.inr ⟨_, rfl⟩) rfl rfl rfl) ?_
                        refine RW.v rfl (V.lenT (n := n.peers.length) rfl rfl rfl .r) ?_
                        refine RW.v rfl (V.mv (d := .al 5 none 1 ((others (confAtS n 1000060) n.id).length) (g68 0 0) 0) rfl rfl) ?_
                        refine RW.v rfl (V.lenT (n := (others (confAtS n 1000060) n.id).length) rfl rfl rfl (.al rfl rfl nofun)) ?_
                        refine RW.v rfl (V.cmpInt rfl rfl rfl rfl) ?_
                        refine RW.nil ?_
                        refine CW.le [(1, .obj b1 ((Node.c n).map .r)), (3, I ((logLast n.log).1)), (5, .w (sl 1 cI (others (confAtS n 1000060) n.id)) (g68 0 0)), (111, Bo ((n.peers.length : Int) != ((others (confAtS n 1000060) n.id).length : Int)))] rfl (Le.c rfl <| Le.c rfl <| Le.c rfl <| Le.c rfl <| Le.e) ?_
                        refine CW.cond rfl (fun h69 => ?_) (fun h69 => ?_)
                        · skip
                          refine CW.seq ?_
                          refine CW.region ?_
                          refine RW.v rfl (V.as (d := Bo false) rfl rfl) ?_
                          refine RW.nil ?_
                          refine CW.le [(2, Bo false)] rfl (Le.c rfl <| Le.e) ?_
                          refine CW.ret ?_
                          exact Post.one (RV.b rfl (by have hl : logOk n.log = true := (by first | (simp_all; done) | grind); have hro : n.role = 0 ∨ n.role = 1 ∨ n.role = 2 := role_of (by first | (simp_all; done) | grind); have hne := peersOkB_ne hl; have heq := peersOkB_eq hl; grind [nodeOk])) (AOs.a rfl AOs.e)
                        · skip
                          refine CW.skip ?_
                          refine CW.le [(1, .obj b1 ((Node.c n).map .r)), (3, I ((logLast n.log).1)), (5, .w (sl 1 cI (others (confAtS n 1000060) n.id)) (g68 0 0))] rfl (Le.c rfl <| Le.c rfl <| Le.c rfl <| Le.e) ?_
                          refine CW.seq ?_
                          refine CW.seq ?_
                          refine CW.region ?_
                          refine RW.v rfl (V.as (d := I 0) rfl rfl) ?_
                          refine RW.nil ?_
                          refine CW.le [(1, .obj b1 ((Node.c n).map .r)), (3, I ((logLast n.log).1)), (5, .w (sl 1 cI (others (confAtS n 1000060) n.id)) (g68 0 0)), (6, I 0)] rfl (Le.c rfl <| Le.c rfl <| Le.c rfl <| Le.c rfl <| Le.e) ?_
                          refine CW.block ?_
                          refine CW.loopI 153 (fun (i : Nat) => [(1, .obj b1 ((Node.c n).map .r)), (3, I ((logLast n.log).1)), (5, .w (sl 1 cI (others (confAtS n 1000060) n.id)) (g68 0 0)), (6, I (i : Int))]) (fun (i : Nat) => i ≤ (others (confAtS n 1000060) n.id).length ∧ pkGo (logLast n.log).1 (n.peers.drop i) ((others (confAtS n 1000060) n.id).drop i) = pkGo (logLast n.log).1 n.peers (others (confAtS n 1000060) n.id)) (fun (i : Nat) => (others (confAtS n 1000060) n.id).length - i) 0 rfl (Le.c rfl <| Le.c rfl <| Le.c rfl <| Le.c rfl <| Le.e) ⟨by omega, by simp⟩ ?_
                          rintro i ⟨hb, hr⟩
                          have hlen : n.peers.length = (others (confAtS n 1000060) n.id).length := by first | (simp_all; done) | grind
                          refine CW.seq ?_
                          refine CW.seq ?_
                          refine CW.region ?_
                          refine RW.v rfl (V.mv (d := I (i : Int)) rfl rfl) ?_
                          refine RW.v rfl (V.mv (d := .al 5 none 1 ((others (confAtS n 1000060) n.id).length) (g68 0 0) 0) rfl rfl) ?_
                          refine RW.v rfl (V.lenT (n := (others (confAtS n 1000060) n.id).length) rfl rfl rfl (.al rfl rfl nofun)) ?_
                          refine RW.v rfl (V.cmpInt rfl rfl rfl rfl) ?_
                          refine RW.nil ?_
                          refine CW.le [(1, .obj b1 ((Node.c n).map .r)), (3, I ((logLast n.log).1)), (5, .w (sl 1 cI (others (confAtS n 1000060) n.id)) (g68 0 0)), (6, I (i : Int)), (115, Bo (decide ((i : Int) < ((others (confAtS n 1000060) n.id).length : Int))))] rfl (Le.c rfl <| Le.c rfl <| Le.c rfl <| Le.c rfl <| Le.c rfl <| Le.e) ?_
                          refine CW.cond rfl (fun h70 => ?_) (fun h70 => ?_)
                          · skip
                            have hii : i < (others (confAtS n 1000060) n.id).length := by have := h70; simp at this; first | exact this | omega | (simp; done) | (simp; omega)
                            obtain ⟨ei, hei⟩ : ∃ e, (others (confAtS n 1000060) n.id)[i]? = some e := ⟨_, List.getElem?_eq_getElem hii⟩
                            have hdi := drop_get hei
                            have hip : i < n.peers.length := by have := hlen; omega
                            obtain ⟨ep, hep⟩ : ∃ e, n.peers[i]? = some e := ⟨_, List.getElem?_eq_getElem hip⟩
                            have hdp := drop_get hep
                            refine CW.skip ?_
                            refine CW.le [(1, .obj b1 ((Node.c n).map .r)), (3, I ((logLast n.log).1)), (5, .w (sl 1 cI (others (confAtS n 1000060) n.id)) (g68 0 0)), (6, I (i : Int))] rfl (Le.c rfl <| Le.c rfl <| Le.c rfl <| Le.c rfl <| Le.e) ?_
                            refine CW.seq ?_
                            refine CW.block ?_
                            refine CW.seq ?_
                            refine CW.region ?_
                            refine RW.v rfl (V.field rfl rfl rfl rfl (by decide) rfl) ?_
                            refine RW.v rfl (V.loadPrim (d := .r (sl 4 Peer.c n.peers)) rfl rfl (.inr ⟨_, rfl⟩) rfl rfl rfl) ?_
                            refine RW.v rfl (V.mv (d := I (i : Int)) rfl rfl) ?_
                            refine RW.v rfl (V.indexS rfl rfl rfl rfl rfl rfl Peer.len hep) ?_
                            refine RW.v rfl (V.loadAggR rfl rfl rfl rfl (Nat.le_of_ble_eq_true rfl)) ?_
                            refine RW.alloc (ds := [I 0, I 0, I 0, I 0]) rfl rfl rfl rfl fun b71 => ?_
                            refine RW.storeAgg (es := ((Peer.c ep).map .r)) rfl rfl rfl rfl rfl rfl rfl rfl (Nat.le_of_ble_eq_true rfl) rfl ?_
                            refine RW.nil ?_
                            refine CW.le [(1, .obj b1 ((Node.c n).map .r)), (3, I ((logLast n.log).1)), (5, .w (sl 1 cI (others (confAtS n 1000060) n.id)) (g68 0 0)), (6, I (i : Int)), (7, .obj b71 ((Peer.c ep).map .r))] rfl (Le.c rfl <| Le.c rfl <| Le.c rfl <| Le.c rfl <| Le.c rfl <| Le.e) ?_
                            refine CW.seqJ 153 (fun (v72 : Bool) => [(1, .obj b1 ((Node.c n).map .r)), (3, I ((logLast n.log).1)), (5, .w (sl 1 cI (others (confAtS n 1000060) n.id)) (g68 0 0)), (6, I (i : Int)), (152, Bo v72)]) (fun v72 => v72 = ((((ep.id != ei) || (!(inR ep.next 1 (IntKind.i64.wrap (((logLast n.log).1) + 1))))) || (!(inR ep.match_ 0 (IntKind.i64.wrap (ep.next - 1))))) || (!(inR ep.sent 0 20000)))) ?_ ?_
                            · refine CW.drawn (by kernel_rfl) ?_
                              refine RQ.v rfl (V.field rfl rfl rfl rfl (by decide) rfl) ?_
                              refine RQ.v rfl (V.loadPrim (d := I ep.id) rfl rfl (.inl rfl) rfl rfl rfl) ?_
                              refine RQ.v rfl (V.mv (d := .al 5 none 1 ((others (confAtS n 1000060) n.id).length) (g68 0 0) 0) rfl rfl) ?_
                              refine RQ.v rfl (V.mv (d := I (i : Int)) rfl rfl) ?_
                              refine RQ.v rfl (V.indexW rfl rfl rfl rfl rfl rfl rfl hii) ?_
                              refine RQ.v rfl (V.loadF (m := i) (off := 0) rfl rfl (.inl rfl) rfl rfl cI.len hei (by decide) rfl) ?_
                              refine RQ.v rfl (V.cmpInt rfl rfl rfl rfl) ?_
                              refine RQ.v rfl (V.mv (d := Bo (ep.id != ei)) rfl rfl) ?_
                              refine RQ.gv rfl rfl rfl rfl (fun h73 => V.field rfl rfl rfl rfl (by decide) rfl) (fun h73 => ?_) (fun h73 => ?_)
                              · skip
                                refine RQ.gt rfl rfl rfl rfl (V.loadPrim (d := I ep.next) rfl rfl (.inl rfl) rfl rfl rfl) ?_
                                refine RQ.gt rfl rfl rfl rfl (V.mv (d := I ((logLast n.log).1)) rfl rfl) ?_
                                refine RQ.gt rfl rfl rfl rfl (V.arInt rfl rfl rfl rfl) ?_
                                refine RQ.guardT rfl rfl rfl rfl (QOK.call (spec_l01In_fn ep.next 1 (IntKind.i64.wrap (((logLast n.log).1) + 1))) rfl (.cons (.one (.r .r)) (.cons (.one (.r .r)) (.cons (.one (.r .r)) (.nil)))) ?_)
                                refine RQ.gt rfl rfl rfl rfl (V.not rfl rfl) ?_
                                refine RQ.v rfl (V.pickF (d := Bo (!(inR ep.next 1 (IntKind.i64.wrap (((logLast n.log).1) + 1))))) rfl rfl rfl) ?_
                                refine RQ.v rfl (V.mv (d := Bo (!(inR ep.next 1 (IntKind.i64.wrap (((logLast n.log).1) + 1))))) rfl rfl) ?_
                                refine RQ.gv rfl rfl rfl rfl (fun h74 => V.field rfl rfl rfl rfl (by decide) rfl) (fun h74 => ?_) (fun h74 => ?_)
                                · skip
                                  refine RQ.gt rfl rfl rfl rfl (V.loadPrim (d := I ep.match_) rfl rfl (.inl rfl) rfl rfl rfl) ?_
                                  refine RQ.gt rfl rfl rfl rfl (V.field rfl rfl rfl rfl (by decide) rfl) ?_
                                  refine RQ.gt rfl rfl rfl rfl (V.loadPrim (d := I ep.next) rfl rfl (.inl rfl) rfl rfl rfl) ?_
                                  refine RQ.gt rfl rfl rfl rfl (V.arInt rfl rfl rfl rfl) ?_
                                  refine RQ.guardT rfl rfl rfl rfl (QOK.call (spec_l01In_fn ep.match_ 0 (IntKind.i64.wrap (ep.next - 1))) rfl (.cons (.one (.r .r)) (.cons (.one (.r .r)) (.cons (.one (.r .r)) (.nil)))) ?_)
                                  refine RQ.gt rfl rfl rfl rfl (V.not rfl rfl) ?_
                                  refine RQ.v rfl (V.pickF (d := Bo (!(inR ep.match_ 0 (IntKind.i64.wrap (ep.next - 1))))) rfl rfl rfl) ?_
                                  refine RQ.v rfl (V.mv (d := Bo (!(inR ep.match_ 0 (IntKind.i64.wrap (ep.next - 1))))) rfl rfl) ?_
                                  refine RQ.gv rfl rfl rfl rfl (fun h75 => V.field rfl rfl rfl rfl (by decide) rfl) (fun h75 => ?_) (fun h75 => ?_)
                                  · skip
                                    refine RQ.gt rfl rfl rfl rfl (V.loadPrim (d := I ep.sent) rfl rfl (.inl rfl) rfl rfl rfl) ?_
                                    refine RQ.guardT rfl rfl rfl rfl (QOK.call (spec_l01In_fn ep.sent 0 20000) rfl (.cons (.one (.r .r)) (.cons (.one (.r .r)) (.cons (.one (.r .r)) (.nil)))) ?_)
                                    refine RQ.gt rfl rfl rfl rfl (V.not rfl rfl) ?_
                                    refine RQ.v rfl (V.pickF (d := Bo (!(inR ep.sent 0 20000))) rfl rfl rfl) ?_
                                    refine RQ.nil ?_
                                    exact ⟨_, by first | rfl | (simp_all; done) | (simp_all; omega) | grind, rfl, Le.c rfl <| Le.c rfl <| Le.c rfl <| Le.c rfl <| Le.c rfl <| Le.e⟩
                                  · skip
                                    refine RQ.guardF rfl rfl rfl rfl ?_
                                    refine RQ.guardF rfl rfl rfl rfl ?_
                                    refine RQ.guardF rfl rfl rfl rfl ?_
                                    refine RQ.v rfl (V.pickT (d := Bo true) rfl rfl rfl) ?_
                                    refine RQ.nil ?_
                                    exact ⟨_, by first | rfl | (simp_all; done) | (simp_all; omega) | grind, rfl, Le.c rfl <| Le.c rfl <| Le.c rfl <| Le.c rfl <| Le.c rfl <| Le.e⟩
                                · skip
                                  refine RQ.guardF rfl rfl rfl rfl ?_
                                  refine RQ.guardF rfl rfl rfl rfl ?_
                                  refine RQ.guardF rfl rfl rfl rfl ?_
                                  refine RQ.guardF rfl rfl rfl rfl ?_
                                  refine RQ.guardF rfl rfl rfl rfl ?_
                                  refine RQ.guardF rfl rfl rfl rfl ?_
                                  refine RQ.v rfl (V.pickT (d := Bo true) rfl rfl rfl) ?_
                                  refine RQ.v rfl (V.mv (d := Bo true) rfl rfl) ?_
                                  refine RQ.guardF rfl rfl rfl rfl ?_
                                  refine RQ.guardF rfl rfl rfl rfl ?_
                                  refine RQ.guardF rfl rfl rfl rfl ?_
                                  refine RQ.guardF rfl rfl rfl rfl ?_
                                  refine RQ.v rfl (V.pickT (d := Bo true) rfl rfl rfl) ?_
                                  refine RQ.nil ?_
                                  exact ⟨_, by first | rfl | (simp_all; done) | (simp_all; omega) | grind, rfl, Le.c rfl <| Le.c rfl <| Le.c rfl <| Le.c rfl <| Le.c rfl <| Le.e⟩
                              · skip
                                refine RQ.guardF rfl rfl rfl rfl ?_
                                refine RQ.guardF rfl rfl rfl rfl ?_
                                refine RQ.guardF rfl rfl rfl rfl ?_
                                refine RQ.guardF rfl rfl rfl rfl ?_
                                refine RQ.guardF rfl rfl rfl rfl ?_
                                refine RQ.v rfl (V.pickT (d := Bo true) rfl rfl rfl) ?_
                                refine RQ.v rfl (V.mv (d := Bo true) rfl rfl) ?_
                                refine RQ.guardF rfl rfl rfl rfl ?_
                                refine RQ.guardF rfl rfl rfl rfl ?_
                                refine RQ.guardF rfl rfl rfl rfl ?_
                                refine RQ.guardF rfl rfl rfl rfl ?_
                                refine RQ.guardF rfl rfl rfl rfl ?_
                                refine RQ.guardF rfl rfl rfl rfl ?_
                                refine RQ.guardF rfl rfl rfl rfl ?_
                                refine RQ.v rfl (V.pickT (d := Bo true) rfl rfl rfl) ?_
                                refine RQ.v rfl (V.mv (d := Bo true) rfl rfl) ?_
                                refine RQ.guardF rfl rfl rfl rfl ?_
                                refine RQ.guardF rfl rfl rfl rfl ?_
                                refine RQ.guardF rfl rfl rfl rfl ?_
                                refine RQ.guardF rfl rfl rfl rfl ?_
                                refine RQ.v rfl (V.pickT (d := Bo true) rfl rfl rfl) ?_
                                refine RQ.nil ?_
                                exact ⟨_, by first | rfl | (simp_all; done) | (simp_all; omega) | grind, rfl, Le.c rfl <| Le.c rfl <| Le.c rfl <| Le.c rfl <| Le.c rfl <| Le.e⟩
                            · intro v72 hv76
                              refine CW.cond rfl (fun h77 => ?_) (fun h77 => ?_)
                              · skip
                                refine CW.seq ?_
                                refine CW.region ?_
                                refine RW.v rfl (V.as (d := Bo false) rfl rfl) ?_
                                refine RW.nil ?_
                                refine CW.le [(2, Bo false)] rfl (Le.c rfl <| Le.e) ?_
                                refine CW.ret ?_
                                exact Post.one (RV.b rfl (by have hl : logOk n.log = true := (by first | (simp_all; done) | grind); have hro : n.role = 0 ∨ n.role = 1 ∨ n.role = 2 := role_of (by first | (simp_all; done) | grind); have hne := peersOkB_ne hl; have heq := peersOkB_eq hl; have hf : pkGo (logLast n.log).1 n.peers (others (confAtS n 1000060) n.id) = false := (by rw [← hr, hdi, hdp, pkGo]; first | (simp_all [pkOk]; done) | grind [pkOk]); clear hr; grind [nodeOk])) (AOs.a rfl AOs.e)
                              · skip
                                refine CW.skip ?_
                                refine CW.le [(1, .obj b1 ((Node.c n).map .r)), (3, I ((logLast n.log).1)), (5, .w (sl 1 cI (others (confAtS n 1000060) n.id)) (g68 0 0)), (6, I (i : Int))] rfl (Le.c rfl <| Le.c rfl <| Le.c rfl <| Le.c rfl <| Le.e) ?_
                                refine CW.region ?_
                                refine RW.v rfl (V.mv (d := I (i : Int)) rfl rfl) ?_
                                refine RW.v rfl (V.inc rfl rfl rfl hii (by have := others_len (confAtS n 1000060) n.id; have := confAtS_len hok 1000060; simp only [maxLen]; first | omega | (simp; done))) ?_
                                refine RW.v rfl (V.as (d := I ((i + 1 : Nat) : Int)) rfl rfl) ?_
                                refine RW.nil ?_
                                exact ⟨i + 1, by omega, ⟨by omega, by rw [← hr, hdi, hdp, pkGo]; first | (simp_all [pkOk]; done) | grind [pkOk]⟩, rfl, Le.c rfl <| Le.c rfl <| Le.c rfl <| Le.c rfl <| Le.e⟩
                          · skip
                            have hii : (others (confAtS n 1000060) n.id).length ≤ i := by have := h70; simp at this; first | exact this | omega | (simp; done) | (simp; omega)
                            have hdi : (others (confAtS n 1000060) n.id).drop i = [] := List.drop_eq_nil_of_le hii
                            refine CW.exit ?_
                            refine CW.le [] rfl (Le.e) ?_
                            refine CW.seq ?_
                            refine CW.region ?_
                            refine RW.v rfl (V.as (d := Bo true) rfl rfl) ?_
                            refine RW.nil ?_
                            refine CW.le [(2, Bo true)] rfl (Le.c rfl <| Le.e) ?_
                            refine CW.ret ?_
                            exact Post.one (RV.b rfl (by have hl : logOk n.log = true := (by first | (simp_all; done) | grind); have hro : n.role = 0 ∨ n.role = 1 ∨ n.role = 2 := role_of (by first | (simp_all; done) | grind); have hne := peersOkB_ne hl; have heq := peersOkB_eq hl; have hf : pkGo (logLast n.log).1 n.peers (others (confAtS n 1000060) n.id) = true := (by rw [← hr, hdi, List.drop_eq_nil_of_le (by omega)]; rfl); clear hr; grind [nodeOk])) (AOs.a rfl AOs.e)
                · skip
                  refine RO.v (ls' := #[true, false, true, true, false, false]) rfl rfl (V.loadPrim (d := I n.id) rfl rfl (.inl rfl) rfl rfl rfl) rfl ?_
                  refine RA.step (L := [1]) (by kernel_rfl) (by simp) (RA.each ?_ (RA.each0))
                  · skip
                    refine RO.call (ls' := #[true, true, true, true, false, false]) rfl rfl (spec_ConfOf_fn n hok) rfl (.cons (.agg (.cons (.r .r) (.cons (.r .r) (.cons (.r .r) (.cons (.r .r) (.cons (.r .r) (.cons (.r .r) (.cons (.r .r) (.cons (.r .r) (.cons (.r .r) (.cons (.r .r) (.cons (.r .r) (.cons (.r .r) (.cons (.r .r) (.cons (.r .r) (.nil)))))))))))))))) (.nil)) rfl fun g78 => ?_
                    refine RA.step (L := [4]) (by kernel_rfl) (by simp) (RA.each ?_ (RA.each0))
                    · skip
                      refine RO.callOwn (ls' := #[true, true, true, true, true, false]) rfl rfl (spec_l18Others_fn (confAtS n 1000060) n.id (confAtS_len hok _)) rfl (.cons (.one (.r (.al (k := none) (i := 102) (sz := 1) (V := (g78 0 0)) rfl rfl nofun))) (.cons (.one (.r .r)) (.nil))) rfl rfl fun g79 => ?_
                      refine RA.step (L := [5]) (by kernel_rfl) (by simp) (RA.each ?_ (RA.each0))
                      · skip
                        refine RO.assignMove (ls' := #[true, true, true, true, true, true]) rfl rfl rfl rfl rfl (by decide) (Nat.le_of_ble_eq_true rfl) (Nat.le_of_ble_eq_true rfl) ?_
                        refine RA.fin (by kernel_rfl) ?_
                        refine CW.le [(1, .obj b1 ((Node.c n).map .r)), (3, I ((logLast n.log).1)), (5, .w (sl 1 cI (others (confAtS n 1000060) n.id)) (g79 0 0))] rfl (Le.c rfl <| Le.c rfl <| Le.c rfl <| Le.e) ?_
                        refine CW.seq ?_
                        refine CW.seq ?_
                        refine CW.region ?_
                        refine RW.v rfl (V.field rfl rfl rfl rfl (by decide) rfl) ?_
                        refine RW.v rfl (V.loadPrim (d := .r (sl 4 Peer.c n.peers)) rfl rfl (.inr ⟨_, rfl⟩) rfl rfl rfl) ?_
                        refine RW.v rfl (V.lenT (n := n.peers.length) rfl rfl rfl .r) ?_
                        refine RW.v rfl (V.mv (d := .al 5 none 1 ((others (confAtS n 1000060) n.id).length) (g79 0 0) 0) rfl rfl) ?_
                        refine RW.v rfl (V.lenT (n := (others (confAtS n 1000060) n.id).length) rfl rfl rfl (.al rfl rfl nofun)) ?_
                        refine RW.v rfl (V.cmpInt rfl rfl rfl rfl) ?_
                        refine RW.nil ?_
                        refine CW.le [(1, .obj b1 ((Node.c n).map .r)), (3, I ((logLast n.log).1)), (5, .w (sl 1 cI (others (confAtS n 1000060) n.id)) (g79 0 0)), (111, Bo ((n.peers.length : Int) != ((others (confAtS n 1000060) n.id).length : Int)))] rfl (Le.c rfl <| Le.c rfl <| Le.c rfl <| Le.c rfl <| Le.e) ?_
                        refine CW.cond rfl (fun h80 => ?_) (fun h80 => ?_)
                        · skip
                          refine CW.seq ?_
                          refine CW.region ?_
                          refine RW.v rfl (V.as (d := Bo false) rfl rfl) ?_
                          refine RW.nil ?_
                          refine CW.le [(2, Bo false)] rfl (Le.c rfl <| Le.e) ?_
                          refine CW.ret ?_
                          exact Post.one (RV.b rfl (by have hl : logOk n.log = true := (by first | (simp_all; done) | grind); have hro : n.role = 0 ∨ n.role = 1 ∨ n.role = 2 := role_of (by first | (simp_all; done) | grind); have hne := peersOkB_ne hl; have heq := peersOkB_eq hl; grind [nodeOk])) (AOs.a rfl AOs.e)
                        · skip
                          refine CW.skip ?_
                          refine CW.le [(1, .obj b1 ((Node.c n).map .r)), (3, I ((logLast n.log).1)), (5, .w (sl 1 cI (others (confAtS n 1000060) n.id)) (g79 0 0))] rfl (Le.c rfl <| Le.c rfl <| Le.c rfl <| Le.e) ?_
                          refine CW.seq ?_
                          refine CW.seq ?_
                          refine CW.region ?_
                          refine RW.v rfl (V.as (d := I 0) rfl rfl) ?_
                          refine RW.nil ?_
                          refine CW.le [(1, .obj b1 ((Node.c n).map .r)), (3, I ((logLast n.log).1)), (5, .w (sl 1 cI (others (confAtS n 1000060) n.id)) (g79 0 0)), (6, I 0)] rfl (Le.c rfl <| Le.c rfl <| Le.c rfl <| Le.c rfl <| Le.e) ?_
                          refine CW.block ?_
                          refine CW.loopI 153 (fun (i : Nat) => [(1, .obj b1 ((Node.c n).map .r)), (3, I ((logLast n.log).1)), (5, .w (sl 1 cI (others (confAtS n 1000060) n.id)) (g79 0 0)), (6, I (i : Int))]) (fun (i : Nat) => i ≤ (others (confAtS n 1000060) n.id).length ∧ pkGo (logLast n.log).1 (n.peers.drop i) ((others (confAtS n 1000060) n.id).drop i) = pkGo (logLast n.log).1 n.peers (others (confAtS n 1000060) n.id)) (fun (i : Nat) => (others (confAtS n 1000060) n.id).length - i) 0 rfl (Le.c rfl <| Le.c rfl <| Le.c rfl <| Le.c rfl <| Le.e) ⟨by omega, by simp⟩ ?_
                          rintro i ⟨hb, hr⟩
                          have hlen : n.peers.length = (others (confAtS n 1000060) n.id).length := by first | (simp_all; done) | grind
                          refine CW.seq ?_
                          refine CW.seq ?_
                          refine CW.region ?_
                          refine RW.v rfl (V.mv (d := I (i : Int)) rfl rfl) ?_
                          refine RW.v rfl (V.mv (d := .al 5 none 1 ((others (confAtS n 1000060) n.id).length) (g79 0 0) 0) rfl rfl) ?_
                          refine RW.v rfl (V.lenT (n := (others (confAtS n 1000060) n.id).length) rfl rfl rfl (.al rfl rfl nofun)) ?_
                          refine RW.v rfl (V.cmpInt rfl rfl rfl rfl) ?_
                          refine RW.nil ?_
                          refine CW.le [(1, .obj b1 ((Node.c n).map .r)), (3, I ((logLast n.log).1)), (5, .w (sl 1 cI (others (confAtS n 1000060) n.id)) (g79 0 0)), (6, I (i : Int)), (115, Bo (decide ((i : Int) < ((others (confAtS n 1000060) n.id).length : Int))))] rfl (Le.c rfl <| Le.c rfl <| Le.c rfl <| Le.c rfl <| Le.c rfl <| Le.e) ?_
                          refine CW.cond rfl (fun h81 => ?_) (fun h81 => ?_)
                          · skip
                            have hii : i < (others (confAtS n 1000060) n.id).length := by have := h81; simp at this; first | exact this | omega | (simp; done) | (simp; omega)
                            obtain ⟨ei, hei⟩ : ∃ e, (others (confAtS n 1000060) n.id)[i]? = some e := ⟨_, List.getElem?_eq_getElem hii⟩
                            have hdi := drop_get hei
                            have hip : i < n.peers.length := by have := hlen; omega
                            obtain ⟨ep, hep⟩ : ∃ e, n.peers[i]? = some e := ⟨_, List.getElem?_eq_getElem hip⟩
                            have hdp := drop_get hep
                            refine CW.skip ?_
                            refine CW.le [(1, .obj b1 ((Node.c n).map .r)), (3, I ((logLast n.log).1)), (5, .w (sl 1 cI (others (confAtS n 1000060) n.id)) (g79 0 0)), (6, I (i : Int))] rfl (Le.c rfl <| Le.c rfl <| Le.c rfl <| Le.c rfl <| Le.e) ?_
                            refine CW.seq ?_
                            refine CW.block ?_
                            refine CW.seq ?_
                            refine CW.region ?_
                            refine RW.v rfl (V.field rfl rfl rfl rfl (by decide) rfl) ?_
                            refine RW.v rfl (V.loadPrim (d := .r (sl 4 Peer.c n.peers)) rfl rfl (.inr ⟨_, rfl⟩) rfl rfl rfl) ?_
                            refine RW.v rfl (V.mv (d := I (i : Int)) rfl rfl) ?_
                            refine RW.v rfl (V.indexS rfl rfl rfl rfl rfl rfl Peer.len hep) ?_
                            refine RW.v rfl (V.loadAggR rfl rfl rfl rfl (Nat.le_of_ble_eq_true rfl)) ?_
                            refine RW.alloc (ds := [I 0, I 0, I 0, I 0]) rfl rfl rfl rfl fun b82 => ?_
                            refine RW.storeAgg (es := ((Peer.c ep).map .r)) rfl rfl rfl rfl rfl rfl rfl rfl (Nat.le_of_ble_eq_true rfl) rfl ?_
                            refine RW.nil ?_
                            refine CW.le [(1, .obj b1 ((Node.c n).map .r)), (3, I ((logLast n.log).1)), (5, .w (sl 1 cI (others (confAtS n 1000060) n.id)) (g79 0 0)), (6, I (i : Int)), (7, .obj b82 ((Peer.c ep).map .r))] rfl (Le.c rfl <| Le.c rfl <| Le.c rfl <| Le.c rfl <| Le.c rfl <| Le.e) ?_
                            refine CW.seqJ 153 (fun (v83 : Bool) => [(1, .obj b1 ((Node.c n).map .r)), (3, I ((logLast n.log).1)), (5, .w (sl 1 cI (others (confAtS n 1000060) n.id)) (g79 0 0)), (6, I (i : Int)), (152, Bo v83)]) (fun v83 => v83 = ((((ep.id != ei) || (!(inR ep.next 1 (IntKind.i64.wrap (((logLast n.log).1) + 1))))) || (!(inR ep.match_ 0 (IntKind.i64.wrap (ep.next - 1))))) || (!(inR ep.sent 0 20000)))) ?_ ?_
                            · refine CW.drawn (by kernel_rfl) ?_
                              refine RQ.v rfl (V.field rfl rfl rfl rfl (by decide) rfl) ?_
                              refine RQ.v rfl (V.loadPrim (d := I ep.id) rfl rfl (.inl rfl) rfl rfl rfl) ?_
                              refine RQ.v rfl (V.mv (d := .al 5 none 1 ((others (confAtS n 1000060) n.id).length) (g79 0 0) 0) rfl rfl) ?_
                              refine RQ.v rfl (V.mv (d := I (i : Int)) rfl rfl) ?_
                              refine RQ.v rfl (V.indexW rfl rfl rfl rfl rfl rfl rfl hii) ?_
                              refine RQ.v rfl (V.loadF (m := i) (off := 0) rfl rfl (.inl rfl) rfl rfl cI.len hei (by decide) rfl) ?_
                              refine RQ.v rfl (V.cmpInt rfl rfl rfl rfl) ?_
                              refine RQ.v rfl (V.mv (d := Bo (ep.id != ei)) rfl rfl) ?_
                              refine RQ.gv rfl rfl rfl rfl (fun h84 => V.field rfl rfl rfl rfl (by decide) rfl) (fun h84 => ?_) (fun h84 => ?_)
                              · skip
                                refine RQ.gt rfl rfl rfl rfl (V.loadPrim (d := I ep.next) rfl rfl (.inl rfl) rfl rfl rfl) ?_
                                refine RQ.gt rfl rfl rfl rfl (V.mv (d := I ((logLast n.log).1)) rfl rfl) ?_
                                refine RQ.gt rfl rfl rfl rfl (V.arInt rfl rfl rfl rfl) ?_
                                refine RQ.guardT rfl rfl rfl rfl (QOK.call (spec_l01In_fn ep.next 1 (IntKind.i64.wrap (((logLast n.log).1) + 1))) rfl (.cons (.one (.r .r)) (.cons (.one (.r .r)) (.cons (.one (.r .r)) (.nil)))) ?_)
                                refine RQ.gt rfl rfl rfl rfl (V.not rfl rfl) ?_
                                refine RQ.v rfl (V.pickF (d := Bo (!(inR ep.next 1 (IntKind.i64.wrap (((logLast n.log).1) + 1))))) rfl rfl rfl) ?_
                                refine RQ.v rfl (V.mv (d := Bo (!(inR ep.next 1 (IntKind.i64.wrap (((logLast n.log).1) + 1))))) rfl rfl) ?_
                                refine RQ.gv rfl rfl rfl rfl (fun h85 => V.field rfl rfl rfl rfl (by decide) rfl) (fun h85 => ?_) (fun h85 => ?_)
                                · skip
                                  refine RQ.gt rfl rfl rfl rfl (V.loadPrim (d := I ep.match_) rfl rfl (.inl rfl) rfl rfl rfl) ?_
                                  refine RQ.gt rfl rfl rfl rfl (V.field rfl rfl rfl rfl (by decide) rfl) ?_
                                  refine RQ.gt rfl rfl rfl rfl (V.loadPrim (d := I ep.next) rfl rfl (.inl rfl) rfl rfl rfl) ?_
                                  refine RQ.gt rfl rfl rfl rfl (V.arInt rfl rfl rfl rfl) ?_
                                  refine RQ.guardT rfl rfl rfl rfl (QOK.call (spec_l01In_fn ep.match_ 0 (IntKind.i64.wrap (ep.next - 1))) rfl (.cons (.one (.r .r)) (.cons (.one (.r .r)) (.cons (.one (.r .r)) (.nil)))) ?_)
                                  refine RQ.gt rfl rfl rfl rfl (V.not rfl rfl) ?_
                                  refine RQ.v rfl (V.pickF (d := Bo (!(inR ep.match_ 0 (IntKind.i64.wrap (ep.next - 1))))) rfl rfl rfl) ?_
                                  refine RQ.v rfl (V.mv (d := Bo (!(inR ep.match_ 0 (IntKind.i64.wrap (ep.next - 1))))) rfl rfl) ?_
                                  refine RQ.gv rfl rfl rfl rfl (fun h86 => V.field rfl rfl rfl rfl (by decide) rfl) (fun h86 => ?_) (fun h86 => ?_)
                                  · skip
                                    refine RQ.gt rfl rfl rfl rfl (V.loadPrim (d := I ep.sent) rfl rfl (.inl rfl) rfl rfl rfl) ?_
                                    refine RQ.guardT rfl rfl rfl rfl (QOK.call (spec_l01In_fn ep.sent 0 20000) rfl (.cons (.one (.r .r)) (.cons (.one (.r .r)) (.cons (.one (.r .r)) (.nil)))) ?_)
                                    refine RQ.gt rfl rfl rfl rfl (V.not rfl rfl) ?_
                                    refine RQ.v rfl (V.pickF (d := Bo (!(inR ep.sent 0 20000))) rfl rfl rfl) ?_
                                    refine RQ.nil ?_
                                    exact ⟨_, by first | rfl | (simp_all; done) | (simp_all; omega) | grind, rfl, Le.c rfl <| Le.c rfl <| Le.c rfl <| Le.c rfl <| Le.c rfl <| Le.e⟩
                                  · skip
                                    refine RQ.guardF rfl rfl rfl rfl ?_
                                    refine RQ.guardF rfl rfl rfl rfl ?_
                                    refine RQ.guardF rfl rfl rfl rfl ?_
                                    refine RQ.v rfl (V.pickT (d := Bo true) rfl rfl rfl) ?_
                                    refine RQ.nil ?_
                                    exact ⟨_, by first | rfl | (simp_all; done) | (simp_all; omega) | grind, rfl, Le.c rfl <| Le.c rfl <| Le.c rfl <| Le.c rfl <| Le.c rfl <| Le.e⟩
                                · skip
                                  refine RQ.guardF rfl rfl rfl rfl ?_
                                  refine RQ.guardF rfl rfl rfl rfl ?_
                                  refine RQ.guardF rfl rfl rfl rfl ?_
                                  refine RQ.guardF rfl rfl rfl rfl ?_
                                  refine RQ.guardF rfl rfl rfl rfl ?_
                                  refine RQ.guardF rfl rfl rfl rfl ?_
                                  refine RQ.v rfl (V.pickT (d := Bo true) rfl rfl rfl) ?_
                                  refine RQ.v rfl (V.mv (d := Bo true) rfl rfl) ?_
                                  refine RQ.guardF rfl rfl rfl rfl ?_
                                  refine RQ.guardF rfl rfl rfl rfl ?_
                                  refine RQ.guardF rfl rfl rfl rfl ?_
                                  refine RQ.guardF rfl rfl rfl rfl ?_
                                  refine RQ.v rfl (V.pickT (d := Bo true) rfl rfl rfl) ?_
                                  refine RQ.nil ?_
                                  exact ⟨_, by first | rfl | (simp_all; done) | (simp_all; omega) | grind, rfl, Le.c rfl <| Le.c rfl <| Le.c rfl <| Le.c rfl <| Le.c rfl <| Le.e⟩
                              · skip
                                refine RQ.guardF rfl rfl rfl rfl ?_
                                refine RQ.guardF rfl rfl rfl rfl ?_
                                refine RQ.guardF rfl rfl rfl rfl ?_
                                refine RQ.guardF rfl rfl rfl rfl ?_
                                refine RQ.guardF rfl rfl rfl rfl ?_
                                refine RQ.v rfl (V.pickT (d := Bo true) rfl rfl rfl) ?_
                                refine RQ.v rfl (V.mv (d := Bo true) rfl rfl) ?_
                                refine RQ.guardF rfl rfl rfl rfl ?_
                                refine RQ.guardF rfl rfl rfl rfl ?_
                                refine RQ.guardF rfl rfl rfl rfl ?_
                                refine RQ.guardF rfl rfl rfl rfl ?_
                                refine RQ.guardF rfl rfl rfl rfl ?_
                                refine RQ.guardF rfl rfl rfl rfl ?_
                                refine RQ.guardF rfl rfl rfl rfl ?_
                                refine RQ.v rfl (V.pickT (d := Bo true) rfl rfl rfl) ?_
                                refine RQ.v rfl (V.mv (d := Bo true) rfl rfl) ?_
                                refine RQ.guardF rfl rfl rfl rfl ?_
                                refine RQ.guardF rfl rfl rfl rfl ?_
                                refine RQ.guardF rfl rfl rfl rfl ?_
                                refine RQ.guardF rfl rfl rfl rfl ?_
                                refine RQ.v rfl (V.pickT (d := Bo true) rfl rfl rfl) ?_
                                refine RQ.nil ?_
                                exact ⟨_, by first | rfl | (simp_all; done) | (simp_all; omega) | grind, rfl, Le.c rfl <| Le.c rfl <| Le.c rfl <| Le.c rfl <| Le.c rfl <| Le.e⟩
                            · intro v83 hv87
                              refine CW.cond rfl (fun h88 => ?_) (fun h88 => ?_)
                              · skip
                                refine CW.seq ?_
                                refine CW.region ?_
                                refine RW.v rfl (V.as (d := Bo false) rfl rfl) ?_
                                refine RW.nil ?_
                                refine CW.le [(2, Bo false)] rfl (Le.c rfl <| Le.e) ?_
                                refine CW.ret ?_
                                exact Post.one (RV.b rfl (by have hl : logOk n.log = true := (by first | (simp_all; done) | grind); have hro : n.role = 0 ∨ n.role = 1 ∨ n.role = 2 := role_of (by first | (simp_all; done) | grind); have hne := peersOkB_ne hl; have heq := peersOkB_eq hl; have hf : pkGo (logLast n.log).1 n.peers (others (confAtS n 1000060) n.id) = false := (by rw [← hr, hdi, hdp, pkGo]; first | (simp_all [pkOk]; done) | grind [pkOk]); clear hr; grind [nodeOk])) (AOs.a rfl AOs.e)
                              · skip
                                refine CW.skip ?_
                                refine CW.le [(1, .obj b1 ((Node.c n).map .r)), (3, I ((logLast n.log).1)), (5, .w (sl 1 cI (others (confAtS n 1000060) n.id)) (g79 0 0)), (6, I (i : Int))] rfl (Le.c rfl <| Le.c rfl <| Le.c rfl <| Le.c rfl <| Le.e) ?_
                                refine CW.region ?_
                                refine RW.v rfl (V.mv (d := I (i : Int)) rfl rfl) ?_
                                refine RW.v rfl (V.inc rfl rfl rfl hii (by have := others_len (confAtS n 1000060) n.id; have := confAtS_len hok 1000060; simp only [maxLen]; first | omega | (simp; done))) ?_
                                refine RW.v rfl (V.as (d := I ((i + 1 : Nat) : Int)) rfl rfl) ?_
                                refine RW.nil ?_
                                exact ⟨i + 1, by omega, ⟨by omega, by rw [← hr, hdi, hdp, pkGo]; first | (simp_all [pkOk]; done) | grind [pkOk]⟩, rfl, Le.c rfl <| Le.c rfl <| Le.c rfl <| Le.c rfl <| Le.e⟩
                          · skip
                            have hii : (others (confAtS n 1000060) n.id).length ≤ i := by have := h81; simp at this; first | exact this | omega | (simp; done) | (simp; omega)
                            have hdi : (others (confAtS n 1000060) n.id).drop i = [] := List.drop_eq_nil_of_le hii
                            refine CW.exit ?_
                            refine CW.le [] rfl (Le.e) ?_
                            refine CW.seq ?_
                            refine CW.region ?_
                            refine RW.v rfl (V.as (d := Bo true) rfl rfl) ?_
                            refine RW.nil ?_
                            refine CW.le [(2, Bo true)] rfl (Le.c rfl <| Le.e) ?_
                            refine CW.ret ?_
                            exact Post.one (RV.b rfl (by have hl : logOk n.log = true := (by first | (simp_all; done) | grind); have hro : n.role = 0 ∨ n.role = 1 ∨ n.role = 2 := role_of (by first | (simp_all; done) | grind); have hne := peersOkB_ne hl; have heq := peersOkB_eq hl; have hf : pkGo (logLast n.log).1 n.peers (others (confAtS n 1000060) n.id) = true := (by rw [← hr, hdi, List.drop_eq_nil_of_le (by omega)]; rfl); clear hr; grind [nodeOk])) (AOs.a rfl AOs.e)
              · skip
                refine RO.v (ls' := #[false, false, true, true, false, false]) rfl rfl (V.loadPrim (d := I n.id) rfl rfl (.inl rfl) rfl rfl rfl) rfl ?_
                refine RA.step (L := [0]) (by kernel_rfl) (by simp) (RA.each ?_ (RA.each0))
                · skip
                  refine RO.v (ls' := #[true, false, true, true, false, false]) rfl rfl (V.loadAgg rfl rfl rfl rfl rfl (Nat.le_of_ble_eq_true rfl)) rfl ?_
                  refine RA.step (L := [1]) (by kernel_rfl) (by simp) (RA.each ?_ (RA.each0))
                  · skip
                    refine RO.call (ls' := #[true, true, true, true, false, false]) rfl rfl (spec_ConfOf_fn n hok) rfl (.cons (.agg (.cons (.r .r) (.cons (.r .r) (.cons (.r .r) (.cons (.r .r) (.cons (.r .r) (.cons (.r .r) (.cons (.r .r) (.cons (.r .r) (.cons (.r .r) (.cons (.r .r) (.cons (.r .r) (.cons (.r .r) (.cons (.r .r) (.cons (.r .r) (.nil)))))))))))))))) (.nil)) rfl fun g89 => ?_
                    refine RA.step (L := [4]) (by kernel_rfl) (by simp) (RA.each ?_ (RA.each0))
                    · skip
                      refine RO.callOwn (ls' := #[true, true, true, true, true, false]) rfl rfl (spec_l18Others_fn (confAtS n 1000060) n.id (confAtS_len hok _)) rfl (.cons (.one (.r (.al (k := none) (i := 102) (sz := 1) (V := (g89 0 0)) rfl rfl nofun))) (.cons (.one (.r .r)) (.nil))) rfl rfl fun g90 => ?_
                      refine RA.step (L := [5]) (by kernel_rfl) (by simp) (RA.each ?_ (RA.each0))
                      · skip
                        refine RO.assignMove (ls' := #[true, true, true, true, true, true]) rfl rfl rfl rfl rfl (by decide) (Nat.le_of_ble_eq_true rfl) (Nat.le_of_ble_eq_true rfl) ?_
                        refine RA.fin (by kernel_rfl) ?_
                        refine CW.le [(1, .obj b1 ((Node.c n).map .r)), (3, I ((logLast n.log).1)), (5, .w (sl 1 cI (others (confAtS n 1000060) n.id)) (g90 0 0))] rfl (Le.c rfl <| Le.c rfl <| Le.c rfl <| Le.e) ?_
                        refine CW.seq ?_
                        refine CW.seq ?_
                        refine CW.region ?_
                        refine RW.v rfl (V.field rfl rfl rfl rfl (by decide) rfl) ?_
                        refine RW.v rfl (V.loadPrim (d := .r (sl 4 Peer.c n.peers)) rfl rfl (.inr ⟨_, rfl⟩) rfl rfl rfl) ?_
                        refine RW.v rfl (V.lenT (n := n.peers.length) rfl rfl rfl .r) ?_
                        refine RW.v rfl (V.mv (d := .al 5 none 1 ((others (confAtS n 1000060) n.id).length) (g90 0 0) 0) rfl rfl) ?_
                        refine RW.v rfl (V.lenT (n := (others (confAtS n 1000060) n.id).length) rfl rfl rfl (.al rfl rfl nofun)) ?_
                        refine RW.v rfl (V.cmpInt rfl rfl rfl rfl) ?_
                        refine RW.nil ?_
                        refine CW.le [(1, .obj b1 ((Node.c n).map .r)), (3, I ((logLast n.log).1)), (5, .w (sl 1 cI (others (confAtS n 1000060) n.id)) (g90 0 0)), (111, Bo ((n.peers.length : Int) != ((others (confAtS n 1000060) n.id).length : Int)))] rfl (Le.c rfl <| Le.c rfl <| Le.c rfl <| Le.c rfl <| Le.e) ?_
                        refine CW.cond rfl (fun h91 => ?_) (fun h91 => ?_)
                        · skip
                          refine CW.seq ?_
                          refine CW.region ?_
                          refine RW.v rfl (V.as (d := Bo false) rfl rfl) ?_
                          refine RW.nil ?_
                          refine CW.le [(2, Bo false)] rfl (Le.c rfl <| Le.e) ?_
                          refine CW.ret ?_
                          exact Post.one (RV.b rfl (by have hl : logOk n.log = true := (by first | (simp_all; done) | grind); have hro : n.role = 0 ∨ n.role = 1 ∨ n.role = 2 := role_of (by first | (simp_all; done) | grind); have hne := peersOkB_ne hl; have heq := peersOkB_eq hl; grind [nodeOk])) (AOs.a rfl AOs.e)
                        · skip
                          refine CW.skip ?_
                          refine CW.le [(1, .obj b1 ((Node.c n).map .r)), (3, I ((logLast n.log).1)), (5, .w (sl 1 cI (others (confAtS n 1000060) n.id)) (g90 0 0))] rfl (Le.c rfl <| Le.c rfl <| Le.c rfl <| Le.e) ?_
                          refine CW.seq ?_
                          refine CW.seq ?_
                          refine CW.region ?_
                          refine RW.v rfl (V.as (d := I 0) rfl rfl) ?_
                          refine RW.nil ?_
                          refine CW.le [(1, .obj b1 ((Node.c n).map .r)), (3, I ((logLast n.log).1)), (5, .w (sl 1 cI (others (confAtS n 1000060) n.id)) (g90 0 0)), (6, I 0)] rfl (Le.c rfl <| Le.c rfl <| Le.c rfl <| Le.c rfl <| Le.e) ?_
                          refine CW.block ?_
                          refine CW.loopI 153 (fun (i : Nat) => [(1, .obj b1 ((Node.c n).map .r)), (3, I ((logLast n.log).1)), (5, .w (sl 1 cI (others (confAtS n 1000060) n.id)) (g90 0 0)), (6, I (i : Int))]) (fun (i : Nat) => i ≤ (others (confAtS n 1000060) n.id).length ∧ pkGo (logLast n.log).1 (n.peers.drop i) ((others (confAtS n 1000060) n.id).drop i) = pkGo (logLast n.log).1 n.peers (others (confAtS n 1000060) n.id)) (fun (i : Nat) => (others (confAtS n 1000060) n.id).length - i) 0 rfl (Le.c rfl <| Le.c rfl <| Le.c rfl <| Le.c rfl <| Le.e) ⟨by omega, by simp⟩ ?_
                          rintro i ⟨hb, hr⟩
                          have hlen : n.peers.length = (others (confAtS n 1000060) n.id).length := by first | (simp_all; done) | grind
                          refine CW.seq ?_
                          refine CW.seq ?_
                          refine CW.region ?_
                          refine RW.v rfl (V.mv (d := I (i : Int)) rfl rfl) ?_
                          refine RW.v rfl (V.mv (d := .al 5 none 1 ((others (confAtS n 1000060) n.id).length) (g90 0 0) 0) rfl rfl) ?_
                          refine RW.v rfl (V.lenT (n := (others (confAtS n 1000060) n.id).length) rfl rfl rfl (.al rfl rfl nofun)) ?_
                          refine RW.v rfl (V.cmpInt rfl rfl rfl rfl) ?_
                          refine RW.nil ?_
                          refine CW.le [(1, .obj b1 ((Node.c n).map .r)), (3, I ((logLast n.log).1)), (5, .w (sl 1 cI (others (confAtS n 1000060) n.id)) (g90 0 0)), (6, I (i : Int)), (115, Bo (decide ((i : Int) < ((others (confAtS n 1000060) n.id).length : Int))))] rfl (Le.c rfl <| Le.c rfl <| Le.c rfl <| Le.c rfl <| Le.c rfl <| Le.e) ?_
                          refine CW.cond rfl (fun h92 => ?_) (fun h92 => ?_)
                          · skip
                            have hii : i < (others (confAtS n 1000060) n.id).length := by have := h92; simp at this; first | exact this | omega | (simp; done) | (simp; omega)
                            obtain ⟨ei, hei⟩ : ∃ e, (others (confAtS n 1000060) n.id)[i]? = some e := ⟨_, List.getElem?_eq_getElem hii⟩
                            have hdi := drop_get hei
                            have hip : i < n.peers.length := by have := hlen; omega
                            obtain ⟨ep, hep⟩ : ∃ e, n.peers[i]? = some e := ⟨_, List.getElem?_eq_getElem hip⟩
                            have hdp := drop_get hep
                            refine CW.skip ?_
                            refine CW.le [(1, .obj b1 ((Node.c n).map .r)), (3, I ((logLast n.log).1)), (5, .w (sl 1 cI (others (confAtS n 1000060) n.id)) (g90 0 0)), (6, I (i : Int))] rfl (Le.c rfl <| Le.c rfl <| Le.c rfl <| Le.c rfl <| Le.e) ?_
                            refine CW.seq ?_
                            refine CW.block ?_
                            refine CW.seq ?_
                            refine CW.region ?_
                            refine RW.v rfl (V.field rfl rfl rfl rfl (by decide) rfl) ?_
                            refine RW.v rfl (V.loadPrim (d := .r (sl 4 Peer.c n.peers)) rfl rfl (.inr ⟨_, rfl⟩) rfl rfl rfl) ?_
                            refine RW.v rfl (V.mv (d := I (i : Int)) rfl rfl) ?_
                            refine RW.v rfl (V.indexS rfl rfl rfl rfl rfl rfl Peer.len hep) ?_
                            refine RW.v rfl (V.loadAggR rfl rfl rfl rfl (Nat.le_of_ble_eq_true rfl)) ?_
                            refine RW.alloc (ds := [I 0, I 0, I 0, I 0]) rfl rfl rfl rfl fun b93 => ?_
                            refine RW.storeAgg (es := ((Peer.c ep).map .r)) rfl rfl rfl rfl rfl rfl rfl rfl (Nat.le_of_ble_eq_true rfl) rfl ?_
                            refine RW.nil ?_
                            refine CW.le [(1, .obj b1 ((Node.c n).map .r)), (3, I ((logLast n.log).1)), (5, .w (sl 1 cI (others (confAtS n 1000060) n.id)) (g90 0 0)), (6, I (i : Int)), (7, .obj b93 ((Peer.c ep).map .r))] rfl (Le.c rfl <| Le.c rfl <| Le.c rfl <| Le.c rfl <| Le.c rfl <| Le.e) ?_
                            refine CW.seqJ 153 (fun (v94 : Bool) => [(1, .obj b1 ((Node.c n).map .r)), (3, I ((logLast n.log).1)), (5, .w (sl 1 cI (others (confAtS n 1000060) n.id)) (g90 0 0)), (6, I (i : Int)), (152, Bo v94)]) (fun v94 => v94 = ((((ep.id != ei) || (!(inR ep.next 1 (IntKind.i64.wrap (((logLast n.log).1) + 1))))) || (!(inR ep.match_ 0 (IntKind.i64.wrap (ep.next - 1))))) || (!(inR ep.sent 0 20000)))) ?_ ?_
                            · refine CW.drawn (by kernel_rfl) ?_
                              refine RQ.v rfl (V.field rfl rfl rfl rfl (by decide) rfl) ?_
                              refine RQ.v rfl (V.loadPrim (d := I ep.id) rfl rfl (.inl rfl) rfl rfl rfl) ?_
                              refine RQ.v rfl (V.mv (d := .al 5 none 1 ((others (confAtS n 1000060) n.id).length) (g90 0 0) 0) rfl rfl) ?_
                              refine RQ.v rfl (V.mv (d := I (i : Int)) rfl rfl) ?_
                              refine RQ.v rfl (V.indexW rfl rfl rfl rfl rfl rfl rfl hii) ?_
                              refine RQ.v rfl (V.loadF (m := i) (off := 0) rfl rfl (.inl rfl) rfl rfl cI.len hei (by decide) rfl) ?_
                              refine RQ.v rfl (V.cmpInt rfl rfl rfl rfl) ?_
                              refine RQ.v rfl (V.mv (d := Bo (ep.id != ei)) rfl rfl) ?_
                              refine RQ.gv rfl rfl rfl rfl (fun h95 => V.field rfl rfl rfl rfl (by decide) rfl) (fun h95 => ?_) (fun h95 => ?_)
                              · skip
                                refine RQ.gt rfl rfl rfl rfl (V.loadPrim (d := I ep.next) rfl rfl (.inl rfl) rfl rfl rfl) ?_
                                refine RQ.gt rfl rfl rfl rfl (V.mv (d := I ((logLast n.log).1)) rfl rfl) ?_
                                refine RQ.gt rfl rfl rfl rfl (V.arInt rfl rfl rfl rfl) ?_
                                refine RQ.guardT rfl rfl rfl rfl (QOK.call (spec_l01In_fn ep.next 1 (IntKind.i64.wrap (((logLast n.log).1) + 1))) rfl (.cons (.one (.r .r)) (.cons (.one (.r .r)) (.cons (.one (.r .r)) (.nil)))) ?_)
                                refine RQ.gt rfl rfl rfl rfl (V.not rfl rfl) ?_
                                refine RQ.v rfl (V.pickF (d := Bo (!(inR ep.next 1 (IntKind.i64.wrap (((logLast n.log).1) + 1))))) rfl rfl rfl) ?_
                                refine RQ.v rfl (V.mv (d := Bo (!(inR ep.next 1 (IntKind.i64.wrap (((logLast n.log).1) + 1))))) rfl rfl) ?_
                                refine RQ.gv rfl rfl rfl rfl (fun h96 => V.field rfl rfl rfl rfl (by decide) rfl) (fun h96 => ?_) (fun h96 => ?_)
                                · skip
                                  refine RQ.gt rfl rfl rfl rfl (V.loadPrim (d := I ep.match_) rfl rfl (.inl rfl) rfl rfl rfl) ?_
                                  refine RQ.gt rfl rfl rfl rfl (V.field rfl rfl rfl rfl (by decide) rfl) ?_
                                  refine RQ.gt rfl rfl rfl rfl (V.loadPrim (d := I ep.next) rfl rfl (.inl rfl) rfl rfl rfl) ?_
                                  refine RQ.gt rfl rfl rfl rfl (V.arInt rfl rfl rfl rfl) ?_
                                  refine RQ.guardT rfl rfl rfl rfl (QOK.call (spec_l01In_fn ep.match_ 0 (IntKind.i64.wrap (ep.next - 1))) rfl (.cons (.one (.r .r)) (.cons (.one (.r .r)) (.cons (.one (.r .r)) (.nil)))) ?_)
                                  refine RQ.gt rfl rfl rfl rfl (V.not rfl rfl) ?_
                                  refine RQ.v rfl (V.pickF (d := Bo (!(inR ep.match_ 0 (IntKind.i64.wrap (ep.next - 1))))) rfl rfl rfl) ?_
                                  refine RQ.v rfl (V.mv (d := Bo (!(inR ep.match_ 0 (IntKind.i64.wrap (ep.next - 1))))) rfl rfl) ?_
                                  refine RQ.gv rfl rfl rfl rfl (fun h97 => V.field rfl rfl rfl rfl (by decide) rfl) (fun h97 => ?_) (fun h97 => ?_)
                                  · skip
                                    refine RQ.gt rfl rfl rfl rfl (V.loadPrim (d := I ep.sent) rfl rfl (.inl rfl) rfl rfl rfl) ?_
                                    refine RQ.guardT rfl rfl rfl rfl (QOK.call (spec_l01In_fn ep.sent 0 20000) rfl (.cons (.one (.r .r)) (.cons (.one (.r .r)) (.cons (.one (.r .r)) (.nil)))) ?_)
                                    refine RQ.gt rfl rfl rfl rfl (V.not rfl rfl) ?_
                                    refine RQ.v rfl (V.pickF (d := Bo (!(inR ep.sent 0 20000))) rfl rfl rfl) ?_
                                    refine RQ.nil ?_
                                    exact ⟨_, by first | rfl | (simp_all; done) | (simp_all; omega) | grind, rfl, Le.c rfl <| Le.c rfl <| Le.c rfl <| Le.c rfl <| Le.c rfl <| Le.e⟩
                                  · skip
                                    refine RQ.guardF rfl rfl rfl rfl ?_
                                    refine RQ.guardF rfl rfl rfl rfl ?_
                                    refine RQ.guardF rfl rfl rfl rfl ?_
                                    refine RQ.v rfl (V.pickT (d := Bo true) rfl rfl rfl) ?_
                                    refine RQ.nil ?_
                                    exact ⟨_, by first | rfl | (simp_all; done) | (simp_all; omega) | grind, rfl, Le.c rfl <| Le.c rfl <| Le.c rfl <| Le.c rfl <| Le.c rfl <| Le.e⟩
                                · skip
                                  refine RQ.guardF rfl rfl rfl rfl ?_
                                  refine RQ.guardF rfl rfl rfl rfl ?_
                                  refine RQ.guardF rfl rfl rfl rfl ?_
                                  refine RQ.guardF rfl rfl rfl rfl ?_
                                  refine RQ.guardF rfl rfl rfl rfl ?_
                                  refine RQ.guardF rfl rfl rfl rfl ?_
                                  refine RQ.v rfl (V.pickT (d := Bo true) rfl rfl rfl) ?_
                                  refine RQ.v rfl (V.mv (d := Bo true) rfl rfl) ?_
                                  refine RQ.guardF rfl rfl rfl rfl ?_
                                  refine RQ.guardF rfl rfl rfl rfl ?_
                                  refine RQ.guardF rfl rfl rfl rfl ?_
                                  refine RQ.guardF rfl rfl rfl rfl ?_
                                  refine RQ.v rfl (V.pickT (d := Bo true) rfl rfl rfl) ?_
                                  refine RQ.nil ?_
                                  exact ⟨_, by first | rfl | (simp_all; done) | (simp_all; omega) | grind, rfl, Le.c rfl <| Le.c rfl <| Le.c rfl <| Le.c rfl <| Le.c rfl <| Le.e⟩
                              · skip
                                refine RQ.guardF rfl rfl rfl rfl ?_
                                refine RQ.guardF rfl rfl rfl rfl ?_
                                refine RQ.guardF rfl rfl rfl rfl ?_
                                refine RQ.guardF rfl rfl rfl rfl ?_
                                refine RQ.guardF rfl rfl rfl rfl ?_
                                refine RQ.v rfl (V.pickT (d := Bo true) rfl rfl rfl) ?_
                                refine RQ.v rfl (V.mv (d := Bo true) rfl rfl) ?_
                                refine RQ.guardF rfl rfl rfl rfl ?_
                                refine RQ.guardF rfl rfl rfl rfl ?_
                                refine RQ.guardF rfl rfl rfl rfl ?_
                                refine RQ.guardF rfl rfl rfl rfl ?_
                                refine RQ.guardF rfl rfl rfl rfl ?_
                                refine RQ.guardF rfl rfl rfl rfl ?_
                                refine RQ.guardF rfl rfl rfl rfl ?_
                                refine RQ.v rfl (V.pickT (d := Bo true) rfl rfl rfl) ?_
                                refine RQ.v rfl (V.mv (d := Bo true) rfl rfl) ?_
                                refine RQ.guardF rfl rfl rfl rfl ?_
                                refine RQ.guardF rfl rfl rfl rfl ?_
                                refine RQ.guardF rfl rfl rfl rfl ?_
                                refine RQ.guardF rfl rfl rfl rfl ?_
                                refine RQ.v rfl (V.pickT (d := Bo true) rfl rfl rfl) ?_
                                refine RQ.nil ?_
                                exact ⟨_, by first | rfl | (simp_all; done) | (simp_all; omega) | grind, rfl, Le.c rfl <| Le.c rfl <| Le.c rfl <| Le.c rfl <| Le.c rfl <| Le.e⟩
                            · intro v94 hv98
                              refine CW.cond rfl (fun h99 => ?_) (fun h99 => ?_)
                              · skip
                                refine CW.seq ?_
                                refine CW.region ?_
                                refine RW.v rfl (V.as (d := Bo false) rfl rfl) ?_
                                refine RW.nil ?_
                                refine CW.le [(2, Bo false)] rfl (Le.c rfl <| Le.e) ?_
                                refine CW.ret ?_
                                exact Post.one (RV.b rfl (by have hl : logOk n.log = true := (by first | (simp_all; done) | grind); have hro : n.role = 0 ∨ n.role = 1 ∨ n.role = 2 := role_of (by first | (simp_all; done) | grind); have hne := peersOkB_ne hl; have heq := peersOkB_eq hl; have hf : pkGo (logLast n.log).1 n.peers (others (confAtS n 1000060) n.id) = false := (by rw [← hr, hdi, hdp, pkGo]; first | (simp_all [pkOk]; done) | grind [pkOk]); clear hr; grind [nodeOk])) (AOs.a rfl AOs.e)
                              · skip
                                refine CW.skip ?_
                                refine CW.le [(1, .obj b1 ((Node.c n).map .r)), (3, I ((logLast n.log).1)), (5, .w (sl 1 cI (others (confAtS n 1000060) n.id)) (g90 0 0)), (6, I (i : Int))] rfl (Le.c rfl <| Le.c rfl <| Le.c rfl <| Le.c rfl <| Le.e) ?_
                                refine CW.region ?_
                                refine RW.v rfl (V.mv (d := I (i : Int)) rfl rfl) ?_
                                refine RW.v rfl (V.inc rfl rfl rfl hii (by have := others_len (confAtS n 1000060) n.id; have := confAtS_len hok 1000060; simp only [maxLen]; first | omega | (simp; done))) ?_
                                refine RW.v rfl (V.as (d := I ((i + 1 : Nat) : Int)) rfl rfl) ?_
                                refine RW.nil ?_
                                exact ⟨i + 1, by omega, ⟨by omega, by rw [← hr, hdi, hdp, pkGo]; first | (simp_all [pkOk]; done) | grind [pkOk]⟩, rfl, Le.c rfl <| Le.c rfl <| Le.c rfl <| Le.c rfl <| Le.e⟩
                          · skip
                            have hii : (others (confAtS n 1000060) n.id).length ≤ i := by have := h92; simp at this; first | exact this | omega | (simp; done) | (simp; omega)
                            have hdi : (others (confAtS n 1000060) n.id).drop i = [] := List.drop_eq_nil_of_le hii
                            refine CW.exit ?_
                            refine CW.le [] rfl (Le.e) ?_
                            refine CW.seq ?_
                            refine CW.region ?_
                            refine RW.v rfl (V.as (d := Bo true) rfl rfl) ?_
                            refine RW.nil ?_
                            refine CW.le [(2, Bo true)] rfl (Le.c rfl <| Le.e) ?_
                            refine CW.ret ?_
                            exact Post.one (RV.b rfl (by have hl : logOk n.log = true := (by first | (simp_all; done) | grind); have hro : n.role = 0 ∨ n.role = 1 ∨ n.role = 2 := role_of (by first | (simp_all; done) | grind); have hne := peersOkB_ne hl; have heq := peersOkB_eq hl; have hf : pkGo (logLast n.log).1 n.peers (others (confAtS n 1000060) n.id) = true := (by rw [← hr, hdi, List.drop_eq_nil_of_le (by omega)]; rfl); clear hr; grind [nodeOk])) (AOs.a rfl AOs.e)
          · skip
            refine CW.skip ?_
            refine CW.le [(1, .obj b1 ((Node.c n).map .r)), (3, I ((logLast n.log).1)), (5, .w (sl 1 cI ([] : List Int)) X32)] rfl (Le.c rfl <| Le.c rfl <| Le.c rfl <| Le.e) ?_
            refine CW.seq ?_
            refine CW.seq ?_
            refine CW.region ?_
            refine RW.v rfl (V.field rfl rfl rfl rfl (by decide) rfl) ?_
            refine RW.v rfl (V.loadPrim (d := .r (sl 4 Peer.c n.peers)) rfl rfl (.inr ⟨_, rfl⟩) rfl rfl rfl) ?_
            refine RW.v rfl (V.lenT (n := n.peers.length) rfl rfl rfl .r) ?_
            refine RW.v rfl (V.mv (d := .al 5 none 1 (([] : List Int).length) X32 0) rfl rfl) ?_
            refine RW.v rfl (V.lenT (n := ([] : List Int).length) rfl rfl rfl (.al rfl rfl nofun)) ?_
            refine RW.v rfl (V.cmpInt rfl rfl rfl rfl) ?_
            refine RW.nil ?_
            refine CW.le [(1, .obj b1 ((Node.c n).map .r)), (3, I ((logLast n.log).1)), (5, .w (sl 1 cI ([] : List Int)) X32), (111, Bo ((n.peers.length : Int) != (([] : List Int).length : Int)))] rfl (Le.c rfl <| Le.c rfl <| Le.c rfl <| Le.c rfl <| Le.e) ?_
            refine CW.cond rfl (fun h100 => ?_) (fun h100 => ?_)
            · skip
              refine CW.seq ?_
              refine CW.region ?_
              refine RW.v rfl (V.as (d := Bo false) rfl rfl) ?_
              refine RW.nil ?_
              refine CW.le [(2, Bo false)] rfl (Le.c rfl <| Le.e) ?_
              refine CW.ret ?_
              exact Post.one (RV.b rfl (by have hl : logOk n.log = true := (by first | (simp_all; done) | grind); have hro : n.role = 0 ∨ n.role = 1 ∨ n.role = 2 := role_of (by first | (simp_all; done) | grind); have hne := peersOkB_ne hl; have heq := peersOkB_eq hl; grind [nodeOk])) (AOs.a rfl AOs.e)
            · skip
              refine CW.skip ?_
              refine CW.le [(1, .obj b1 ((Node.c n).map .r)), (3, I ((logLast n.log).1)), (5, .w (sl 1 cI ([] : List Int)) X32)] rfl (Le.c rfl <| Le.c rfl <| Le.c rfl <| Le.e) ?_
              refine CW.seq ?_
              refine CW.seq ?_
              refine CW.region ?_
              refine RW.v rfl (V.as (d := I 0) rfl rfl) ?_
              refine RW.nil ?_
              refine CW.le [(1, .obj b1 ((Node.c n).map .r)), (3, I ((logLast n.log).1)), (5, .w (sl 1 cI ([] : List Int)) X32), (6, I 0)] rfl (Le.c rfl <| Le.c rfl <| Le.c rfl <| Le.c rfl <| Le.e) ?_
              refine CW.block ?_
              refine CW.loopI 153 (fun (i : Nat) => [(1, .obj b1 ((Node.c n).map .r)), (3, I ((logLast n.log).1)), (5, .w (sl 1 cI ([] : List Int)) X32), (6, I (i : Int))]) (fun (i : Nat) => i ≤ ([] : List Int).length ∧ pkGo (logLast n.log).1 (n.peers.drop i) (([] : List Int).drop i) = pkGo (logLast n.log).1 n.peers ([] : List Int)) (fun (i : Nat) => ([] : List Int).length - i) 0 rfl (Le.c rfl <| Le.c rfl <| Le.c rfl <| Le.c rfl <| Le.e) ⟨by omega, by simp⟩ ?_
              rintro i ⟨hb, hr⟩
              have hlen : n.peers.length = ([] : List Int).length := by first | (simp_all; done) | grind
              refine CW.seq ?_
              refine CW.seq ?_
              refine CW.region ?_
              refine RW.v rfl (V.mv (d := I (i : Int)) rfl rfl) ?_
              refine RW.v rfl (V.mv (d := .al 5 none 1 (([] : List Int).length) X32 0) rfl rfl) ?_
              refine RW.v rfl (V.lenT (n := ([] : List Int).length) rfl rfl rfl (.al rfl rfl nofun)) ?_
              refine RW.v rfl (V.cmpInt rfl rfl rfl rfl) ?_
              refine RW.nil ?_
              refine CW.le [(1, .obj b1 ((Node.c n).map .r)), (3, I ((logLast n.log).1)), (5, .w (sl 1 cI ([] : List Int)) X32), (6, I (i : Int)), (115, Bo (decide ((i : Int) < (([] : List Int).length : Int))))] rfl (Le.c rfl <| Le.c rfl <| Le.c rfl <| Le.c rfl <| Le.c rfl <| Le.e) ?_
              refine CW.cond rfl (fun h101 => ?_) (fun h101 => ?_)
              · skip
                have hii : i < ([] : List Int).length := by have := h101; simp at this; first | exact this | omega | (simp; done) | (simp; omega)
                obtain ⟨ei, hei⟩ : ∃ e, ([] : List Int)[i]? = some e := ⟨_, List.getElem?_eq_getElem hii⟩
                have hdi := drop_get hei
                have hip : i < n.peers.length := by have := hlen; omega
                obtain ⟨ep, hep⟩ : ∃ e, n.peers[i]? = some e := ⟨_, List.getElem?_eq_getElem hip⟩
                have hdp := drop_get hep
                refine CW.skip ?_
                refine CW.le [(1, .obj b1 ((Node.c n).map .r)), (3, I ((logLast n.log).1)), (5, .w (sl 1 cI ([] : List Int)) X32), (6, I (i : Int))] rfl (Le.c rfl <| Le.c rfl <| Le.c rfl <| Le.c rfl <| Le.e) ?_
                refine CW.seq ?_
                refine CW.block ?_
                refine CW.seq ?_
                refine CW.region ?_
                refine RW.v rfl (V.field rfl rfl rfl rfl (by decide) rfl) ?_
                refine RW.v rfl (V.loadPrim (d := .r (sl 4 Peer.c n.peers)) rfl rfl (.inr ⟨_, rfl⟩) rfl rfl rfl) ?_
                refine RW.v rfl (V.mv (d := I (i : Int)) rfl rfl) ?_
                refine RW.v rfl (V.indexS rfl rfl rfl rfl rfl rfl Peer.len hep) ?_
                refine RW.v rfl (V.loadAggR rfl rfl rfl rfl (Nat.le_of_ble_eq_true rfl)) ?_
                refine RW.alloc (ds := [I 0, I 0, I 0, I 0]) rfl rfl rfl rfl fun b102 => ?_
                refine RW.storeAgg (es := ((Peer.c ep).map .r)) rfl rfl rfl rfl rfl rfl rfl rfl (Nat.le_of_ble_eq_true rfl) rfl ?_
                refine RW.nil ?_
                refine CW.le [(1, .obj b1 ((Node.c n).map .r)), (3, I ((logLast n.log).1)), (5, .w (sl 1 cI ([] : List Int)) X32), (6, I (i : Int)), (7, .obj b102 ((Peer.c ep).map .r))] rfl (Le.c rfl <| Le.c rfl <| Le.c rfl <| Le.c rfl <| Le.c rfl <| Le.e) ?_
                refine CW.seqJ 153 (fun (v103 : Bool) => [(1, .obj b1 ((Node.c n).map .r)), (3, I ((logLast n.log).1)), (5, .w (sl 1 cI ([] : List Int)) X32), (6, I (i : Int)), (152, Bo v103)]) (fun v103 => v103 = ((((ep.id != ei) || (!(inR ep.next 1 (IntKind.i64.wrap (((logLast n.log).1) + 1))))) || (!(inR ep.match_ 0 (IntKind.i64.wrap (ep.next - 1))))) || (!(inR ep.sent 0 20000)))) ?_ ?_
                · refine CW.drawn (by kernel_rfl) ?_
                  refine RQ.v rfl (V.field rfl rfl rfl rfl (by decide) rfl) ?_
                  refine RQ.v rfl (V.loadPrim (d := I ep.id) rfl rfl (.inl rfl) rfl rfl rfl) ?_
                  refine RQ.v rfl (V.mv (d := .al 5 none 1 (([] : List Int).length) X32 0) rfl rfl) ?_
                  refine RQ.v rfl (V.mv (d := I (i : Int)) rfl rfl) ?_
                  refine RQ.v rfl (V.indexW rfl rfl rfl rfl rfl rfl rfl hii) ?_
                  refine RQ.v rfl (V.loadF (m := i) (off := 0) rfl rfl (.inl rfl) rfl rfl cI.len hei (by decide) rfl) ?_
                  refine RQ.v rfl (V.cmpInt rfl rfl rfl rfl) ?_
                  refine RQ.v rfl (V.mv (d := Bo (ep.id != ei)) rfl rfl) ?_
                  refine RQ.gv rfl rfl rfl rfl (fun h104 => V.field rfl rfl rfl rfl (by decide) rfl) (fun h104 => ?_) (fun h104 => ?_)
                  · skip
                    refine RQ.gt rfl rfl rfl rfl (V.loadPrim (d := I ep.next) rfl rfl (.inl rfl) rfl rfl rfl) ?_
                    refine RQ.gt rfl rfl rfl rfl (V.mv (d := I ((logLast n.log).1)) rfl rfl) ?_
                    refine RQ.gt rfl rfl rfl rfl (V.arInt rfl rfl rfl rfl) ?_
                    refine RQ.guardT rfl rfl rfl rfl (QOK.call (spec_l01In_fn ep.next 1 (IntKind.i64.wrap (((logLast n.log).1) + 1))) rfl (.cons (.one (.r .r)) (.cons (.one (.r .r)) (.cons (.one (.r .r)) (.nil)))) ?_)
                    refine RQ.gt rfl rfl rfl rfl (V.not rfl rfl) ?_
                    refine RQ.v rfl (V.pickF (d := Bo (!(inR ep.next 1 (IntKind.i64.wrap (((logLast n.log).1) + 1))))) rfl rfl rfl) ?_
                    refine RQ.v rfl (V.mv (d := Bo (!(inR ep.next 1 (IntKind.i64.wrap (((logLast n.log).1) + 1))))) rfl rfl) ?_
                    refine RQ.gv rfl rfl rfl rfl (fun h105 => V.field rfl rfl rfl rfl (by decide) rfl) (fun h105 => ?_) (fun h105 => ?_)
                    · skip
                      refine RQ.gt rfl rfl rfl rfl (V.loadPrim (d := I ep.match_) rfl rfl (.inl rfl) rfl rfl rfl) ?_
                      refine RQ.gt rfl rfl rfl rfl (V.field rfl rfl rfl rfl (by decide) rfl) ?_
                      refine RQ.gt rfl rfl rfl rfl (V.loadPrim (d := I ep.next) rfl rfl (.inl rfl) rfl rfl rfl) ?_
                      refine RQ.gt rfl rfl rfl rfl (V.arInt rfl rfl rfl rfl) ?_
                      refine RQ.guardT rfl rfl rfl rfl (QOK.call (spec_l01In_fn ep.match_ 0 (IntKind.i64.wrap (ep.next - 1))) rfl (.cons (.one (.r .r)) (.cons (.one (.r .r)) (.cons (.one (.r .r)) (.nil)))) ?_)
                      refine RQ.gt rfl rfl rfl rfl (V.not rfl rfl) ?_
                      refine RQ.v rfl (V.pickF (d := Bo (!(inR ep.match_ 0 (IntKind.i64.wrap (ep.next - 1))))) rfl rfl rfl) ?_
                      refine RQ.v rfl (V.mv (d := Bo (!(inR ep.match_ 0 (IntKind.i64.wrap (ep.next - 1))))) rfl rfl) ?_
                      refine RQ.gv rfl rfl rfl rfl (fun h106 => V.field rfl rfl rfl rfl (by decide) rfl) (fun h106 => ?_) (fun h106 => ?_)
                      · skip
                        refine RQ.gt rfl rfl rfl rfl (V.loadPrim (d := I ep.sent) rfl rfl (.inl rfl) rfl rfl rfl) ?_
                        refine RQ.guardT rfl rfl rfl rfl (QOK.call (spec_l01In_fn ep.sent 0 20000) rfl (.cons (.one (.r .r)) (.cons (.one (.r .r)) (.cons (.one (.r .r)) (.nil)))) ?_)
                        refine RQ.gt rfl rfl rfl rfl (V.not rfl rfl) ?_
                        refine RQ.v rfl (V.pickF (d := Bo (!(inR ep.sent 0 20000))) rfl rfl rfl) ?_
                        refine RQ.nil ?_
                        exact ⟨_, by first | rfl | (simp_all; done) | (simp_all; omega) | grind, rfl, Le.c rfl <| Le.c rfl <| Le.c rfl <| Le.c rfl <| Le.c rfl <| Le.e⟩
                      · skip
                        refine RQ.guardF rfl rfl rfl rfl ?_
                        refine RQ.guardF rfl rfl rfl rfl ?_
                        refine RQ.guardF rfl rfl rfl rfl ?_
                        refine RQ.v rfl (V.pickT (d := Bo true) rfl rfl rfl) ?_
                        refine RQ.nil ?_
                        exact ⟨_, by first | rfl | (simp_all; done) | (simp_all; omega) | grind, rfl, Le.c rfl <| Le.c rfl <| Le.c rfl <| Le.c rfl <| Le.c rfl <| Le.e⟩
                    · skip
                      refine RQ.guardF rfl rfl rfl rfl ?_
                      refine RQ.guardF rfl rfl rfl rfl ?_
                      refine RQ.guardF rfl rfl rfl rfl ?_
                      refine RQ.guardF rfl rfl rfl rfl ?_
                      refine RQ.guardF rfl rfl rfl rfl ?_
                      refine RQ.guardF rfl rfl rfl rfl ?_
                      refine RQ.v rfl (V.pickT (d := Bo true) rfl rfl rfl) ?_
                      refine RQ.v rfl (V.mv (d := Bo true) rfl rfl) ?_
                      refine RQ.guardF rfl rfl rfl rfl ?_
                      refine RQ.guardF rfl rfl rfl rfl ?_
                      refine RQ.guardF rfl rfl rfl rfl ?_
                      refine RQ.guardF rfl rfl rfl rfl ?_
                      refine RQ.v rfl (V.pickT (d := Bo true) rfl rfl rfl) ?_
                      refine RQ.nil ?_
                      exact ⟨_, by first | rfl | (simp_all; done) | (simp_all; omega) | grind, rfl, Le.c rfl <| Le.c rfl <| Le.c rfl <| Le.c rfl <| Le.c rfl <| Le.e⟩
                  · skip
                    refine RQ.guardF rfl rfl rfl rfl ?_
                    refine RQ.guardF rfl rfl rfl rfl ?_
                    refine RQ.guardF rfl rfl rfl rfl ?_
                    refine RQ.guardF rfl rfl rfl rfl ?_
                    refine RQ.guardF rfl rfl rfl rfl ?_
                    refine RQ.v rfl (V.pickT (d := Bo true) rfl rfl rfl) ?_
                    refine RQ.v rfl (V.mv (d := Bo true) rfl rfl) ?_
                    refine RQ.guardF rfl rfl rfl rfl ?_
                    refine RQ.guardF rfl rfl rfl rfl ?_
                    refine RQ.guardF rfl rfl rfl rfl ?_
                    refine RQ.guardF rfl rfl rfl rfl ?_
                    refine RQ.guardF rfl rfl rfl rfl ?_
                    refine RQ.guardF rfl rfl rfl rfl ?_
                    refine RQ.guardF rfl rfl rfl rfl ?_
                    refine RQ.v rfl (V.pickT (d := Bo true) rfl rfl rfl) ?_
                    refine RQ.v rfl (V.mv (d := Bo true) rfl rfl) ?_
                    refine RQ.guardF rfl rfl rfl rfl ?_
                    refine RQ.guardF rfl rfl rfl rfl ?_
                    refine RQ.guardF rfl rfl rfl rfl ?_
                    refine RQ.guardF rfl rfl rfl rfl ?_
                    refine RQ.v rfl (V.pickT (d := Bo true) rfl rfl rfl) ?_
                    refine RQ.nil ?_
                    exact ⟨_, by first | rfl | (simp_all; done) | (simp_all; omega) | grind, rfl, Le.c rfl <| Le.c rfl <| Le.c rfl <| Le.c rfl <| Le.c rfl <| Le.e⟩
                · intro v103 hv107
                  refine CW.cond rfl (fun h108 => ?_) (fun h108 => ?_)
                  · skip
                    refine CW.seq ?_
                    refine CW.region ?_
                    refine RW.v rfl (V.as (d := Bo false) rfl rfl) ?_
                    refine RW.nil ?_
                    refine CW.le [(2, Bo false)] rfl (Le.c rfl <| Le.e) ?_
                    refine CW.ret ?_
                    exact Post.one (RV.b rfl (by exfalso; simp at hii)) (AOs.a rfl AOs.e)
                  · skip
                    refine CW.skip ?_
                    refine CW.le [(1, .obj b1 ((Node.c n).map .r)), (3, I ((logLast n.log).1)), (5, .w (sl 1 cI ([] : List Int)) X32), (6, I (i : Int))] rfl (Le.c rfl <| Le.c rfl <| Le.c rfl <| Le.c rfl <| Le.e) ?_
                    refine CW.region ?_
                    refine RW.v rfl (V.mv (d := I (i : Int)) rfl rfl) ?_
                    refine RW.v rfl (V.inc rfl rfl rfl hii (by have := others_len (confAtS n 1000060) n.id; have := confAtS_len hok 1000060; simp only [maxLen]; first | omega | (simp; done))) ?_
                    refine RW.v rfl (V.as (d := I ((i + 1 : Nat) : Int)) rfl rfl) ?_
                    refine RW.nil ?_
                    exact ⟨i + 1, by omega, ⟨by omega, by rw [← hr, hdi, hdp, pkGo]; first | (simp_all [pkOk]; done) | grind [pkOk]⟩, rfl, Le.c rfl <| Le.c rfl <| Le.c rfl <| Le.c rfl <| Le.e⟩
              · skip
                have hii : ([] : List Int).length ≤ i := by have := h101; simp at this; first | exact this | omega | (simp; done) | (simp; omega)
                have hdi : ([] : List Int).drop i = [] := List.drop_eq_nil_of_le hii
                refine CW.exit ?_
                refine CW.le [] rfl (Le.e) ?_
                refine CW.seq ?_
                refine CW.region ?_
                refine RW.v rfl (V.as (d := Bo true) rfl rfl) ?_
                refine RW.nil ?_
                refine CW.le [(2, Bo true)] rfl (Le.c rfl <| Le.e) ?_
                refine CW.ret ?_
                exact Post.one (RV.b rfl (by have hl : logOk n.log = true := (by first | (simp_all; done) | grind); have hro : n.role = 0 ∨ n.role = 1 ∨ n.role = 2 := role_of (by first | (simp_all; done) | grind); have hne := peersOkB_ne hl; have heq := peersOkB_eq hl; have hz : n.peers.length = 0 := (by simpa using hlen); exact (nodeOk_low (hv16.symm.trans h17) (hv30.symm.trans h31) h33 hz).symm)) (AOs.a rfl AOs.e)
set_option maxHeartbeats 4000000 in
theorem laws_szEntry_fn (a : Entry) (left : Int) : Eng.Fn E.P 114 [.agg ((Entry.c a).map .r), .one (.r (.v (.int .i64 left)))] (.one (.one (.w (.v (.int .i64 (szEntry a left)))))) [.agg ((Entry.c a).map .r), .one (.r (.v (.int .i64 left)))] := by
  refine Eng.Fn.intro (E := E) (rvs := [.tmp 4]) Try.func114 rfl rfl rfl (by simp [outSlots, moved, rvSlot, sl]) ?_
  intro B g bo
  refine CW.le [(0, .agg ((Entry.c a).map .r)), (1, I left)] rfl (Le.c rfl <| Le.c rfl <| Le.e) ?_
  refine CW.seq ?_
  refine CW.region ?_
  refine RW.box (ds := ((Entry.c a).map .r)) rfl rfl rfl fun b1 => ?_
  refine RW.v rfl (V.as (d := I 0) rfl rfl) ?_
  refine RW.nil ?_
  refine CW.le [(1, I left), (2, .obj b1 ((Entry.c a).map .r))] rfl (Le.c rfl <| Le.c rfl <| Le.e) ?_
  refine CW.seq ?_
  refine CW.region ?_
  refine RW.v rfl (V.mv (d := I left) rfl rfl) ?_
  refine RW.v rfl (V.field rfl rfl rfl rfl (by decide) rfl) ?_
  refine RW.v rfl (V.loadPrim (d := S a.data) rfl rfl (.inl rfl) rfl rfl rfl) ?_
  refine RW.v rfl (V.lenStr rfl (by kernel_rfl) rfl) ?_
  refine RW.v rfl (V.arInt rfl rfl rfl rfl) ?_
  refine RW.v rfl (V.as (d := I (IntKind.i64.wrap (left - (a.data.size : Int)))) rfl rfl) ?_
  refine RW.nil ?_
  refine CW.le [(1, I (IntKind.i64.wrap (left - (a.data.size : Int))))] rfl (Le.c rfl <| Le.e) ?_
  refine CW.seq ?_
  refine CW.seq ?_
  refine CW.region ?_
  refine RW.v rfl (V.mv (d := I (IntKind.i64.wrap (left - (a.data.size : Int)))) rfl rfl) ?_
  refine RW.v rfl (V.cmpInt rfl rfl rfl rfl) ?_
  refine RW.nil ?_
  refine CW.le [(1, I (IntKind.i64.wrap (left - (a.data.size : Int)))), (11, Bo (decide ((IntKind.i64.wrap (left - (a.data.size : Int))) < 0)))] rfl (Le.c rfl <| Le.c rfl <| Le.e) ?_
  refine CW.cond rfl (fun h2 => ?_) (fun h2 => ?_)
  · skip
    refine CW.seq ?_
    refine CW.region ?_
    refine RW.v rfl (V.as (d := I (-1)) rfl rfl) ?_
    refine RW.nil ?_
    refine CW.le [(4, I (-1))] rfl (Le.c rfl <| Le.e) ?_
    refine CW.ret ?_
    exact Post.one (RV.i rfl (by first | (simp_all [szEntry]; done) | (simp_all [szEntry]; omega) | grind [szEntry])) (AOs.a rfl (AOs.r AOs.e))
  · skip
    refine CW.skip ?_
    refine CW.le [(1, I (IntKind.i64.wrap (left - (a.data.size : Int))))] rfl (Le.c rfl <| Le.e) ?_
    refine CW.seq ?_
    refine CW.region ?_
    refine RW.v rfl (V.mv (d := I (IntKind.i64.wrap (left - (a.data.size : Int)))) rfl rfl) ?_
    refine RW.v rfl (V.as (d := I (IntKind.i64.wrap (left - (a.data.size : Int)))) rfl rfl) ?_
    refine RW.nil ?_
    refine CW.le [(4, I (IntKind.i64.wrap (left - (a.data.size : Int))))] rfl (Le.c rfl <| Le.e) ?_
    refine CW.ret ?_
    exact Post.one (RV.i rfl (by first | (simp_all [szEntry]; done) | (simp_all [szEntry]; omega) | grind [szEntry])) (AOs.a rfl (AOs.r AOs.e))
set_option maxHeartbeats 4000000 in
theorem laws_szIntS_fn (a : List Int) (left : Int) : Eng.Fn E.P 53 [.one (.r (sl 1 cI a)), .one (.r (.v (.int .i64 left)))] (.one (.one (.w (.v (.int .i64 (szI a left)))))) [.one (.r (sl 1 cI a)), .one (.r (.v (.int .i64 left)))] := by
  refine Eng.Fn.intro (E := E) (rvs := [.tmp 4]) Try.func53 rfl rfl rfl (by simp [outSlots, moved, rvSlot, sl]) ?_
  intro B g bo
  refine CW.bound (x := .tmp 0) (n := a.length) (AsT.r) (fun hl0 => ?_)
  refine CW.le [(0, .r (sl 1 cI a)), (1, I left)] rfl (Le.c rfl <| Le.c rfl <| Le.e) ?_
  refine CW.seq ?_
  refine CW.region ?_
  refine RW.v rfl (V.as (d := I 0) rfl rfl) ?_
  refine RW.nil ?_
  refine CW.le [(0, .r (sl 1 cI a)), (1, I left)] rfl (Le.c rfl <| Le.c rfl <| Le.e) ?_
  refine CW.seq ?_
  refine CW.region ?_
  refine RW.v rfl (V.mv (d := I left) rfl rfl) ?_
  refine RW.v rfl (V.mv (d := .r (sl 1 cI a)) rfl rfl) ?_
  refine RW.v rfl (V.lenT (n := a.length) rfl rfl rfl .r) ?_
  refine RW.v rfl (V.arInt rfl rfl rfl rfl) ?_
  refine RW.v rfl (V.as (d := I (IntKind.i64.wrap (left - (a.length : Int)))) rfl rfl) ?_
  refine RW.nil ?_
  refine CW.le [(1, I (IntKind.i64.wrap (left - (a.length : Int))))] rfl (Le.c rfl <| Le.e) ?_
  refine CW.seq ?_
  refine CW.seq ?_
  refine CW.region ?_
  refine RW.v rfl (V.mv (d := I (IntKind.i64.wrap (left - (a.length : Int)))) rfl rfl) ?_
  refine RW.v rfl (V.cmpInt rfl rfl rfl rfl) ?_
  refine RW.nil ?_
  refine CW.le [(1, I (IntKind.i64.wrap (left - (a.length : Int)))), (10, Bo (decide ((IntKind.i64.wrap (left - (a.length : Int))) < 0)))] rfl (Le.c rfl <| Le.c rfl <| Le.e) ?_
  refine CW.cond rfl (fun h1 => ?_) (fun h1 => ?_)
  · skip
    refine CW.seq ?_
    refine CW.region ?_
    refine RW.v rfl (V.as (d := I (-1)) rfl rfl) ?_
    refine RW.nil ?_
    refine CW.le [(4, I (-1))] rfl (Le.c rfl <| Le.e) ?_
    refine CW.ret ?_
    exact Post.one (RV.i rfl (by first | (simp_all [szI]; done) | (simp_all [szI]; omega))) (AOs.r (AOs.r AOs.e))
  · skip
    refine CW.skip ?_
    refine CW.le [(1, I (IntKind.i64.wrap (left - (a.length : Int))))] rfl (Le.c rfl <| Le.e) ?_
    refine CW.seq ?_
    refine CW.region ?_
    refine RW.v rfl (V.mv (d := I (IntKind.i64.wrap (left - (a.length : Int)))) rfl rfl) ?_
    refine RW.v rfl (V.as (d := I (IntKind.i64.wrap (left - (a.length : Int)))) rfl rfl) ?_
    refine RW.nil ?_
    refine CW.le [(4, I (IntKind.i64.wrap (left - (a.length : Int))))] rfl (Le.c rfl <| Le.e) ?_
    refine CW.ret ?_
    exact Post.one (RV.i rfl (by first | (simp_all [szI]; done) | (simp_all [szI]; omega))) (AOs.r (AOs.r AOs.e))
set_option maxHeartbeats 4000000 in
theorem laws_szEntryS_fn (a : List Entry) (left : Int) : Eng.Fn E.P 116 [.one (.r (sl 3 Entry.c a)), .one (.r (.v (.int .i64 left)))] (.one (.one (.w (.v (.int .i64 (szS szEntry a left)))))) [.one (.r (sl 3 Entry.c a)), .one (.r (.v (.int .i64 left)))] := by
  refine Eng.Fn.intro (E := E) (rvs := [.tmp 4]) Try.func116 rfl rfl rfl (by simp [outSlots, moved, rvSlot, sl]) ?_
  intro B g bo
  refine CW.bound (x := .tmp 0) (n := a.length) (AsT.r) (fun hl0 => ?_)
  refine CW.le [(0, .r (sl 3 Entry.c a)), (1, I left)] rfl (Le.c rfl <| Le.c rfl <| Le.e) ?_
  refine CW.seq ?_
  refine CW.region ?_
  refine RW.v rfl (V.as (d := I 0) rfl rfl) ?_
  refine RW.nil ?_
  refine CW.le [(0, .r (sl 3 Entry.c a)), (1, I left)] rfl (Le.c rfl <| Le.c rfl <| Le.e) ?_
  refine CW.seq ?_
  refine CW.region ?_
  refine RW.v rfl (V.mv (d := I left) rfl rfl) ?_
  refine RW.v rfl (V.mv (d := .r (sl 3 Entry.c a)) rfl rfl) ?_
  refine RW.v rfl (V.lenT (n := a.length) rfl rfl rfl .r) ?_
  refine RW.v rfl (V.arInt rfl rfl rfl rfl) ?_
  refine RW.v rfl (V.as (d := I (IntKind.i64.wrap (left - (a.length : Int)))) rfl rfl) ?_
  refine RW.nil ?_
  refine CW.le [(0, .r (sl 3 Entry.c a)), (1, I (IntKind.i64.wrap (left - (a.length : Int))))] rfl (Le.c rfl <| Le.c rfl <| Le.e) ?_
  refine CW.seq ?_
  refine CW.seq ?_
  refine CW.region ?_
  refine RW.v rfl (V.mv (d := I (IntKind.i64.wrap (left - (a.length : Int)))) rfl rfl) ?_
  refine RW.v rfl (V.cmpInt rfl rfl rfl rfl) ?_
  refine RW.nil ?_
  refine CW.le [(0, .r (sl 3 Entry.c a)), (1, I (IntKind.i64.wrap (left - (a.length : Int)))), (11, Bo (decide ((IntKind.i64.wrap (left - (a.length : Int))) < 0)))] rfl (Le.c rfl <| Le.c rfl <| Le.c rfl <| Le.e) ?_
  refine CW.cond rfl (fun h1 => ?_) (fun h1 => ?_)
  · skip
    refine CW.seq ?_
    refine CW.region ?_
    refine RW.v rfl (V.as (d := I (-1)) rfl rfl) ?_
    refine RW.nil ?_
    refine CW.le [(4, I (-1))] rfl (Le.c rfl <| Le.e) ?_
    refine CW.ret ?_
    exact Post.one (RV.i rfl (by first | (simp_all [szS, szL, szStr, szI]; done) | grind [szS, szL, szStr, szI])) (AOs.r (AOs.r AOs.e))
  · skip
    refine CW.skip ?_
    refine CW.le [(0, .r (sl 3 Entry.c a)), (1, I (IntKind.i64.wrap (left - (a.length : Int))))] rfl (Le.c rfl <| Le.c rfl <| Le.e) ?_
    refine CW.seq ?_
    refine CW.seq ?_
    refine CW.region ?_
    refine RW.v rfl (V.as (d := I 0) rfl rfl) ?_
    refine RW.nil ?_
    refine CW.le [(0, .r (sl 3 Entry.c a)), (1, I (IntKind.i64.wrap (left - (a.length : Int)))), (5, I 0)] rfl (Le.c rfl <| Le.c rfl <| Le.c rfl <| Le.e) ?_
    refine CW.block ?_
    refine CW.loopI 27 (fun (x : Nat × Int) => match x with | (i, l) => [(0, .r (sl 3 Entry.c a)), (1, I l), (5, I (i : Int))]) (fun (x : Nat × Int) => match x with | (i, l) => i ≤ a.length ∧ szL szEntry (a.drop i) l = szS szEntry a left) (fun (x : Nat × Int) => match x with | (i, l) => a.length - i) (0, _) rfl (Le.c rfl <| Le.c rfl <| Le.c rfl <| Le.e) ⟨by omega, by first | (simp_all [szS]; done) | grind [szS]⟩ ?_
    rintro ⟨i, l⟩ ⟨hb, hr⟩
    refine CW.seq ?_
    refine CW.seq ?_
    refine CW.region ?_
    refine RW.v rfl (V.mv (d := I (i : Int)) rfl rfl) ?_
    refine RW.v rfl (V.mv (d := .r (sl 3 Entry.c a)) rfl rfl) ?_
    refine RW.v rfl (V.lenT (n := a.length) rfl rfl rfl .r) ?_
    refine RW.v rfl (V.cmpInt rfl rfl rfl rfl) ?_
    refine RW.nil ?_
    refine CW.le [(0, .r (sl 3 Entry.c a)), (1, I l), (5, I (i : Int)), (15, Bo (decide ((i : Int) < (a.length : Int))))] rfl (Le.c rfl <| Le.c rfl <| Le.c rfl <| Le.c rfl <| Le.e) ?_
    refine CW.cond rfl (fun h2 => ?_) (fun h2 => ?_)
    · skip
      have hii : i < a.length := by have := h2; simp at this; first | exact this | omega | (simp; done) | (simp; omega)
      obtain ⟨ei, hei⟩ : ∃ e, a[i]? = some e := ⟨_, List.getElem?_eq_getElem hii⟩
      have hdi := drop_get hei
      refine CW.skip ?_
      refine CW.le [(0, .r (sl 3 Entry.c a)), (1, I l), (5, I (i : Int))] rfl (Le.c rfl <| Le.c rfl <| Le.c rfl <| Le.e) ?_
      refine CW.seq ?_
      refine CW.block ?_
      refine CW.seq ?_
      refine CW.region ?_
      refine RW.v rfl (V.mv (d := .r (sl 3 Entry.c a)) rfl rfl) ?_
      refine RW.v rfl (V.mv (d := I (i : Int)) rfl rfl) ?_
      refine RW.v rfl (V.indexS rfl rfl rfl rfl rfl rfl Entry.len hei) ?_
      refine RW.v rfl (V.loadAggR rfl rfl rfl rfl (Nat.le_of_ble_eq_true rfl)) ?_
      refine RW.v rfl (V.mv (d := I l) rfl rfl) ?_
      refine RW.call rfl (laws_szEntry_fn ei l) rfl (.cons (.agg (.cons (.r .r) (.cons (.r .r) (.cons (.r .r) (.nil))))) (.cons (.one (.r .r)) (.nil))) fun g3 => ?_
      refine RW.v rfl (V.as (d := I (szEntry ei l)) rfl rfl) ?_
      refine RW.nil ?_
      refine CW.le [(0, .r (sl 3 Entry.c a)), (1, I (szEntry ei l)), (5, I (i : Int))] rfl (Le.c rfl <| Le.c rfl <| Le.c rfl <| Le.e) ?_
      refine CW.seq ?_
      refine CW.region ?_
      refine RW.v rfl (V.mv (d := I (szEntry ei l)) rfl rfl) ?_
      refine RW.v rfl (V.cmpInt rfl rfl rfl rfl) ?_
      refine RW.nil ?_
      refine CW.le [(0, .r (sl 3 Entry.c a)), (1, I (szEntry ei l)), (5, I (i : Int)), (25, Bo (decide ((szEntry ei l) < 0)))] rfl (Le.c rfl <| Le.c rfl <| Le.c rfl <| Le.c rfl <| Le.e) ?_
      refine CW.cond rfl (fun h4 => ?_) (fun h4 => ?_)
      · skip
        refine CW.seq ?_
        refine CW.region ?_
        refine RW.v rfl (V.as (d := I (-1)) rfl rfl) ?_
        refine RW.nil ?_
        refine CW.le [(4, I (-1))] rfl (Le.c rfl <| Le.e) ?_
        refine CW.ret ?_
        exact Post.one (RV.i rfl (by first | (simp_all [szS, szL, szStr, szI]; done) | grind [szS, szL, szStr, szI])) (AOs.r (AOs.r AOs.e))
      · skip
        refine CW.skip ?_
        refine CW.le [(0, .r (sl 3 Entry.c a)), (1, I (szEntry ei l)), (5, I (i : Int))] rfl (Le.c rfl <| Le.c rfl <| Le.c rfl <| Le.e) ?_
        refine CW.region ?_
        refine RW.v rfl (V.mv (d := I (i : Int)) rfl rfl) ?_
        refine RW.v rfl (V.inc rfl rfl rfl hii hl0) ?_
        refine RW.v rfl (V.as (d := I ((i + 1 : Nat) : Int)) rfl rfl) ?_
        refine RW.nil ?_
        exact ⟨(i + 1, _), by simp only []; omega, ⟨by omega, by first | (simp_all [szL, szStr, szI]; done) | grind [szL, szStr, szI]⟩, rfl, Le.c rfl <| Le.c rfl <| Le.c rfl <| Le.e⟩
    · skip
      have hii : a.length ≤ i := by have := h2; simp at this; first | exact this | omega | (simp; done) | (simp; omega)
      have hdi : a.drop i = [] := List.drop_eq_nil_of_le hii
      refine CW.exit ?_
      refine CW.le [(1, I l)] rfl (Le.c rfl <| Le.e) ?_
      refine CW.seq ?_
      refine CW.region ?_
      refine RW.v rfl (V.mv (d := I l) rfl rfl) ?_
      refine RW.v rfl (V.as (d := I l) rfl rfl) ?_
      refine RW.nil ?_
      refine CW.le [(4, I l)] rfl (Le.c rfl <| Le.e) ?_
      refine CW.ret ?_
      exact Post.one (RV.i rfl (by first | (simp_all [szS, szL, szStr, szI]; done) | grind [szS, szL, szStr, szI])) (AOs.r (AOs.r AOs.e))
set_option maxHeartbeats 4000000 in
theorem laws_szLog_fn (a : Log) (left : Int) : Eng.Fn E.P 54 [.agg ((Log.c a).map .r), .one (.r (.v (.int .i64 left)))] (.one (.one (.w (.v (.int .i64 (szLog a left)))))) [.agg ((Log.c a).map .r), .one (.r (.v (.int .i64 left)))] := by
  refine Eng.Fn.intro (E := E) (rvs := [.tmp 4]) Try.func54 rfl rfl rfl (by simp [outSlots, moved, rvSlot, sl]) ?_
  intro B g bo
  refine CW.le [(0, .agg ((Log.c a).map .r)), (1, I left)] rfl (Le.c rfl <| Le.c rfl <| Le.e) ?_
  refine CW.seq ?_
  refine CW.region ?_
  refine RW.box (ds := ((Log.c a).map .r)) rfl rfl rfl fun b1 => ?_
  refine RW.v rfl (V.as (d := I 0) rfl rfl) ?_
  refine RW.nil ?_
  refine CW.le [(1, I left), (2, .obj b1 ((Log.c a).map .r))] rfl (Le.c rfl <| Le.c rfl <| Le.e) ?_
  refine CW.seq ?_
  refine CW.region ?_
  refine RW.v rfl (V.field rfl rfl rfl rfl (by decide) rfl) ?_
  refine RW.v rfl (V.loadPrim (d := .r (sl 3 Entry.c a.entries)) rfl rfl (.inr ⟨_, rfl⟩) rfl rfl rfl) ?_
  refine RW.v rfl (V.mv (d := I left) rfl rfl) ?_
  refine RW.call rfl (laws_szEntryS_fn a.entries left) rfl (.cons (.one (.r .r)) (.cons (.one (.r .r)) (.nil))) fun g2 => ?_
  refine RW.v rfl (V.as (d := I (szS szEntry a.entries left)) rfl rfl) ?_
  refine RW.nil ?_
  refine CW.le [(1, I (szS szEntry a.entries left))] rfl (Le.c rfl <| Le.e) ?_
  refine CW.seq ?_
  refine CW.seq ?_
  refine CW.region ?_
  refine RW.v rfl (V.mv (d := I (szS szEntry a.entries left)) rfl rfl) ?_
  refine RW.v rfl (V.cmpInt rfl rfl rfl rfl) ?_
  refine RW.nil ?_
  refine CW.le [(1, I (szS szEntry a.entries left)), (10, Bo (decide ((szS szEntry a.entries left) < 0)))] rfl (Le.c rfl <| Le.c rfl <| Le.e) ?_
  refine CW.cond rfl (fun h3 => ?_) (fun h3 => ?_)
  · skip
    refine CW.seq ?_
    refine CW.region ?_
    refine RW.v rfl (V.as (d := I (-1)) rfl rfl) ?_
    refine RW.nil ?_
    refine CW.le [(4, I (-1))] rfl (Le.c rfl <| Le.e) ?_
    refine CW.ret ?_
    exact Post.one (RV.i rfl (by first | (simp_all [szLog]; done) | (simp_all [szLog]; omega) | grind [szLog])) (AOs.a rfl (AOs.r AOs.e))
  · skip
    refine CW.skip ?_
    refine CW.le [(1, I (szS szEntry a.entries left))] rfl (Le.c rfl <| Le.e) ?_
    refine CW.seq ?_
    refine CW.region ?_
    refine RW.v rfl (V.mv (d := I (szS szEntry a.entries left)) rfl rfl) ?_
    refine RW.v rfl (V.as (d := I (szS szEntry a.entries left)) rfl rfl) ?_
    refine RW.nil ?_
    refine CW.le [(4, I (szS szEntry a.entries left))] rfl (Le.c rfl <| Le.e) ?_
    refine CW.ret ?_
    exact Post.one (RV.i rfl (by first | (simp_all [szLog]; done) | (simp_all [szLog]; omega) | grind [szLog])) (AOs.a rfl (AOs.r AOs.e))
set_option maxHeartbeats 4000000 in
theorem laws_szPeerS_fn (a : List Peer) (left : Int) : Eng.Fn E.P 55 [.one (.r (sl 4 Peer.c a)), .one (.r (.v (.int .i64 left)))] (.one (.one (.w (.v (.int .i64 (szI a left)))))) [.one (.r (sl 4 Peer.c a)), .one (.r (.v (.int .i64 left)))] := by
  refine Eng.Fn.intro (E := E) (rvs := [.tmp 4]) Try.func55 rfl rfl rfl (by simp [outSlots, moved, rvSlot, sl]) ?_
  intro B g bo
  refine CW.bound (x := .tmp 0) (n := a.length) (AsT.r) (fun hl0 => ?_)
  refine CW.le [(0, .r (sl 4 Peer.c a)), (1, I left)] rfl (Le.c rfl <| Le.c rfl <| Le.e) ?_
  refine CW.seq ?_
  refine CW.region ?_
  refine RW.v rfl (V.as (d := I 0) rfl rfl) ?_
  refine RW.nil ?_
  refine CW.le [(0, .r (sl 4 Peer.c a)), (1, I left)] rfl (Le.c rfl <| Le.c rfl <| Le.e) ?_
  refine CW.seq ?_
  refine CW.region ?_
  refine RW.v rfl (V.mv (d := I left) rfl rfl) ?_
  refine RW.v rfl (V.mv (d := .r (sl 4 Peer.c a)) rfl rfl) ?_
  refine RW.v rfl (V.lenT (n := a.length) rfl rfl rfl .r) ?_
  refine RW.v rfl (V.arInt rfl rfl rfl rfl) ?_
  refine RW.v rfl (V.as (d := I (IntKind.i64.wrap (left - (a.length : Int)))) rfl rfl) ?_
  refine RW.nil ?_
  refine CW.le [(1, I (IntKind.i64.wrap (left - (a.length : Int))))] rfl (Le.c rfl <| Le.e) ?_
  refine CW.seq ?_
  refine CW.seq ?_
  refine CW.region ?_
  refine RW.v rfl (V.mv (d := I (IntKind.i64.wrap (left - (a.length : Int)))) rfl rfl) ?_
  refine RW.v rfl (V.cmpInt rfl rfl rfl rfl) ?_
  refine RW.nil ?_
  refine CW.le [(1, I (IntKind.i64.wrap (left - (a.length : Int)))), (10, Bo (decide ((IntKind.i64.wrap (left - (a.length : Int))) < 0)))] rfl (Le.c rfl <| Le.c rfl <| Le.e) ?_
  refine CW.cond rfl (fun h1 => ?_) (fun h1 => ?_)
  · skip
    refine CW.seq ?_
    refine CW.region ?_
    refine RW.v rfl (V.as (d := I (-1)) rfl rfl) ?_
    refine RW.nil ?_
    refine CW.le [(4, I (-1))] rfl (Le.c rfl <| Le.e) ?_
    refine CW.ret ?_
    exact Post.one (RV.i rfl (by first | (simp_all [szI]; done) | (simp_all [szI]; omega))) (AOs.r (AOs.r AOs.e))
  · skip
    refine CW.skip ?_
    refine CW.le [(1, I (IntKind.i64.wrap (left - (a.length : Int))))] rfl (Le.c rfl <| Le.e) ?_
    refine CW.seq ?_
    refine CW.region ?_
    refine RW.v rfl (V.mv (d := I (IntKind.i64.wrap (left - (a.length : Int)))) rfl rfl) ?_
    refine RW.v rfl (V.as (d := I (IntKind.i64.wrap (left - (a.length : Int)))) rfl rfl) ?_
    refine RW.nil ?_
    refine CW.le [(4, I (IntKind.i64.wrap (left - (a.length : Int))))] rfl (Le.c rfl <| Le.e) ?_
    refine CW.ret ?_
    exact Post.one (RV.i rfl (by first | (simp_all [szI]; done) | (simp_all [szI]; omega))) (AOs.r (AOs.r AOs.e))
set_option maxHeartbeats 4000000 in
theorem laws_szNode_fn (a : Node) (left : Int) : Eng.Fn E.P 19 [.agg ((Node.c a).map .r), .one (.r (.v (.int .i64 left)))] (.one (.one (.w (.v (.int .i64 (szNode a left)))))) [.agg ((Node.c a).map .r), .one (.r (.v (.int .i64 left)))] := by
  refine Eng.Fn.intro (E := E) (rvs := [.tmp 4]) Try.func19 rfl rfl rfl (by simp [outSlots, moved, rvSlot, sl]) ?_
  intro B g bo
  refine CW.le [(0, .agg ((Node.c a).map .r)), (1, I left)] rfl (Le.c rfl <| Le.c rfl <| Le.e) ?_
  refine CW.seq ?_
  refine CW.region ?_
  refine RW.box (ds := ((Node.c a).map .r)) rfl rfl rfl fun b1 => ?_
  refine RW.v rfl (V.as (d := I 0) rfl rfl) ?_
  refine RW.nil ?_
  refine CW.le [(1, I left), (2, .obj b1 ((Node.c a).map .r))] rfl (Le.c rfl <| Le.c rfl <| Le.e) ?_
  refine CW.seq ?_
  refine CW.region ?_
  refine RW.v rfl (V.field rfl rfl rfl rfl (by decide) rfl) ?_
  refine RW.v rfl (V.loadPrim (d := .r (sl 1 cI a.conf)) rfl rfl (.inr ⟨_, rfl⟩) rfl rfl rfl) ?_
  refine RW.v rfl (V.mv (d := I left) rfl rfl) ?_
  refine RW.call rfl (laws_szIntS_fn a.conf left) rfl (.cons (.one (.r .r)) (.cons (.one (.r .r)) (.nil))) fun g2 => ?_
  refine RW.v rfl (V.as (d := I (szI a.conf left)) rfl rfl) ?_
  refine RW.nil ?_
  refine CW.le [(1, I (szI a.conf left)), (2, .obj b1 ((Node.c a).map .r))] rfl (Le.c rfl <| Le.c rfl <| Le.e) ?_
  refine CW.seq ?_
  refine CW.seq ?_
  refine CW.region ?_
  refine RW.v rfl (V.mv (d := I (szI a.conf left)) rfl rfl) ?_
  refine RW.v rfl (V.cmpInt rfl rfl rfl rfl) ?_
  refine RW.nil ?_
  refine CW.le [(1, I (szI a.conf left)), (2, .obj b1 ((Node.c a).map .r)), (10, Bo (decide ((szI a.conf left) < 0)))] rfl (Le.c rfl <| Le.c rfl <| Le.c rfl <| Le.e) ?_
  refine CW.cond rfl (fun h3 => ?_) (fun h3 => ?_)
  · skip
    refine CW.seq ?_
    refine CW.region ?_
    refine RW.v rfl (V.as (d := I (-1)) rfl rfl) ?_
    refine RW.nil ?_
    refine CW.le [(4, I (-1))] rfl (Le.c rfl <| Le.e) ?_
    refine CW.ret ?_
    exact Post.one (RV.i rfl (by first | (simp_all [szNode]; done) | (simp_all [szNode]; omega) | grind [szNode])) (AOs.a rfl (AOs.r AOs.e))
  · skip
    refine CW.skip ?_
    refine CW.le [(1, I (szI a.conf left)), (2, .obj b1 ((Node.c a).map .r))] rfl (Le.c rfl <| Le.c rfl <| Le.e) ?_
    refine CW.seq ?_
    refine CW.region ?_
    refine RW.v rfl (V.field rfl rfl rfl rfl (by decide) rfl) ?_
    refine RW.v rfl (V.loadAgg rfl rfl rfl rfl rfl (Nat.le_of_ble_eq_true rfl)) ?_
    refine RW.v rfl (V.mv (d := I (szI a.conf left)) rfl rfl) ?_
    refine RW.call rfl (laws_szLog_fn a.log (szI a.conf left)) rfl (.cons (.agg (.cons (.r .r) (.cons (.r .r) (.cons (.r .r) (.nil))))) (.cons (.one (.r .r)) (.nil))) fun g4 => ?_
    refine RW.v rfl (V.as (d := I (szLog a.log (szI a.conf left))) rfl rfl) ?_
    refine RW.nil ?_
    refine CW.le [(1, I (szLog a.log (szI a.conf left))), (2, .obj b1 ((Node.c a).map .r))] rfl (Le.c rfl <| Le.c rfl <| Le.e) ?_
    refine CW.seq ?_
    refine CW.seq ?_
    refine CW.region ?_
    refine RW.v rfl (V.mv (d := I (szLog a.log (szI a.conf left))) rfl rfl) ?_
    refine RW.v rfl (V.cmpInt rfl rfl rfl rfl) ?_
    refine RW.nil ?_
    refine CW.le [(1, I (szLog a.log (szI a.conf left))), (2, .obj b1 ((Node.c a).map .r)), (16, Bo (decide ((szLog a.log (szI a.conf left)) < 0)))] rfl (Le.c rfl <| Le.c rfl <| Le.c rfl <| Le.e) ?_
    refine CW.cond rfl (fun h5 => ?_) (fun h5 => ?_)
    · skip
      refine CW.seq ?_
      refine CW.region ?_
      refine RW.v rfl (V.as (d := I (-1)) rfl rfl) ?_
      refine RW.nil ?_
      refine CW.le [(4, I (-1))] rfl (Le.c rfl <| Le.e) ?_
      refine CW.ret ?_
      exact Post.one (RV.i rfl (by first | (simp_all [szNode]; done) | (simp_all [szNode]; omega) | grind [szNode])) (AOs.a rfl (AOs.r AOs.e))
    · skip
      refine CW.skip ?_
      refine CW.le [(1, I (szLog a.log (szI a.conf left))), (2, .obj b1 ((Node.c a).map .r))] rfl (Le.c rfl <| Le.c rfl <| Le.e) ?_
      refine CW.seq ?_
      refine CW.region ?_
      refine RW.v rfl (V.field rfl rfl rfl rfl (by decide) rfl) ?_
      refine RW.v rfl (V.loadPrim (d := .r (sl 1 cI a.votes)) rfl rfl (.inr ⟨_, rfl⟩) rfl rfl rfl) ?_
      refine RW.v rfl (V.mv (d := I (szLog a.log (szI a.conf left))) rfl rfl) ?_
      refine RW.call rfl (laws_szIntS_fn a.votes (szLog a.log (szI a.conf left))) rfl (.cons (.one (.r .r)) (.cons (.one (.r .r)) (.nil))) fun g6 => ?_
      refine RW.v rfl (V.as (d := I (szI a.votes (szLog a.log (szI a.conf left)))) rfl rfl) ?_
      refine RW.nil ?_
      refine CW.le [(1, I (szI a.votes (szLog a.log (szI a.conf left)))), (2, .obj b1 ((Node.c a).map .r))] rfl (Le.c rfl <| Le.c rfl <| Le.e) ?_
      refine CW.seq ?_
      refine CW.seq ?_
      refine CW.region ?_
      refine RW.v rfl (V.mv (d := I (szI a.votes (szLog a.log (szI a.conf left)))) rfl rfl) ?_
      refine RW.v rfl (V.cmpInt rfl rfl rfl rfl) ?_
      refine RW.nil ?_
      refine CW.le [(1, I (szI a.votes (szLog a.log (szI a.conf left)))), (2, .obj b1 ((Node.c a).map .r)), (22, Bo (decide ((szI a.votes (szLog a.log (szI a.conf left))) < 0)))] rfl (Le.c rfl <| Le.c rfl <| Le.c rfl <| Le.e) ?_
      refine CW.cond rfl (fun h7 => ?_) (fun h7 => ?_)
      · skip
        refine CW.seq ?_
        refine CW.region ?_
        refine RW.v rfl (V.as (d := I (-1)) rfl rfl) ?_
        refine RW.nil ?_
        refine CW.le [(4, I (-1))] rfl (Le.c rfl <| Le.e) ?_
        refine CW.ret ?_
        exact Post.one (RV.i rfl (by first | (simp_all [szNode]; done) | (simp_all [szNode]; omega) | grind [szNode])) (AOs.a rfl (AOs.r AOs.e))
      · skip
        refine CW.skip ?_
        refine CW.le [(1, I (szI a.votes (szLog a.log (szI a.conf left)))), (2, .obj b1 ((Node.c a).map .r))] rfl (Le.c rfl <| Le.c rfl <| Le.e) ?_
        refine CW.seq ?_
        refine CW.region ?_
        refine RW.v rfl (V.field rfl rfl rfl rfl (by decide) rfl) ?_
        refine RW.v rfl (V.loadPrim (d := .r (sl 4 Peer.c a.peers)) rfl rfl (.inr ⟨_, rfl⟩) rfl rfl rfl) ?_
        refine RW.v rfl (V.mv (d := I (szI a.votes (szLog a.log (szI a.conf left)))) rfl rfl) ?_
        refine RW.call rfl (laws_szPeerS_fn a.peers (szI a.votes (szLog a.log (szI a.conf left)))) rfl (.cons (.one (.r .r)) (.cons (.one (.r .r)) (.nil))) fun g8 => ?_
        refine RW.v rfl (V.as (d := I (szI a.peers (szI a.votes (szLog a.log (szI a.conf left))))) rfl rfl) ?_
        refine RW.nil ?_
        refine CW.le [(1, I (szI a.peers (szI a.votes (szLog a.log (szI a.conf left)))))] rfl (Le.c rfl <| Le.e) ?_
        refine CW.seq ?_
        refine CW.seq ?_
        refine CW.region ?_
        refine RW.v rfl (V.mv (d := I (szI a.peers (szI a.votes (szLog a.log (szI a.conf left))))) rfl rfl) ?_
        refine RW.v rfl (V.cmpInt rfl rfl rfl rfl) ?_
        refine RW.nil ?_
        refine CW.le [(1, I (szI a.peers (szI a.votes (szLog a.log (szI a.conf left))))), (28, Bo (decide ((szI a.peers (szI a.votes (szLog a.log (szI a.conf left)))) < 0)))] rfl (Le.c rfl <| Le.c rfl <| Le.e) ?_
        refine CW.cond rfl (fun h9 => ?_) (fun h9 => ?_)
        · skip
          refine CW.seq ?_
          refine CW.region ?_
          refine RW.v rfl (V.as (d := I (-1)) rfl rfl) ?_
          refine RW.nil ?_
          refine CW.le [(4, I (-1))] rfl (Le.c rfl <| Le.e) ?_
          refine CW.ret ?_
          exact Post.one (RV.i rfl (by first | (simp_all [szNode]; done) | (simp_all [szNode]; omega) | grind [szNode])) (AOs.a rfl (AOs.r AOs.e))
        · skip
          refine CW.skip ?_
          refine CW.le [(1, I (szI a.peers (szI a.votes (szLog a.log (szI a.conf left)))))] rfl (Le.c rfl <| Le.e) ?_
          refine CW.seq ?_
          refine CW.region ?_
          refine RW.v rfl (V.mv (d := I (szI a.peers (szI a.votes (szLog a.log (szI a.conf left))))) rfl rfl) ?_
          refine RW.v rfl (V.as (d := I (szI a.peers (szI a.votes (szLog a.log (szI a.conf left))))) rfl rfl) ?_
          refine RW.nil ?_
          refine CW.le [(4, I (szI a.peers (szI a.votes (szLog a.log (szI a.conf left)))))] rfl (Le.c rfl <| Le.e) ?_
          refine CW.ret ?_
          exact Post.one (RV.i rfl (by first | (simp_all [szNode]; done) | (simp_all [szNode]; omega) | grind [szNode])) (AOs.a rfl (AOs.r AOs.e))
set_option maxHeartbeats 4000000 in
theorem laws_toIntS_fn (a : List Int) (hm : a.length ≤ 1048576) : Eng.Fn E.P 25 [.one (.r (sl 1 cI a))] (.one (.one (.w (sl 1 cI a)))) [.one (.r (sl 1 cI a))] := by
  refine Eng.Fn.intro (E := E) (rvs := [.tmp 2]) Try.func25 rfl rfl rfl (by simp [outSlots, moved, rvSlot, sl]) ?_
  intro B g bo
  refine CW.bound (x := .tmp 0) (n := a.length) (AsT.r) (fun hl0 => ?_)
  refine CW.le [(0, .r (sl 1 cI a))] rfl (Le.c rfl <| Le.e) ?_
  refine CW.seq ?_
  refine CW.region ?_
  refine RW.v rfl (V.as (d := .r (.v (.slice none 0 0))) rfl rfl) ?_
  refine RW.nil ?_
  refine CW.le [(0, .r (sl 1 cI a))] rfl (Le.c rfl <| Le.e) ?_
  refine CW.seq ?_
  refine CW.region ?_
  refine RW.v rfl (V.mv (d := .r (sl 1 cI a)) rfl rfl) ?_
  refine RW.v rfl (V.lenT (n := a.length) rfl rfl rfl .r) ?_
  refine RW.makeS (n := a.length) (c := cI) 0 rfl rfl rfl rfl rfl rfl rfl rfl (ZT.v ZT.e) (by show 8 * a.length ≤ 281474976710656; omega) (by simp only [maxLen]; omega) fun X1 => ?_
  refine RW.assignMove rfl rfl rfl (by decide) (Nat.le_of_ble_eq_true rfl) (Nat.le_of_ble_eq_true rfl) ?_
  refine RW.nil ?_
  refine CW.le [(0, .r (sl 1 cI a)), (3, .w (sl 1 cI (List.replicate a.length 0)) X1)] rfl (Le.c rfl <| Le.c rfl <| Le.e) ?_
  refine CW.seq ?_
  refine CW.seq ?_
  refine CW.region ?_
  refine RW.v rfl (V.as (d := I 0) rfl rfl) ?_
  refine RW.nil ?_
  refine CW.le [(0, .r (sl 1 cI a)), (3, .w (sl 1 cI (List.replicate a.length 0)) X1), (4, I 0)] rfl (Le.c rfl <| Le.c rfl <| Le.c rfl <| Le.e) ?_
  refine CW.block ?_
  refine CW.loopI 22 (fun (i : Nat) => [(0, .r (sl 1 cI a)), (3, .w (sl 1 cI (a.take i ++ List.replicate (a.length - i) 0)) X1), (4, I (i : Int))]) (fun (i : Nat) => i ≤ a.length) (fun (i : Nat) => a.length - i) 0 rfl (Le.c rfl <| Le.c rfl <| Le.c rfl <| Le.e) (by omega) ?_
  rintro i hb
  refine CW.seq ?_
  refine CW.seq ?_
  refine CW.region ?_
  refine RW.v rfl (V.mv (d := I (i : Int)) rfl rfl) ?_
  refine RW.v rfl (V.mv (d := .r (sl 1 cI a)) rfl rfl) ?_
  refine RW.v rfl (V.lenT (n := a.length) rfl rfl rfl .r) ?_
  refine RW.v rfl (V.cmpInt rfl rfl rfl rfl) ?_
  refine RW.nil ?_
  refine CW.le [(0, .r (sl 1 cI a)), (3, .w (sl 1 cI (a.take i ++ List.replicate (a.length - i) 0)) X1), (4, I (i : Int)), (11, Bo (decide ((i : Int) < (a.length : Int))))] rfl (Le.c rfl <| Le.c rfl <| Le.c rfl <| Le.c rfl <| Le.e) ?_
  refine CW.cond rfl (fun h2 => ?_) (fun h2 => ?_)
  · skip
    have hii : i < a.length := by have := h2; simp at this; first | exact this | omega | (simp; done) | (simp; omega)
    obtain ⟨ei, hei⟩ : ∃ e, a[i]? = some e := ⟨_, List.getElem?_eq_getElem hii⟩
    have hdi := drop_get hei
    refine CW.skip ?_
    refine CW.le [(0, .r (sl 1 cI a)), (3, .w (sl 1 cI (a.take i ++ List.replicate (a.length - i) 0)) X1), (4, I (i : Int))] rfl (Le.c rfl <| Le.c rfl <| Le.c rfl <| Le.e) ?_
    refine CW.seq ?_
    refine CW.block ?_
    refine CW.region ?_
    refine RW.v rfl (V.mv (d := .al 3 none 1 ((a.take i ++ List.replicate (a.length - i) 0).length) X1 0) rfl rfl) ?_
    refine RW.v rfl (V.mv (d := I (i : Int)) rfl rfl) ?_
    refine RW.v rfl (V.mv (d := .r (sl 1 cI a)) rfl rfl) ?_
    refine RW.v rfl (V.mv (d := I (i : Int)) rfl rfl) ?_
    refine RW.v rfl (V.indexS rfl rfl rfl rfl rfl rfl cI.len hei) ?_
    refine RW.v rfl (V.loadPrimR (t0 := .v (.int .i64 ei)) rfl rfl (.inl rfl) rfl rfl) ?_
    refine RW.v rfl (V.indexW rfl rfl rfl rfl rfl rfl rfl (by simp; omega)) ?_
    refine RW.storeS1 (v := ei) (c := cI) (u := .v (.int .i64 ei)) rfl rfl rfl rfl rfl rfl rfl (.inl rfl) rfl cI.len (by simp; omega) rfl ?_
    refine RW.nil ?_
    refine CW.le [(0, .r (sl 1 cI a)), (3, .w (sl 1 cI ((a.take i ++ List.replicate (a.length - i) 0).set i ei)) X1), (4, I (i : Int))] rfl (Le.c rfl <| Le.c rfl <| Le.c rfl <| Le.e) ?_
    refine CW.region ?_
    refine RW.v rfl (V.mv (d := I (i : Int)) rfl rfl) ?_
    refine RW.v rfl (V.inc rfl rfl rfl hii hl0) ?_
    refine RW.v rfl (V.as (d := I ((i + 1 : Nat) : Int)) rfl rfl) ?_
    refine RW.nil ?_
    exact ⟨i + 1, by omega, by omega, rfl, Le.c rfl <| Le.c (congrArg (fun l => D.w (sl _ cI l) X1) (take_set hei)) <| Le.c rfl <| Le.e⟩
  · skip
    have hii : a.length ≤ i := by have := h2; simp at this; first | exact this | omega | (simp; done) | (simp; omega)
    have hdi : a.drop i = [] := List.drop_eq_nil_of_le hii
    refine CW.exit ?_
    refine CW.le [(3, .w (sl 1 cI (a.take i ++ List.replicate (a.length - i) 0)) X1)] rfl (Le.c rfl <| Le.e) ?_
    refine CW.seq ?_
    refine CW.region ?_
    refine RW.v rfl (V.mv (d := .al 3 none 1 ((a.take i ++ List.replicate (a.length - i) 0).length) X1 0) rfl rfl) ?_
    refine RW.v rfl (V.as (d := .al 3 none 1 ((a.take i ++ List.replicate (a.length - i) 0).length) X1 0) rfl rfl) ?_
    refine RW.pullS 2 3 (by decide) rfl rfl ?_
    refine RW.nil ?_
    refine CW.le [(2, .w (sl 1 cI (a.take i ++ List.replicate (a.length - i) 0)) X1)] rfl (Le.c rfl <| Le.e) ?_
    refine CW.ret ?_
    exact Post.one (RV.w rfl (by rw [List.take_of_length_le hii, show a.length - i = 0 from by omega]; simp)) (AOs.r AOs.e)
set_option maxHeartbeats 4000000 in
theorem laws_toEntry_fn (a : Entry) (hs : okToEntry a) : Eng.Fn E.P 115 [.agg ((Entry.c a).map .r)] (.one (.agg ((Entry.c a).map .w))) [.agg ((Entry.c a).map .r)] := by
  refine Eng.Fn.intro (E := E) (rvs := [.cell 2 81]) Try.func115 rfl rfl rfl (by simp [outSlots, moved, rvSlot, sl]) ?_
  intro B g bo
  refine CW.le [(0, .agg ((Entry.c a).map .r))] rfl (Le.c rfl <| Le.e) ?_
  refine CW.seq ?_
  refine CW.region ?_
  refine RW.box (ds := ((Entry.c a).map .r)) rfl rfl rfl fun b1 => ?_
  refine RW.alloc (ds := [I 0, I 0, S (⟨#[]⟩)]) rfl rfl rfl rfl fun b2 => ?_
  refine RW.nil ?_
  refine CW.le [(1, .obj b1 ((Entry.c a).map .r)), (2, .obj b2 [I 0, I 0, S (⟨#[]⟩)])] rfl (Le.c rfl <| Le.c rfl <| Le.e) ?_
  refine CW.seq ?_
  refine CW.region ?_
  refine RW.alloc (ds := [I 0, I 0, S (⟨#[]⟩)]) rfl rfl rfl rfl fun b3 => ?_
  refine RW.nil ?_
  refine CW.le [(1, .obj b1 ((Entry.c a).map .r)), (2, .obj b2 [I 0, I 0, S (⟨#[]⟩)]), (3, .obj b3 [I 0, I 0, S (⟨#[]⟩)])] rfl (Le.c rfl <| Le.c rfl <| Le.c rfl <| Le.e) ?_
  refine CW.seq ?_
  refine CW.region ?_
  refine RW.v rfl (V.field rfl rfl rfl rfl (by decide) rfl) ?_
  refine RW.v rfl (V.loadPrim (d := I a.term_) rfl rfl (.inl rfl) rfl rfl rfl) ?_
  refine RW.v rfl (V.field rfl rfl rfl rfl (by decide) rfl) ?_
  refine RW.store (d := I a.term_) rfl rfl rfl rfl rfl rfl rfl (Nat.le_of_ble_eq_true rfl) rfl rfl ?_
  refine RW.nil ?_
  refine CW.le [(1, .obj b1 ((Entry.c a).map .r)), (2, .obj b2 [I 0, I 0, S (⟨#[]⟩)]), (3, .obj b3 [I a.term_, I 0, S (⟨#[]⟩)])] rfl (Le.c rfl <| Le.c rfl <| Le.c rfl <| Le.e) ?_
  refine CW.seq ?_
  refine CW.region ?_
  refine RW.v rfl (V.field rfl rfl rfl rfl (by decide) rfl) ?_
  refine RW.v rfl (V.loadPrim (d := I a.kind) rfl rfl (.inl rfl) rfl rfl rfl) ?_
  refine RW.v rfl (V.field rfl rfl rfl rfl (by decide) rfl) ?_
  refine RW.store (d := I a.kind) rfl rfl rfl rfl rfl rfl rfl (Nat.le_of_ble_eq_true rfl) rfl rfl ?_
  refine RW.nil ?_
  refine CW.le [(1, .obj b1 ((Entry.c a).map .r)), (2, .obj b2 [I 0, I 0, S (⟨#[]⟩)]), (3, .obj b3 [I a.term_, I a.kind, S (⟨#[]⟩)])] rfl (Le.c rfl <| Le.c rfl <| Le.c rfl <| Le.e) ?_
  refine CW.seq ?_
  refine CW.region ?_
  refine RW.v rfl (V.field rfl rfl rfl rfl (by decide) rfl) ?_
  refine RW.v rfl (V.loadPrim (d := S a.data) rfl rfl (.inl rfl) rfl rfl rfl) ?_
  refine RW.v rfl (V.field rfl rfl rfl rfl (by decide) rfl) ?_
  refine RW.store (d := S a.data) rfl rfl rfl rfl rfl rfl rfl (Nat.le_of_ble_eq_true rfl) rfl rfl ?_
  refine RW.nil ?_
  refine CW.le [(2, .obj b2 [I 0, I 0, S (⟨#[]⟩)]), (3, .obj b3 ((Entry.c a).map .r))] rfl (Le.c rfl <| Le.c rfl <| Le.e) ?_
  refine CW.seq ?_
  refine CW.region ?_
  refine RW.v rfl (V.loadAgg rfl rfl rfl rfl rfl (Nat.le_of_ble_eq_true rfl)) ?_
  refine RW.storeAgg (es := ((Entry.c a).map .r)) rfl rfl rfl rfl rfl rfl rfl rfl (Nat.le_of_ble_eq_true rfl) rfl ?_
  refine RW.nil ?_
  refine CW.le [(2, .obj b2 ((Entry.c a).map .r))] rfl (Le.c rfl <| Le.e) ?_
  refine CW.ret ?_
  exact Post.one (RV.c (f := fun e => (Entry.c e).map .w) (e' := a) rfl rfl rfl rfl (DT.v (DT.v (DT.v DT.e))) (by simp_all)) (AOs.a rfl AOs.e)
set_option maxHeartbeats 4000000 in
theorem laws_toEntryS_fn (a : List Entry) (hm : a.length ≤ 1048576) (hs : ∀ x ∈ a, okToEntry x) : Eng.Fn E.P 117 [.one (.r (sl 3 Entry.c a))] (.one (.one (.w (sl 3 Entry.c a)))) [.one (.r (sl 3 Entry.c a))] := by
  refine Eng.Fn.intro (E := E) (rvs := [.tmp 2]) Try.func117 rfl rfl rfl (by simp [outSlots, moved, rvSlot, sl]) ?_
  intro B g bo
  refine CW.bound (x := .tmp 0) (n := a.length) (AsT.r) (fun hl0 => ?_)
  refine CW.le [(0, .r (sl 3 Entry.c a))] rfl (Le.c rfl <| Le.e) ?_
  refine CW.seq ?_
  refine CW.region ?_
  refine RW.v rfl (V.as (d := .r (.v (.slice none 0 0))) rfl rfl) ?_
  refine RW.nil ?_
  refine CW.le [(0, .r (sl 3 Entry.c a))] rfl (Le.c rfl <| Le.e) ?_
  refine CW.seq ?_
  refine CW.region ?_
  refine RW.v rfl (V.mv (d := .r (sl 3 Entry.c a)) rfl rfl) ?_
  refine RW.v rfl (V.lenT (n := a.length) rfl rfl rfl .r) ?_
  refine RW.makeS (n := a.length) (c := Entry.c) Entry.z rfl rfl rfl rfl rfl rfl rfl rfl (ZT.v (ZT.v (ZT.v ZT.e))) (by show 32 * a.length ≤ 281474976710656; omega) (by simp only [maxLen]; omega) fun X1 => ?_
  refine RW.assignMove rfl rfl rfl (by decide) (Nat.le_of_ble_eq_true rfl) (Nat.le_of_ble_eq_true rfl) ?_
  refine RW.nil ?_
  refine CW.le [(0, .r (sl 3 Entry.c a)), (3, .w (sl 3 Entry.c (List.replicate a.length Entry.z)) X1)] rfl (Le.c rfl <| Le.c rfl <| Le.e) ?_
  refine CW.seq ?_
  refine CW.seq ?_
  refine CW.region ?_
  refine RW.v rfl (V.as (d := I 0) rfl rfl) ?_
  refine RW.nil ?_
  refine CW.le [(0, .r (sl 3 Entry.c a)), (3, .w (sl 3 Entry.c (List.replicate a.length Entry.z)) X1), (4, I 0)] rfl (Le.c rfl <| Le.c rfl <| Le.c rfl <| Le.e) ?_
  refine CW.block ?_
  refine CW.loopI 23 (fun (i : Nat) => [(0, .r (sl 3 Entry.c a)), (3, .w (sl 3 Entry.c (a.take i ++ List.replicate (a.length - i) Entry.z)) X1), (4, I (i : Int))]) (fun (i : Nat) => i ≤ a.length) (fun (i : Nat) => a.length - i) 0 rfl (Le.c rfl <| Le.c rfl <| Le.c rfl <| Le.e) (by omega) ?_
  rintro i hb
  refine CW.seq ?_
  refine CW.seq ?_
  refine CW.region ?_
  refine RW.v rfl (V.mv (d := I (i : Int)) rfl rfl) ?_
  refine RW.v rfl (V.mv (d := .r (sl 3 Entry.c a)) rfl rfl) ?_
  refine RW.v rfl (V.lenT (n := a.length) rfl rfl rfl .r) ?_
  refine RW.v rfl (V.cmpInt rfl rfl rfl rfl) ?_
  refine RW.nil ?_
  refine CW.le [(0, .r (sl 3 Entry.c a)), (3, .w (sl 3 Entry.c (a.take i ++ List.replicate (a.length - i) Entry.z)) X1), (4, I (i : Int)), (11, Bo (decide ((i : Int) < (a.length : Int))))] rfl (Le.c rfl <| Le.c rfl <| Le.c rfl <| Le.c rfl <| Le.e) ?_
  refine CW.cond rfl (fun h2 => ?_) (fun h2 => ?_)
  · skip
    have hii : i < a.length := by have := h2; simp at this; first | exact this | omega | (simp; done) | (simp; omega)
    obtain ⟨ei, hei⟩ : ∃ e, a[i]? = some e := ⟨_, List.getElem?_eq_getElem hii⟩
    have hdi := drop_get hei
    refine CW.skip ?_
    refine CW.le [(0, .r (sl 3 Entry.c a)), (3, .w (sl 3 Entry.c (a.take i ++ List.replicate (a.length - i) Entry.z)) X1), (4, I (i : Int))] rfl (Le.c rfl <| Le.c rfl <| Le.c rfl <| Le.e) ?_
    refine CW.seq ?_
    refine CW.block ?_
    refine CW.region ?_
    refine RW.v rfl (V.mv (d := .al 3 none 3 ((a.take i ++ List.replicate (a.length - i) Entry.z).length) X1 0) rfl rfl) ?_
    refine RW.v rfl (V.mv (d := I (i : Int)) rfl rfl) ?_
    refine RW.v rfl (V.mv (d := .r (sl 3 Entry.c a)) rfl rfl) ?_
    refine RW.v rfl (V.mv (d := I (i : Int)) rfl rfl) ?_
    refine RW.v rfl (V.indexS rfl rfl rfl rfl rfl rfl Entry.len hei) ?_
    refine RW.v rfl (V.loadAggR rfl rfl rfl rfl (Nat.le_of_ble_eq_true rfl)) ?_
    refine RW.call rfl (laws_toEntry_fn ei (hs ei (List.mem_of_getElem? hei))) rfl (.cons (.agg (.cons (.r .r) (.cons (.r .r) (.cons (.r .r) (.nil))))) (.nil)) fun g3 => ?_
    refine RW.v rfl (V.indexW rfl rfl rfl rfl rfl rfl rfl (by simp; omega)) ?_
    refine RW.storeS (v := ei) rfl rfl rfl rfl rfl rfl rfl (DW.v (DW.v (DW.v DW.e))) Entry.len (by decide) (by simp; omega) rfl ?_
    refine RW.nil ?_
    refine CW.le [(0, .r (sl 3 Entry.c a)), (3, .w (sl 3 Entry.c ((a.take i ++ List.replicate (a.length - i) Entry.z).set i ei)) X1), (4, I (i : Int))] rfl (Le.c rfl <| Le.c rfl <| Le.c rfl <| Le.e) ?_
    refine CW.region ?_
    refine RW.v rfl (V.mv (d := I (i : Int)) rfl rfl) ?_
    refine RW.v rfl (V.inc rfl rfl rfl hii hl0) ?_
    refine RW.v rfl (V.as (d := I ((i + 1 : Nat) : Int)) rfl rfl) ?_
    refine RW.nil ?_
    exact ⟨i + 1, by omega, by omega, rfl, Le.c rfl <| Le.c (congrArg (fun l => D.w (sl _ Entry.c l) X1) (take_set hei)) <| Le.c rfl <| Le.e⟩
  · skip
    have hii : a.length ≤ i := by have := h2; simp at this; first | exact this | omega | (simp; done) | (simp; omega)
    have hdi : a.drop i = [] := List.drop_eq_nil_of_le hii
    refine CW.exit ?_
    refine CW.le [(3, .w (sl 3 Entry.c (a.take i ++ List.replicate (a.length - i) Entry.z)) X1)] rfl (Le.c rfl <| Le.e) ?_
    refine CW.seq ?_
    refine CW.region ?_
    refine RW.v rfl (V.mv (d := .al 3 none 3 ((a.take i ++ List.replicate (a.length - i) Entry.z).length) X1 0) rfl rfl) ?_
    refine RW.v rfl (V.as (d := .al 3 none 3 ((a.take i ++ List.replicate (a.length - i) Entry.z).length) X1 0) rfl rfl) ?_
    refine RW.pullS 2 3 (by decide) rfl rfl ?_
    refine RW.nil ?_
    refine CW.le [(2, .w (sl 3 Entry.c (a.take i ++ List.replicate (a.length - i) Entry.z)) X1)] rfl (Le.c rfl <| Le.e) ?_
    refine CW.ret ?_
    exact Post.one (RV.w rfl (by rw [List.take_of_length_le hii, show a.length - i = 0 from by omega]; simp)) (AOs.r AOs.e)
set_option maxHeartbeats 4000000 in
theorem laws_toLog_fn (a : Log) (hs : okToLog a) : Eng.Fn E.P 63 [.agg ((Log.c a).map .r)] (.one (.agg ((Log.c a).map .w))) [.agg ((Log.c a).map .r)] := by
  refine Eng.Fn.intro (E := E) (rvs := [.cell 2 44]) Try.func63 rfl rfl rfl (by simp [outSlots, moved, rvSlot, sl]) ?_
  intro B g bo
  refine CW.le [(0, .agg ((Log.c a).map .r))] rfl (Le.c rfl <| Le.e) ?_
  refine CW.seq ?_
  refine CW.region ?_
  refine RW.box (ds := ((Log.c a).map .r)) rfl rfl rfl fun b1 => ?_
  refine RW.alloc (ds := [I 0, I 0, .r (.v (.slice none 0 0))]) rfl rfl rfl rfl fun b2 => ?_
  refine RW.nil ?_
  refine CW.le [(1, .obj b1 ((Log.c a).map .r)), (2, .obj b2 [I 0, I 0, .r (.v (.slice none 0 0))])] rfl (Le.c rfl <| Le.c rfl <| Le.e) ?_
  refine CW.seq ?_
  refine CW.region ?_
  refine RW.alloc (ds := [I 0, I 0, .r (.v (.slice none 0 0))]) rfl rfl rfl rfl fun b3 => ?_
  refine RW.nil ?_
  refine CW.le [(1, .obj b1 ((Log.c a).map .r)), (2, .obj b2 [I 0, I 0, .r (.v (.slice none 0 0))]), (3, .obj b3 [I 0, I 0, .r (.v (.slice none 0 0))])] rfl (Le.c rfl <| Le.c rfl <| Le.c rfl <| Le.e) ?_
  refine CW.seq ?_
  refine CW.region ?_
  refine RW.v rfl (V.field rfl rfl rfl rfl (by decide) rfl) ?_
  refine RW.v rfl (V.loadPrim (d := I a.start) rfl rfl (.inl rfl) rfl rfl rfl) ?_
  refine RW.v rfl (V.field rfl rfl rfl rfl (by decide) rfl) ?_
  refine RW.store (d := I a.start) rfl rfl rfl rfl rfl rfl rfl (Nat.le_of_ble_eq_true rfl) rfl rfl ?_
  refine RW.nil ?_
  refine CW.le [(1, .obj b1 ((Log.c a).map .r)), (2, .obj b2 [I 0, I 0, .r (.v (.slice none 0 0))]), (3, .obj b3 [I a.start, I 0, .r (.v (.slice none 0 0))])] rfl (Le.c rfl <| Le.c rfl <| Le.c rfl <| Le.e) ?_
  refine CW.seq ?_
  refine CW.region ?_
  refine RW.v rfl (V.field rfl rfl rfl rfl (by decide) rfl) ?_
  refine RW.v rfl (V.loadPrim (d := I a.startTerm) rfl rfl (.inl rfl) rfl rfl rfl) ?_
  refine RW.v rfl (V.field rfl rfl rfl rfl (by decide) rfl) ?_
  refine RW.store (d := I a.startTerm) rfl rfl rfl rfl rfl rfl rfl (Nat.le_of_ble_eq_true rfl) rfl rfl ?_
  refine RW.nil ?_
  refine CW.le [(1, .obj b1 ((Log.c a).map .r)), (2, .obj b2 [I 0, I 0, .r (.v (.slice none 0 0))]), (3, .obj b3 [I a.start, I a.startTerm, .r (.v (.slice none 0 0))])] rfl (Le.c rfl <| Le.c rfl <| Le.c rfl <| Le.e) ?_
  refine CW.seq ?_
  refine CW.region ?_
  refine RW.v rfl (V.field rfl rfl rfl rfl (by decide) rfl) ?_
  refine RW.v rfl (V.loadPrim (d := .r (sl 3 Entry.c a.entries)) rfl rfl (.inr ⟨_, rfl⟩) rfl rfl rfl) ?_
  refine RW.call rfl (laws_toEntryS_fn a.entries hs.1 hs.2) rfl (.cons (.one (.r .r)) (.nil)) fun g4 => ?_
  refine RW.v rfl (V.field rfl rfl rfl rfl (by decide) rfl) ?_
  refine RW.store (d := .al 12 none 3 a.entries.length (g4 0 0) 0) rfl rfl rfl rfl rfl rfl rfl (Nat.le_of_ble_eq_true rfl) rfl rfl ?_
  refine RW.le [(2, .obj b2 [I 0, I 0, .r (.v (.slice none 0 0))]), (3, .obj b3 [I a.start, I a.startTerm, .al 12 none 3 a.entries.length (g4 0 0) 0]), (12, .w (sl 3 Entry.c a.entries) (g4 0 0))] rfl (Le.c rfl <| Le.c rfl <| Le.c rfl <| Le.e) ?_
  refine RW.pullT (k := 3) (l := 12) (j := 2) 3 12 2 rfl rfl rfl (by decide) rfl rfl rfl ?_
  refine RW.le [(2, .obj b2 [I 0, I 0, .r (.v (.slice none 0 0))]), (3, .obj b3 [I a.start, I a.startTerm, .w (sl 3 Entry.c a.entries) (g4 0 0)])] rfl (Le.c rfl <| Le.c rfl <| Le.e) ?_
  refine RW.nil ?_
  refine CW.le [(2, .obj b2 [I 0, I 0, .r (.v (.slice none 0 0))]), (3, .obj b3 [I a.start, I a.startTerm, .w (sl 3 Entry.c a.entries) (g4 0 0)])] rfl (Le.c rfl <| Le.c rfl <| Le.e) ?_
  refine CW.seq ?_
  refine CW.region ?_
  refine RW.v rfl (V.loadAgg rfl rfl rfl rfl rfl (Nat.le_of_ble_eq_true rfl)) ?_
  refine RW.storeAgg (es := [I a.start, I a.startTerm, .al 3 (some 2) 3 a.entries.length (g4 0 0) 0]) rfl rfl rfl rfl rfl rfl rfl rfl (Nat.le_of_ble_eq_true rfl) rfl ?_
  refine RW.le [(2, .obj b2 [I a.start, I a.startTerm, .al 3 (some 2) 3 a.entries.length (g4 0 0) 0]), (3, .obj b3 [I a.start, I a.startTerm, .w (sl 3 Entry.c a.entries) (g4 0 0)])] rfl (Le.c rfl <| Le.c rfl <| Le.e) ?_
  refine RW.pullO (k := 2) (l := 3) (j := 2) 2 3 2 rfl rfl rfl (by decide) rfl rfl rfl rfl ?_
  refine RW.le [(2, .obj b2 [I a.start, I a.startTerm, .w (sl 3 Entry.c a.entries) (g4 0 0)])] rfl (Le.c rfl <| Le.e) ?_
  refine RW.nil ?_
  refine CW.le [(2, .obj b2 [I a.start, I a.startTerm, .w (sl 3 Entry.c a.entries) (g4 0 0)])] rfl (Le.c rfl <| Le.e) ?_
  refine CW.ret ?_
  exact Post.one (RV.c (f := fun e => (Log.c e).map .w) (e' := a) rfl rfl rfl rfl (DT.v (DT.v (DT.w DT.e))) (by simp_all)) (AOs.a rfl AOs.e)
set_option maxHeartbeats 4000000 in
theorem laws_toPeer_fn (a : Peer) : Eng.Fn E.P 118 [.agg ((Peer.c a).map .r)] (.one (.agg ((Peer.c a).map .w))) [.agg ((Peer.c a).map .r)] := by
  refine Eng.Fn.intro (E := E) (rvs := [.cell 2 98]) Try.func118 rfl rfl rfl (by simp [outSlots, moved, rvSlot, sl]) ?_
  intro B g bo
  refine CW.le [(0, .agg ((Peer.c a).map .r))] rfl (Le.c rfl <| Le.e) ?_
  refine CW.seq ?_
  refine CW.region ?_
  refine RW.box (ds := ((Peer.c a).map .r)) rfl rfl rfl fun b1 => ?_
  refine RW.alloc (ds := [I 0, I 0, I 0, I 0]) rfl rfl rfl rfl fun b2 => ?_
  refine RW.nil ?_
  refine CW.le [(1, .obj b1 ((Peer.c a).map .r)), (2, .obj b2 [I 0, I 0, I 0, I 0])] rfl (Le.c rfl <| Le.c rfl <| Le.e) ?_
  refine CW.seq ?_
  refine CW.region ?_
  refine RW.alloc (ds := [I 0, I 0, I 0, I 0]) rfl rfl rfl rfl fun b3 => ?_
  refine RW.nil ?_
  refine CW.le [(1, .obj b1 ((Peer.c a).map .r)), (2, .obj b2 [I 0, I 0, I 0, I 0]), (3, .obj b3 [I 0, I 0, I 0, I 0])] rfl (Le.c rfl <| Le.c rfl <| Le.c rfl <| Le.e) ?_
  refine CW.seq ?_
  refine CW.region ?_
  refine RW.v rfl (V.field rfl rfl rfl rfl (by decide) rfl) ?_
  refine RW.v rfl (V.loadPrim (d := I a.id) rfl rfl (.inl rfl) rfl rfl rfl) ?_
  refine RW.v rfl (V.field rfl rfl rfl rfl (by decide) rfl) ?_
  refine RW.store (d := I a.id) rfl rfl rfl rfl rfl rfl rfl (Nat.le_of_ble_eq_true rfl) rfl rfl ?_
  refine RW.nil ?_
  refine CW.le [(1, .obj b1 ((Peer.c a).map .r)), (2, .obj b2 [I 0, I 0, I 0, I 0]), (3, .obj b3 [I a.id, I 0, I 0, I 0])] rfl (Le.c rfl <| Le.c rfl <| Le.c rfl <| Le.e) ?_
  refine CW.seq ?_
  refine CW.region ?_
  refine RW.v rfl (V.field rfl rfl rfl rfl (by decide) rfl) ?_
  refine RW.v rfl (V.loadPrim (d := I a.next) rfl rfl (.inl rfl) rfl rfl rfl) ?_
  refine RW.v rfl (V.field rfl rfl rfl rfl (by decide) rfl) ?_
  refine RW.store (d := I a.next) rfl rfl rfl rfl rfl rfl rfl (Nat.le_of_ble_eq_true rfl) rfl rfl ?_
  refine RW.nil ?_
  refine CW.le [(1, .obj b1 ((Peer.c a).map .r)), (2, .obj b2 [I 0, I 0, I 0, I 0]), (3, .obj b3 [I a.id, I a.next, I 0, I 0])] rfl (Le.c rfl <| Le.c rfl <| Le.c rfl <| Le.e) ?_
  refine CW.seq ?_
  refine CW.region ?_
  refine RW.v rfl (V.field rfl rfl rfl rfl (by decide) rfl) ?_
  refine RW.v rfl (V.loadPrim (d := I a.match_) rfl rfl (.inl rfl) rfl rfl rfl) ?_
  refine RW.v rfl (V.field rfl rfl rfl rfl (by decide) rfl) ?_
  refine RW.store (d := I a.match_) rfl rfl rfl rfl rfl rfl rfl (Nat.le_of_ble_eq_true rfl) rfl rfl ?_
  refine RW.nil ?_
  refine CW.le [(1, .obj b1 ((Peer.c a).map .r)), (2, .obj b2 [I 0, I 0, I 0, I 0]), (3, .obj b3 [I a.id, I a.next, I a.match_, I 0])] rfl (Le.c rfl <| Le.c rfl <| Le.c rfl <| Le.e) ?_
  refine CW.seq ?_
  refine CW.region ?_
  refine RW.v rfl (V.field rfl rfl rfl rfl (by decide) rfl) ?_
  refine RW.v rfl (V.loadPrim (d := I a.sent) rfl rfl (.inl rfl) rfl rfl rfl) ?_
  refine RW.v rfl (V.field rfl rfl rfl rfl (by decide) rfl) ?_
  refine RW.store (d := I a.sent) rfl rfl rfl rfl rfl rfl rfl (Nat.le_of_ble_eq_true rfl) rfl rfl ?_
  refine RW.nil ?_
  refine CW.le [(2, .obj b2 [I 0, I 0, I 0, I 0]), (3, .obj b3 ((Peer.c a).map .r))] rfl (Le.c rfl <| Le.c rfl <| Le.e) ?_
  refine CW.seq ?_
  refine CW.region ?_
  refine RW.v rfl (V.loadAgg rfl rfl rfl rfl rfl (Nat.le_of_ble_eq_true rfl)) ?_
  refine RW.storeAgg (es := ((Peer.c a).map .r)) rfl rfl rfl rfl rfl rfl rfl rfl (Nat.le_of_ble_eq_true rfl) rfl ?_
  refine RW.nil ?_
  refine CW.le [(2, .obj b2 ((Peer.c a).map .r))] rfl (Le.c rfl <| Le.e) ?_
  refine CW.ret ?_
  exact Post.one (RV.c (f := fun e => (Peer.c e).map .w) (e' := a) rfl rfl rfl rfl (DT.v (DT.v (DT.v (DT.v DT.e)))) (by simp_all)) (AOs.a rfl AOs.e)
set_option maxHeartbeats 4000000 in
theorem laws_toPeerS_fn (a : List Peer) (hm : a.length ≤ 1048576) : Eng.Fn E.P 64 [.one (.r (sl 4 Peer.c a))] (.one (.one (.w (sl 4 Peer.c a)))) [.one (.r (sl 4 Peer.c a))] := by
  refine Eng.Fn.intro (E := E) (rvs := [.tmp 2]) Try.func64 rfl rfl rfl (by simp [outSlots, moved, rvSlot, sl]) ?_
  intro B g bo
  refine CW.bound (x := .tmp 0) (n := a.length) (AsT.r) (fun hl0 => ?_)
  refine CW.le [(0, .r (sl 4 Peer.c a))] rfl (Le.c rfl <| Le.e) ?_
  refine CW.seq ?_
  refine CW.region ?_
  refine RW.v rfl (V.as (d := .r (.v (.slice none 0 0))) rfl rfl) ?_
  refine RW.nil ?_
  refine CW.le [(0, .r (sl 4 Peer.c a))] rfl (Le.c rfl <| Le.e) ?_
  refine CW.seq ?_
  refine CW.region ?_
  refine RW.v rfl (V.mv (d := .r (sl 4 Peer.c a)) rfl rfl) ?_
  refine RW.v rfl (V.lenT (n := a.length) rfl rfl rfl .r) ?_
  refine RW.makeS (n := a.length) (c := Peer.c) Peer.z rfl rfl rfl rfl rfl rfl rfl rfl (ZT.v (ZT.v (ZT.v (ZT.v ZT.e)))) (by show 32 * a.length ≤ 281474976710656; omega) (by simp only [maxLen]; omega) fun X1 => ?_
  refine RW.assignMove rfl rfl rfl (by decide) (Nat.le_of_ble_eq_true rfl) (Nat.le_of_ble_eq_true rfl) ?_
  refine RW.nil ?_
  refine CW.le [(0, .r (sl 4 Peer.c a)), (3, .w (sl 4 Peer.c (List.replicate a.length Peer.z)) X1)] rfl (Le.c rfl <| Le.c rfl <| Le.e) ?_
  refine CW.seq ?_
  refine CW.seq ?_
  refine CW.region ?_
  refine RW.v rfl (V.as (d := I 0) rfl rfl) ?_
  refine RW.nil ?_
  refine CW.le [(0, .r (sl 4 Peer.c a)), (3, .w (sl 4 Peer.c (List.replicate a.length Peer.z)) X1), (4, I 0)] rfl (Le.c rfl <| Le.c rfl <| Le.c rfl <| Le.e) ?_
  refine CW.block ?_
  refine CW.loopI 23 (fun (i : Nat) => [(0, .r (sl 4 Peer.c a)), (3, .w (sl 4 Peer.c (a.take i ++ List.replicate (a.length - i) Peer.z)) X1), (4, I (i : Int))]) (fun (i : Nat) => i ≤ a.length) (fun (i : Nat) => a.length - i) 0 rfl (Le.c rfl <| Le.c rfl <| Le.c rfl <| Le.e) (by omega) ?_
  rintro i hb
  refine CW.seq ?_
  refine CW.seq ?_
  refine CW.region ?_
  refine RW.v rfl (V.mv (d := I (i : Int)) rfl rfl) ?_
  refine RW.v rfl (V.mv (d := .r (sl 4 Peer.c a)) rfl rfl) ?_
  refine RW.v rfl (V.lenT (n := a.length) rfl rfl rfl .r) ?_
  refine RW.v rfl (V.cmpInt rfl rfl rfl rfl) ?_
  refine RW.nil ?_
  refine CW.le [(0, .r (sl 4 Peer.c a)), (3, .w (sl 4 Peer.c (a.take i ++ List.replicate (a.length - i) Peer.z)) X1), (4, I (i : Int)), (11, Bo (decide ((i : Int) < (a.length : Int))))] rfl (Le.c rfl <| Le.c rfl <| Le.c rfl <| Le.c rfl <| Le.e) ?_
  refine CW.cond rfl (fun h2 => ?_) (fun h2 => ?_)
  · skip
    have hii : i < a.length := by have := h2; simp at this; first | exact this | omega | (simp; done) | (simp; omega)
    obtain ⟨ei, hei⟩ : ∃ e, a[i]? = some e := ⟨_, List.getElem?_eq_getElem hii⟩
    have hdi := drop_get hei
    refine CW.skip ?_
    refine CW.le [(0, .r (sl 4 Peer.c a)), (3, .w (sl 4 Peer.c (a.take i ++ List.replicate (a.length - i) Peer.z)) X1), (4, I (i : Int))] rfl (Le.c rfl <| Le.c rfl <| Le.c rfl <| Le.e) ?_
    refine CW.seq ?_
    refine CW.block ?_
    refine CW.region ?_
    refine RW.v rfl (V.mv (d := .al 3 none 4 ((a.take i ++ List.replicate (a.length - i) Peer.z).length) X1 0) rfl rfl) ?_
    refine RW.v rfl (V.mv (d := I (i : Int)) rfl rfl) ?_
    refine RW.v rfl (V.mv (d := .r (sl 4 Peer.c a)) rfl rfl) ?_
    refine RW.v rfl (V.mv (d := I (i : Int)) rfl rfl) ?_
    refine RW.v rfl (V.indexS rfl rfl rfl rfl rfl rfl Peer.len hei) ?_
    refine RW.v rfl (V.loadAggR rfl rfl rfl rfl (Nat.le_of_ble_eq_true rfl)) ?_
    refine RW.call rfl (laws_toPeer_fn ei) rfl (.cons (.agg (.cons (.r .r) (.cons (.r .r) (.cons (.r .r) (.cons (.r .r) (.nil)))))) (.nil)) fun g3 => ?_
    refine RW.v rfl (V.indexW rfl rfl rfl rfl rfl rfl rfl (by simp; omega)) ?_
    refine RW.storeS (v := ei) rfl rfl rfl rfl rfl rfl rfl (DW.v (DW.v (DW.v (DW.v DW.e)))) Peer.len (by decide) (by simp; omega) rfl ?_
    refine RW.nil ?_
    refine CW.le [(0, .r (sl 4 Peer.c a)), (3, .w (sl 4 Peer.c ((a.take i ++ List.replicate (a.length - i) Peer.z).set i ei)) X1), (4, I (i : Int))] rfl (Le.c rfl <| Le.c rfl <| Le.c rfl <| Le.e) ?_
    refine CW.region ?_
    refine RW.v rfl (V.mv (d := I (i : Int)) rfl rfl) ?_
    refine RW.v rfl (V.inc rfl rfl rfl hii hl0) ?_
    refine RW.v rfl (V.as (d := I ((i + 1 : Nat) : Int)) rfl rfl) ?_
    refine RW.nil ?_
    exact ⟨i + 1, by omega, by omega, rfl, Le.c rfl <| Le.c (congrArg (fun l => D.w (sl _ Peer.c l) X1) (take_set hei)) <| Le.c rfl <| Le.e⟩
  · skip
    have hii : a.length ≤ i := by have := h2; simp at this; first | exact this | omega | (simp; done) | (simp; omega)
    have hdi : a.drop i = [] := List.drop_eq_nil_of_le hii
    refine CW.exit ?_
    refine CW.le [(3, .w (sl 4 Peer.c (a.take i ++ List.replicate (a.length - i) Peer.z)) X1)] rfl (Le.c rfl <| Le.e) ?_
    refine CW.seq ?_
    refine CW.region ?_
    refine RW.v rfl (V.mv (d := .al 3 none 4 ((a.take i ++ List.replicate (a.length - i) Peer.z).length) X1 0) rfl rfl) ?_
    refine RW.v rfl (V.as (d := .al 3 none 4 ((a.take i ++ List.replicate (a.length - i) Peer.z).length) X1 0) rfl rfl) ?_
    refine RW.pullS 2 3 (by decide) rfl rfl ?_
    refine RW.nil ?_
    refine CW.le [(2, .w (sl 4 Peer.c (a.take i ++ List.replicate (a.length - i) Peer.z)) X1)] rfl (Le.c rfl <| Le.e) ?_
    refine CW.ret ?_
    exact Post.one (RV.w rfl (by rw [List.take_of_length_le hii, show a.length - i = 0 from by omega]; simp)) (AOs.r AOs.e)
set_option maxHeartbeats 4000000 in
theorem laws_toNode_fn (a : Node) (hs : okToNode a) : Eng.Fn E.P 21 [.agg ((Node.c a).map .r)] (.one (.agg ((Node.c a).map .w))) [.agg ((Node.c a).map .r)] := by
  refine Eng.Fn.intro (E := E) (rvs := [.cell 2 47]) Try.func21 rfl rfl rfl (by simp [outSlots, moved, rvSlot, sl]) ?_
  intro B g bo
  refine CW.le [(0, .agg ((Node.c a).map .r))] rfl (Le.c rfl <| Le.e) ?_
  refine CW.seq ?_
  refine CW.region ?_
  refine RW.box (ds := ((Node.c a).map .r)) rfl rfl rfl fun b1 => ?_
  refine RW.alloc (ds := [I 0, I 0, I 0, I 0, I 0, .r (.v (.slice none 0 0)), I 0, I 0, .r (.v (.slice none 0 0)), I 0, I 0, I 0, .r (.v (.slice none 0 0)), .r (.v (.slice none 0 0))]) rfl rfl rfl rfl fun b2 => ?_
  refine RW.nil ?_
  refine CW.le [(1, .obj b1 ((Node.c a).map .r)), (2, .obj b2 [I 0, I 0, I 0, I 0, I 0, .r (.v (.slice none 0 0)), I 0, I 0, .r (.v (.slice none 0 0)), I 0, I 0, I 0, .r (.v (.slice none 0 0)), .r (.v (.slice none 0 0))])] rfl (Le.c rfl <| Le.c rfl <| Le.e) ?_
  refine CW.seq ?_
  refine CW.region ?_
  refine RW.alloc (ds := [I 0, I 0, I 0, I 0, I 0, .r (.v (.slice none 0 0)), I 0, I 0, .r (.v (.slice none 0 0)), I 0, I 0, I 0, .r (.v (.slice none 0 0)), .r (.v (.slice none 0 0))]) rfl rfl rfl rfl fun b3 => ?_
  refine RW.nil ?_
  refine CW.le [(1, .obj b1 ((Node.c a).map .r)), (2, .obj b2 [I 0, I 0, I 0, I 0, I 0, .r (.v (.slice none 0 0)), I 0, I 0, .r (.v (.slice none 0 0)), I 0, I 0, I 0, .r (.v (.slice none 0 0)), .r (.v (.slice none 0 0))]), (3, .obj b3 [I 0, I 0, I 0, I 0, I 0, .r (.v (.slice none 0 0)), I 0, I 0, .r (.v (.slice none 0 0)), I 0, I 0, I 0, .r (.v (.slice none 0 0)), .r (.v (.slice none 0 0))])] rfl (Le.c rfl <| Le.c rfl <| Le.c rfl <| Le.e) ?_
  refine CW.seq ?_
  refine CW.region ?_
  refine RW.v rfl (V.field rfl rfl rfl rfl (by decide) rfl) ?_
  refine RW.v rfl (V.loadPrim (d := I a.id) rfl rfl (.inl rfl) rfl rfl rfl) ?_
  refine RW.v rfl (V.field rfl rfl rfl rfl (by decide) rfl) ?_
  refine RW.store (d := I a.id) rfl rfl rfl rfl rfl rfl rfl (Nat.le_of_ble_eq_true rfl) rfl rfl ?_
  refine RW.nil ?_
  refine CW.le [(1, .obj b1 ((Node.c a).map .r)), (2, .obj b2 [I 0, I 0, I 0, I 0, I 0, .r (.v (.slice none 0 0)), I 0, I 0, .r (.v (.slice none 0 0)), I 0, I 0, I 0, .r (.v (.slice none 0 0)), .r (.v (.slice none 0 0))]), (3, .obj b3 [I a.id, I 0, I 0, I 0, I 0, .r (.v (.slice none 0 0)), I 0, I 0, .r (.v (.slice none 0 0)), I 0, I 0, I 0, .r (.v (.slice none 0 0)), .r (.v (.slice none 0 0))])] rfl (Le.c rfl <| Le.c rfl <| Le.c rfl <| Le.e) ?_
  refine CW.seq ?_
  refine CW.region ?_
  refine RW.v rfl (V.field rfl rfl rfl rfl (by decide) rfl) ?_
  refine RW.v rfl (V.loadPrim (d := I a.term_) rfl rfl (.inl rfl) rfl rfl rfl) ?_
  refine RW.v rfl (V.field rfl rfl rfl rfl (by decide) rfl) ?_
  refine RW.store (d := I a.term_) rfl rfl rfl rfl rfl rfl rfl (Nat.le_of_ble_eq_true rfl) rfl rfl ?_
  refine RW.nil ?_
  refine CW.le [(1, .obj b1 ((Node.c a).map .r)), (2, .obj b2 [I 0, I 0, I 0, I 0, I 0, .r (.v (.slice none 0 0)), I 0, I 0, .r (.v (.slice none 0 0)), I 0, I 0, I 0, .r (.v (.slice none 0 0)), .r (.v (.slice none 0 0))]), (3, .obj b3 [I a.id, I a.term_, I 0, I 0, I 0, .r (.v (.slice none 0 0)), I 0, I 0, .r (.v (.slice none 0 0)), I 0, I 0, I 0, .r (.v (.slice none 0 0)), .r (.v (.slice none 0 0))])] rfl (Le.c rfl <| Le.c rfl <| Le.c rfl <| Le.e) ?_
  refine CW.seq ?_
  refine CW.region ?_
  refine RW.v rfl (V.field rfl rfl rfl rfl (by decide) rfl) ?_
  refine RW.v rfl (V.loadPrim (d := I a.vote) rfl rfl (.inl rfl) rfl rfl rfl) ?_
  refine RW.v rfl (V.field rfl rfl rfl rfl (by decide) rfl) ?_
  refine RW.store (d := I a.vote) rfl rfl rfl rfl rfl rfl rfl (Nat.le_of_ble_eq_true rfl) rfl rfl ?_
  refine RW.nil ?_
  refine CW.le [(1, .obj b1 ((Node.c a).map .r)), (2, .obj b2 [I 0, I 0, I 0, I 0, I 0, .r (.v (.slice none 0 0)), I 0, I 0, .r (.v (.slice none 0 0)), I 0, I 0, I 0, .r (.v (.slice none 0 0)), .r (.v (.slice none 0 0))]), (3, .obj b3 [I a.id, I a.term_, I a.vote, I 0, I 0, .r (.v (.slice none 0 0)), I 0, I 0, .r (.v (.slice none 0 0)), I 0, I 0, I 0, .r (.v (.slice none 0 0)), .r (.v (.slice none 0 0))])] rfl (Le.c rfl <| Le.c rfl <| Le.c rfl <| Le.e) ?_
  refine CW.seq ?_
  refine CW.region ?_
  refine RW.v rfl (V.field rfl rfl rfl rfl (by decide) rfl) ?_
  refine RW.v rfl (V.loadPrim (d := I a.role) rfl rfl (.inl rfl) rfl rfl rfl) ?_
  refine RW.v rfl (V.field rfl rfl rfl rfl (by decide) rfl) ?_
  refine RW.store (d := I a.role) rfl rfl rfl rfl rfl rfl rfl (Nat.le_of_ble_eq_true rfl) rfl rfl ?_
  refine RW.nil ?_
  refine CW.le [(1, .obj b1 ((Node.c a).map .r)), (2, .obj b2 [I 0, I 0, I 0, I 0, I 0, .r (.v (.slice none 0 0)), I 0, I 0, .r (.v (.slice none 0 0)), I 0, I 0, I 0, .r (.v (.slice none 0 0)), .r (.v (.slice none 0 0))]), (3, .obj b3 [I a.id, I a.term_, I a.vote, I a.role, I 0, .r (.v (.slice none 0 0)), I 0, I 0, .r (.v (.slice none 0 0)), I 0, I 0, I 0, .r (.v (.slice none 0 0)), .r (.v (.slice none 0 0))])] rfl (Le.c rfl <| Le.c rfl <| Le.c rfl <| Le.e) ?_
  refine CW.seq ?_
  refine CW.region ?_
  refine RW.v rfl (V.field rfl rfl rfl rfl (by decide) rfl) ?_
  refine RW.v rfl (V.loadPrim (d := I a.lead) rfl rfl (.inl rfl) rfl rfl rfl) ?_
  refine RW.v rfl (V.field rfl rfl rfl rfl (by decide) rfl) ?_
  refine RW.store (d := I a.lead) rfl rfl rfl rfl rfl rfl rfl (Nat.le_of_ble_eq_true rfl) rfl rfl ?_
  refine RW.nil ?_
  refine CW.le [(1, .obj b1 ((Node.c a).map .r)), (2, .obj b2 [I 0, I 0, I 0, I 0, I 0, .r (.v (.slice none 0 0)), I 0, I 0, .r (.v (.slice none 0 0)), I 0, I 0, I 0, .r (.v (.slice none 0 0)), .r (.v (.slice none 0 0))]), (3, .obj b3 [I a.id, I a.term_, I a.vote, I a.role, I a.lead, .r (.v (.slice none 0 0)), I 0, I 0, .r (.v (.slice none 0 0)), I 0, I 0, I 0, .r (.v (.slice none 0 0)), .r (.v (.slice none 0 0))])] rfl (Le.c rfl <| Le.c rfl <| Le.c rfl <| Le.e) ?_
  refine CW.seq ?_
  refine CW.region ?_
  refine RW.v rfl (V.field rfl rfl rfl rfl (by decide) rfl) ?_
  refine RW.v rfl (V.loadPrim (d := .r (sl 1 cI a.conf)) rfl rfl (.inr ⟨_, rfl⟩) rfl rfl rfl) ?_
  refine RW.call rfl (laws_toIntS_fn a.conf hs.1.1) rfl (.cons (.one (.r .r)) (.nil)) fun g4 => ?_
  refine RW.v rfl (V.field rfl rfl rfl rfl (by decide) rfl) ?_
  refine RW.store (d := .al 21 none 1 a.conf.length (g4 0 0) 0) rfl rfl rfl rfl rfl rfl rfl (Nat.le_of_ble_eq_true rfl) rfl rfl ?_
  refine RW.le [(1, .obj b1 ((Node.c a).map .r)), (2, .obj b2 [I 0, I 0, I 0, I 0, I 0, .r (.v (.slice none 0 0)), I 0, I 0, .r (.v (.slice none 0 0)), I 0, I 0, I 0, .r (.v (.slice none 0 0)), .r (.v (.slice none 0 0))]), (3, .obj b3 [I a.id, I a.term_, I a.vote, I a.role, I a.lead, .al 21 none 1 a.conf.length (g4 0 0) 0, I 0, I 0, .r (.v (.slice none 0 0)), I 0, I 0, I 0, .r (.v (.slice none 0 0)), .r (.v (.slice none 0 0))]), (21, .w (sl 1 cI a.conf) (g4 0 0))] rfl (Le.c rfl <| Le.c rfl <| Le.c rfl <| Le.c rfl <| Le.e) ?_
  refine RW.pullT (k := 3) (l := 21) (j := 5) 3 21 5 rfl rfl rfl (by decide) rfl rfl rfl ?_
  refine RW.le [(1, .obj b1 ((Node.c a).map .r)), (2, .obj b2 [I 0, I 0, I 0, I 0, I 0, .r (.v (.slice none 0 0)), I 0, I 0, .r (.v (.slice none 0 0)), I 0, I 0, I 0, .r (.v (.slice none 0 0)), .r (.v (.slice none 0 0))]), (3, .obj b3 [I a.id, I a.term_, I a.vote, I a.role, I a.lead, .w (sl 1 cI a.conf) (g4 0 0), I 0, I 0, .r (.v (.slice none 0 0)), I 0, I 0, I 0, .r (.v (.slice none 0 0)), .r (.v (.slice none 0 0))])] rfl (Le.c rfl <| Le.c rfl <| Le.c rfl <| Le.e) ?_
  refine RW.nil ?_
  refine CW.le [(1, .obj b1 ((Node.c a).map .r)), (2, .obj b2 [I 0, I 0, I 0, I 0, I 0, .r (.v (.slice none 0 0)), I 0, I 0, .r (.v (.slice none 0 0)), I 0, I 0, I 0, .r (.v (.slice none 0 0)), .r (.v (.slice none 0 0))]), (3, .obj b3 [I a.id, I a.term_, I a.vote, I a.role, I a.lead, .w (sl 1 cI a.conf) (g4 0 0), I 0, I 0, .r (.v (.slice none 0 0)), I 0, I 0, I 0, .r (.v (.slice none 0 0)), .r (.v (.slice none 0 0))])] rfl (Le.c rfl <| Le.c rfl <| Le.c rfl <| Le.e) ?_
  refine CW.seq ?_
  refine CW.region ?_
  refine RW.v rfl (V.field rfl rfl rfl rfl (by decide) rfl) ?_
  refine RW.v rfl (V.loadAgg rfl rfl rfl rfl rfl (Nat.le_of_ble_eq_true rfl)) ?_
  refine RW.call rfl (laws_toLog_fn a.log hs.2.1) rfl (.cons (.agg (.cons (.r .r) (.cons (.r .r) (.cons (.r .r) (.nil))))) (.nil)) fun g5 => ?_
  refine RW.v rfl (V.field rfl rfl rfl rfl (by decide) rfl) ?_
  refine RW.storeAgg (es := [I a.log.start, I a.log.startTerm, .al 25 (some 2) 3 a.log.entries.length (g5 0 2) 0]) rfl rfl rfl rfl rfl rfl rfl rfl (Nat.le_of_ble_eq_true rfl) rfl ?_
  refine RW.le [(1, .obj b1 ((Node.c a).map .r)), (2, .obj b2 [I 0, I 0, I 0, I 0, I 0, .r (.v (.slice none 0 0)), I 0, I 0, .r (.v (.slice none 0 0)), I 0, I 0, I 0, .r (.v (.slice none 0 0)), .r (.v (.slice none 0 0))]), (3, .obj b3 [I a.id, I a.term_, I a.vote, I a.role, I a.lead, .w (sl 1 cI a.conf) (g4 0 0), I a.log.start, I a.log.startTerm, .al 25 (some 2) 3 a.log.entries.length (g5 0 2) 0, I 0, I 0, I 0, .r (.v (.slice none 0 0)), .r (.v (.slice none 0 0))]), (25, .agg [I a.log.start, I a.log.startTerm, .w (sl 3 Entry.c a.log.entries) (g5 0 2)])] rfl (Le.c rfl <| Le.c rfl <| Le.c rfl <| Le.c rfl <| Le.e) ?_
  refine RW.pullA (k := 3) (l := 25) (j := 8) 3 25 8 rfl rfl rfl (by decide) rfl rfl rfl rfl ?_
  refine RW.le [(1, .obj b1 ((Node.c a).map .r)), (2, .obj b2 [I 0, I 0, I 0, I 0, I 0, .r (.v (.slice none 0 0)), I 0, I 0, .r (.v (.slice none 0 0)), I 0, I 0, I 0, .r (.v (.slice none 0 0)), .r (.v (.slice none 0 0))]), (3, .obj b3 [I a.id, I a.term_, I a.vote, I a.role, I a.lead, .w (sl 1 cI a.conf) (g4 0 0), I a.log.start, I a.log.startTerm, .w (sl 3 Entry.c a.log.entries) (g5 0 2), I 0, I 0, I 0, .r (.v (.slice none 0 0)), .r (.v (.slice none 0 0))])] rfl (Le.c rfl <| Le.c rfl <| Le.c rfl <| Le.e) ?_
  refine RW.nil ?_
  refine CW.le [(1, .obj b1 ((Node.c a).map .r)), (2, .obj b2 [I 0, I 0, I 0, I 0, I 0, .r (.v (.slice none 0 0)), I 0, I 0, .r (.v (.slice none 0 0)), I 0, I 0, I 0, .r (.v (.slice none 0 0)), .r (.v (.slice none 0 0))]), (3, .obj b3 [I a.id, I a.term_, I a.vote, I a.role, I a.lead, .w (sl 1 cI a.conf) (g4 0 0), I a.log.start, I a.log.startTerm, .w (sl 3 Entry.c a.log.entries) (g5 0 2), I 0, I 0, I 0, .r (.v (.slice none 0 0)), .r (.v (.slice none 0 0))])] rfl (Le.c rfl <| Le.c rfl <| Le.c rfl <| Le.e) ?_
  refine CW.seq ?_
  refine CW.region ?_
  refine RW.v rfl (V.field rfl rfl rfl rfl (by decide) rfl) ?_
  refine RW.v rfl (V.loadPrim (d := I a.commit) rfl rfl (.inl rfl) rfl rfl rfl) ?_
  refine RW.v rfl (V.field rfl rfl rfl rfl (by decide) rfl) ?_
  refine RW.store (d := I a.commit) rfl rfl rfl rfl rfl rfl rfl (Nat.le_of_ble_eq_true rfl) rfl rfl ?_
  refine RW.nil ?_
  refine CW.le [(1, .obj b1 ((Node.c a).map .r)), (2, .obj b2 [I 0, I 0, I 0, I 0, I 0, .r (.v (.slice none 0 0)), I 0, I 0, .r (.v (.slice none 0 0)), I 0, I 0, I 0, .r (.v (.slice none 0 0)), .r (.v (.slice none 0 0))]), (3, .obj b3 [I a.id, I a.term_, I a.vote, I a.role, I a.lead, .w (sl 1 cI a.conf) (g4 0 0), I a.log.start, I a.log.startTerm, .w (sl 3 Entry.c a.log.entries) (g5 0 2), I a.commit, I 0, I 0, .r (.v (.slice none 0 0)), .r (.v (.slice none 0 0))])] rfl (Le.c rfl <| Le.c rfl <| Le.c rfl <| Le.e) ?_
  refine CW.seq ?_
  refine CW.region ?_
  refine RW.v rfl (V.field rfl rfl rfl rfl (by decide) rfl) ?_
  refine RW.v rfl (V.loadPrim (d := I a.clock) rfl rfl (.inl rfl) rfl rfl rfl) ?_
  refine RW.v rfl (V.field rfl rfl rfl rfl (by decide) rfl) ?_
  refine RW.store (d := I a.clock) rfl rfl rfl rfl rfl rfl rfl (Nat.le_of_ble_eq_true rfl) rfl rfl ?_
  refine RW.nil ?_
  refine CW.le [(1, .obj b1 ((Node.c a).map .r)), (2, .obj b2 [I 0, I 0, I 0, I 0, I 0, .r (.v (.slice none 0 0)), I 0, I 0, .r (.v (.slice none 0 0)), I 0, I 0, I 0, .r (.v (.slice none 0 0)), .r (.v (.slice none 0 0))]), (3, .obj b3 [I a.id, I a.term_, I a.vote, I a.role, I a.lead, .w (sl 1 cI a.conf) (g4 0 0), I a.log.start, I a.log.startTerm, .w (sl 3 Entry.c a.log.entries) (g5 0 2), I a.commit, I a.clock, I 0, .r (.v (.slice none 0 0)), .r (.v (.slice none 0 0))])] rfl (Le.c rfl <| Le.c rfl <| Le.c rfl <| Le.e) ?_
  refine CW.seq ?_
  refine CW.region ?_
  refine RW.v rfl (V.field rfl rfl rfl rfl (by decide) rfl) ?_
  refine RW.v rfl (V.loadPrim (d := I a.limit) rfl rfl (.inl rfl) rfl rfl rfl) ?_
  refine RW.v rfl (V.field rfl rfl rfl rfl (by decide) rfl) ?_
  refine RW.store (d := I a.limit) rfl rfl rfl rfl rfl rfl rfl (Nat.le_of_ble_eq_true rfl) rfl rfl ?_
  refine RW.nil ?_
  refine CW.le [(1, .obj b1 ((Node.c a).map .r)), (2, .obj b2 [I 0, I 0, I 0, I 0, I 0, .r (.v (.slice none 0 0)), I 0, I 0, .r (.v (.slice none 0 0)), I 0, I 0, I 0, .r (.v (.slice none 0 0)), .r (.v (.slice none 0 0))]), (3, .obj b3 [I a.id, I a.term_, I a.vote, I a.role, I a.lead, .w (sl 1 cI a.conf) (g4 0 0), I a.log.start, I a.log.startTerm, .w (sl 3 Entry.c a.log.entries) (g5 0 2), I a.commit, I a.clock, I a.limit, .r (.v (.slice none 0 0)), .r (.v (.slice none 0 0))])] rfl (Le.c rfl <| Le.c rfl <| Le.c rfl <| Le.e) ?_
  refine CW.seq ?_
  refine CW.region ?_
  refine RW.v rfl (V.field rfl rfl rfl rfl (by decide) rfl) ?_
  refine RW.v rfl (V.loadPrim (d := .r (sl 1 cI a.votes)) rfl rfl (.inr ⟨_, rfl⟩) rfl rfl rfl) ?_
  refine RW.call rfl (laws_toIntS_fn a.votes hs.2.2.1.1) rfl (.cons (.one (.r .r)) (.nil)) fun g6 => ?_
  refine RW.v rfl (V.field rfl rfl rfl rfl (by decide) rfl) ?_
  refine RW.store (d := .al 38 none 1 a.votes.length (g6 0 0) 0) rfl rfl rfl rfl rfl rfl rfl (Nat.le_of_ble_eq_true rfl) rfl rfl ?_
  refine RW.le [(1, .obj b1 ((Node.c a).map .r)), (2, .obj b2 [I 0, I 0, I 0, I 0, I 0, .r (.v (.slice none 0 0)), I 0, I 0, .r (.v (.slice none 0 0)), I 0, I 0, I 0, .r (.v (.slice none 0 0)), .r (.v (.slice none 0 0))]), (3, .obj b3 [I a.id, I a.term_, I a.vote, I a.role, I a.lead, .w (sl 1 cI a.conf) (g4 0 0), I a.log.start, I a.log.startTerm, .w (sl 3 Entry.c a.log.entries) (g5 0 2), I a.commit, I a.clock, I a.limit, .al 38 none 1 a.votes.length (g6 0 0) 0, .r (.v (.slice none 0 0))]), (38, .w (sl 1 cI a.votes) (g6 0 0))] rfl (Le.c rfl <| Le.c rfl <| Le.c rfl <| Le.c rfl <| Le.e) ?_
  refine RW.pullT (k := 3) (l := 38) (j := 12) 3 38 12 rfl rfl rfl (by decide) rfl rfl rfl ?_
  refine RW.le [(1, .obj b1 ((Node.c a).map .r)), (2, .obj b2 [I 0, I 0, I 0, I 0, I 0, .r (.v (.slice none 0 0)), I 0, I 0, .r (.v (.slice none 0 0)), I 0, I 0, I 0, .r (.v (.slice none 0 0)), .r (.v (.slice none 0 0))]), (3, .obj b3 [I a.id, I a.term_, I a.vote, I a.role, I a.lead, .w (sl 1 cI a.conf) (g4 0 0), I a.log.start, I a.log.startTerm, .w (sl 3 Entry.c a.log.entries) (g5 0 2), I a.commit, I a.clock, I a.limit, .w (sl 1 cI a.votes) (g6 0 0), .r (.v (.slice none 0 0))])] rfl (Le.c rfl <| Le.c rfl <| Le.c rfl <| Le.e) ?_
  refine RW.nil ?_
  refine CW.le [(1, .obj b1 ((Node.c a).map .r)), (2, .obj b2 [I 0, I 0, I 0, I 0, I 0, .r (.v (.slice none 0 0)), I 0, I 0, .r (.v (.slice none 0 0)), I 0, I 0, I 0, .r (.v (.slice none 0 0)), .r (.v (.slice none 0 0))]), (3, .obj b3 [I a.id, I a.term_, I a.vote, I a.role, I a.lead, .w (sl 1 cI a.conf) (g4 0 0), I a.log.start, I a.log.startTerm, .w (sl 3 Entry.c a.log.entries) (g5 0 2), I a.commit, I a.clock, I a.limit, .w (sl 1 cI a.votes) (g6 0 0), .r (.v (.slice none 0 0))])] rfl (Le.c rfl <| Le.c rfl <| Le.c rfl <| Le.e) ?_
  refine CW.seq ?_
  refine CW.region ?_
  refine RW.v rfl (V.field rfl rfl rfl rfl (by decide) rfl) ?_
  refine RW.v rfl (V.loadPrim (d := .r (sl 4 Peer.c a.peers)) rfl rfl (.inr ⟨_, rfl⟩) rfl rfl rfl) ?_
  refine RW.call rfl (laws_toPeerS_fn a.peers hs.2.2.2.1) rfl (.cons (.one (.r .r)) (.nil)) fun g7 => ?_
  refine RW.v rfl (V.field rfl rfl rfl rfl (by decide) rfl) ?_
  refine RW.store (d := .al 42 none 4 a.peers.length (g7 0 0) 0) rfl rfl rfl rfl rfl rfl rfl (Nat.le_of_ble_eq_true rfl) rfl rfl ?_
  refine RW.le [(2, .obj b2 [I 0, I 0, I 0, I 0, I 0, .r (.v (.slice none 0 0)), I 0, I 0, .r (.v (.slice none 0 0)), I 0, I 0, I 0, .r (.v (.slice none 0 0)), .r (.v (.slice none 0 0))]), (3, .obj b3 [I a.id, I a.term_, I a.vote, I a.role, I a.lead, .w (sl 1 cI a.conf) (g4 0 0), I a.log.start, I a.log.startTerm, .w (sl 3 Entry.c a.log.entries) (g5 0 2), I a.commit, I a.clock, I a.limit, .w (sl 1 cI a.votes) (g6 0 0), .al 42 none 4 a.peers.length (g7 0 0) 0]), (42, .w (sl 4 Peer.c a.peers) (g7 0 0))] rfl (Le.c rfl <| Le.c rfl <| Le.c rfl <| Le.e) ?_
  refine RW.pullT (k := 3) (l := 42) (j := 13) 3 42 13 rfl rfl rfl (by decide) rfl rfl rfl ?_
  refine RW.le [(2, .obj b2 [I 0, I 0, I 0, I 0, I 0, .r (.v (.slice none 0 0)), I 0, I 0, .r (.v (.slice none 0 0)), I 0, I 0, I 0, .r (.v (.slice none 0 0)), .r (.v (.slice none 0 0))]), (3, .obj b3 [I a.id, I a.term_, I a.vote, I a.role, I a.lead, .w (sl 1 cI a.conf) (g4 0 0), I a.log.start, I a.log.startTerm, .w (sl 3 Entry.c a.log.entries) (g5 0 2), I a.commit, I a.clock, I a.limit, .w (sl 1 cI a.votes) (g6 0 0), .w (sl 4 Peer.c a.peers) (g7 0 0)])] rfl (Le.c rfl <| Le.c rfl <| Le.e) ?_
  refine RW.nil ?_
  refine CW.le [(2, .obj b2 [I 0, I 0, I 0, I 0, I 0, .r (.v (.slice none 0 0)), I 0, I 0, .r (.v (.slice none 0 0)), I 0, I 0, I 0, .r (.v (.slice none 0 0)), .r (.v (.slice none 0 0))]), (3, .obj b3 [I a.id, I a.term_, I a.vote, I a.role, I a.lead, .w (sl 1 cI a.conf) (g4 0 0), I a.log.start, I a.log.startTerm, .w (sl 3 Entry.c a.log.entries) (g5 0 2), I a.commit, I a.clock, I a.limit, .w (sl 1 cI a.votes) (g6 0 0), .w (sl 4 Peer.c a.peers) (g7 0 0)])] rfl (Le.c rfl <| Le.c rfl <| Le.e) ?_
  refine CW.seq ?_
  refine CW.region ?_
  refine RW.v rfl (V.loadAgg rfl rfl rfl rfl rfl (Nat.le_of_ble_eq_true rfl)) ?_
  refine RW.storeAgg (es := [I a.id, I a.term_, I a.vote, I a.role, I a.lead, .al 3 (some 5) 1 a.conf.length (g4 0 0) 0, I a.log.start, I a.log.startTerm, .al 3 (some 8) 3 a.log.entries.length (g5 0 2) 0, I a.commit, I a.clock, I a.limit, .al 3 (some 12) 1 a.votes.length (g6 0 0) 0, .al 3 (some 13) 4 a.peers.length (g7 0 0) 0]) rfl rfl rfl rfl rfl rfl rfl rfl (Nat.le_of_ble_eq_true rfl) rfl ?_
  refine RW.le [(2, .obj b2 [I a.id, I a.term_, I a.vote, I a.role, I a.lead, .al 3 (some 5) 1 a.conf.length (g4 0 0) 0, I a.log.start, I a.log.startTerm, .al 3 (some 8) 3 a.log.entries.length (g5 0 2) 0, I a.commit, I a.clock, I a.limit, .al 3 (some 12) 1 a.votes.length (g6 0 0) 0, .al 3 (some 13) 4 a.peers.length (g7 0 0) 0]), (3, .obj b3 [I a.id, I a.term_, I a.vote, I a.role, I a.lead, .w (sl 1 cI a.conf) (g4 0 0), I a.log.start, I a.log.startTerm, .w (sl 3 Entry.c a.log.entries) (g5 0 2), I a.commit, I a.clock, I a.limit, .w (sl 1 cI a.votes) (g6 0 0), .w (sl 4 Peer.c a.peers) (g7 0 0)])] rfl (Le.c rfl <| Le.c rfl <| Le.e) ?_
  refine RW.pullO (k := 2) (l := 3) (j := 5) 2 3 5 rfl rfl rfl (by decide) rfl rfl rfl rfl ?_
  refine RW.le [(2, .obj b2 [I a.id, I a.term_, I a.vote, I a.role, I a.lead, .w (sl 1 cI a.conf) (g4 0 0), I a.log.start, I a.log.startTerm, .al 3 (some 8) 3 a.log.entries.length (g5 0 2) 0, I a.commit, I a.clock, I a.limit, .al 3 (some 12) 1 a.votes.length (g6 0 0) 0, .al 3 (some 13) 4 a.peers.length (g7 0 0) 0]), (3, .obj b3 [I a.id, I a.term_, I a.vote, I a.role, I a.lead, .u, I a.log.start, I a.log.startTerm, .w (sl 3 Entry.c a.log.entries) (g5 0 2), I a.commit, I a.clock, I a.limit, .w (sl 1 cI a.votes) (g6 0 0), .w (sl 4 Peer.c a.peers) (g7 0 0)])] rfl (Le.c rfl <| Le.c rfl <| Le.e) ?_
  refine RW.pullO (k := 2) (l := 3) (j := 8) 2 3 8 rfl rfl rfl (by decide) rfl rfl rfl rfl ?_
  refine RW.le [(2, .obj b2 [I a.id, I a.term_, I a.vote, I a.role, I a.lead, .w (sl 1 cI a.conf) (g4 0 0), I a.log.start, I a.log.startTerm, .w (sl 3 Entry.c a.log.entries) (g5 0 2), I a.commit, I a.clock, I a.limit, .al 3 (some 12) 1 a.votes.length (g6 0 0) 0, .al 3 (some 13) 4 a.peers.length (g7 0 0) 0]), (3, .obj b3 [I a.id, I a.term_, I a.vote, I a.role, I a.lead, .u, I a.log.start, I a.log.startTerm, .u, I a.commit, I a.clock, I a.limit, .w (sl 1 cI a.votes) (g6 0 0), .w (sl 4 Peer.c a.peers) (g7 0 0)])] rfl (Le.c rfl <| Le.c rfl <| Le.e) ?_
  refine RW.pullO (k := 2) (l := 3) (j := 12) 2 3 12 rfl rfl rfl (by decide) rfl rfl rfl rfl ?_
  refine RW.le [(2, .obj b2 [I a.id, I a.term_, I a.vote, I a.role, I a.lead, .w (sl 1 cI a.conf) (g4 0 0), I a.log.start, I a.log.startTerm, .w (sl 3 Entry.c a.log.entries) (g5 0 2), I a.commit, I a.clock, I a.limit, .w (sl 1 cI a.votes) (g6 0 0), .al 3 (some 13) 4 a.peers.length (g7 0 0) 0]), (3, .obj b3 [I a.id, I a.term_, I a.vote, I a.role, I a.lead, .u, I a.log.start, I a.log.startTerm, .u, I a.commit, I a.clock, I a.limit, .u, .w (sl 4 Peer.c a.peers) (g7 0 0)])] rfl (Le.c rfl <| Le.c rfl <| Le.e) ?_
  refine RW.pullO (k := 2) (l := 3) (j := 13) 2 3 13 rfl rfl rfl (by decide) rfl rfl rfl rfl ?_
  refine RW.le [(2, .obj b2 [I a.id, I a.term_, I a.vote, I a.role, I a.lead, .w (sl 1 cI a.conf) (g4 0 0), I a.log.start, I a.log.startTerm, .w (sl 3 Entry.c a.log.entries) (g5 0 2), I a.commit, I a.clock, I a.limit, .w (sl 1 cI a.votes) (g6 0 0), .w (sl 4 Peer.c a.peers) (g7 0 0)])] rfl (Le.c rfl <| Le.e) ?_
  refine RW.nil ?_
  refine CW.le [(2, .obj b2 [I a.id, I a.term_, I a.vote, I a.role, I a.lead, .w (sl 1 cI a.conf) (g4 0 0), I a.log.start, I a.log.startTerm, .w (sl 3 Entry.c a.log.entries) (g5 0 2), I a.commit, I a.clock, I a.limit, .w (sl 1 cI a.votes) (g6 0 0), .w (sl 4 Peer.c a.peers) (g7 0 0)])] rfl (Le.c rfl <| Le.e) ?_
  refine CW.ret ?_
  exact Post.one (RV.c (f := fun e => (Node.c e).map .w) (e' := a) rfl rfl rfl rfl (DT.v (DT.v (DT.v (DT.v (DT.v (DT.w (DT.v (DT.v (DT.w (DT.v (DT.v (DT.v (DT.w (DT.w DT.e)))))))))))))) (by simp_all)) (AOs.a rfl AOs.e)
set_option maxHeartbeats 4000000 in
theorem laws_eqEntry_fn (a : Entry) (b : Entry) : Eng.Fn E.P 50 [.agg ((Entry.c a).map .r), .agg ((Entry.c b).map .r)] (.one (.one (.w (.v (.bool (eqEntry a b)))))) [.agg ((Entry.c a).map .r), .agg ((Entry.c b).map .r)] := by
  refine Eng.Fn.intro (E := E) (rvs := [.tmp 4]) Try.func50 rfl rfl rfl (by simp [outSlots, moved, rvSlot, sl]) ?_
  intro B g bo
  refine CW.le [(0, .agg ((Entry.c a).map .r)), (1, .agg ((Entry.c b).map .r))] rfl (Le.c rfl <| Le.c rfl <| Le.e) ?_
  refine CW.seq ?_
  refine CW.region ?_
  refine RW.box (ds := ((Entry.c a).map .r)) rfl rfl rfl fun b1 => ?_
  refine RW.box (ds := ((Entry.c b).map .r)) rfl rfl rfl fun b2 => ?_
  refine RW.v rfl (V.as (d := Bo false) rfl rfl) ?_
  refine RW.nil ?_
  refine CW.le [(2, .obj b1 ((Entry.c a).map .r)), (3, .obj b2 ((Entry.c b).map .r))] rfl (Le.c rfl <| Le.c rfl <| Le.e) ?_
  refine CW.seq ?_
  refine CW.seq ?_
  refine CW.region ?_
  refine RW.v rfl (V.field rfl rfl rfl rfl (by decide) rfl) ?_
  refine RW.v rfl (V.loadPrim (d := I a.term_) rfl rfl (.inl rfl) rfl rfl rfl) ?_
  refine RW.v rfl (V.field rfl rfl rfl rfl (by decide) rfl) ?_
  refine RW.v rfl (V.loadPrim (d := I b.term_) rfl rfl (.inl rfl) rfl rfl rfl) ?_
  refine RW.v rfl (V.cmpInt rfl rfl rfl rfl) ?_
  refine RW.nil ?_
  refine CW.le [(2, .obj b1 ((Entry.c a).map .r)), (3, .obj b2 ((Entry.c b).map .r)), (9, Bo (a.term_ != b.term_))] rfl (Le.c rfl <| Le.c rfl <| Le.c rfl <| Le.e) ?_
  refine CW.cond rfl (fun h3 => ?_) (fun h3 => ?_)
  · skip
    refine CW.seq ?_
    refine CW.region ?_
    refine RW.v rfl (V.as (d := Bo false) rfl rfl) ?_
    refine RW.nil ?_
    refine CW.le [(4, Bo false)] rfl (Le.c rfl <| Le.e) ?_
    refine CW.ret ?_
    exact Post.one (RV.b rfl (by simp_all [eqEntry])) (AOs.a rfl (AOs.a rfl AOs.e))
  · skip
    refine CW.skip ?_
    refine CW.le [(2, .obj b1 ((Entry.c a).map .r)), (3, .obj b2 ((Entry.c b).map .r))] rfl (Le.c rfl <| Le.c rfl <| Le.e) ?_
    refine CW.seq ?_
    refine CW.seq ?_
    refine CW.region ?_
    refine RW.v rfl (V.field rfl rfl rfl rfl (by decide) rfl) ?_
    refine RW.v rfl (V.loadPrim (d := I a.kind) rfl rfl (.inl rfl) rfl rfl rfl) ?_
    refine RW.v rfl (V.field rfl rfl rfl rfl (by decide) rfl) ?_
    refine RW.v rfl (V.loadPrim (d := I b.kind) rfl rfl (.inl rfl) rfl rfl rfl) ?_
    refine RW.v rfl (V.cmpInt rfl rfl rfl rfl) ?_
    refine RW.nil ?_
    refine CW.le [(2, .obj b1 ((Entry.c a).map .r)), (3, .obj b2 ((Entry.c b).map .r)), (14, Bo (a.kind != b.kind))] rfl (Le.c rfl <| Le.c rfl <| Le.c rfl <| Le.e) ?_
    refine CW.cond rfl (fun h4 => ?_) (fun h4 => ?_)
    · skip
      refine CW.seq ?_
      refine CW.region ?_
      refine RW.v rfl (V.as (d := Bo false) rfl rfl) ?_
      refine RW.nil ?_
      refine CW.le [(4, Bo false)] rfl (Le.c rfl <| Le.e) ?_
      refine CW.ret ?_
      exact Post.one (RV.b rfl (by simp_all [eqEntry])) (AOs.a rfl (AOs.a rfl AOs.e))
    · skip
      refine CW.skip ?_
      refine CW.le [(2, .obj b1 ((Entry.c a).map .r)), (3, .obj b2 ((Entry.c b).map .r))] rfl (Le.c rfl <| Le.c rfl <| Le.e) ?_
      refine CW.seq ?_
      refine CW.seq ?_
      refine CW.region ?_
      refine RW.v rfl (V.field rfl rfl rfl rfl (by decide) rfl) ?_
      refine RW.v rfl (V.loadPrim (d := S a.data) rfl rfl (.inl rfl) rfl rfl rfl) ?_
      refine RW.v rfl (V.field rfl rfl rfl rfl (by decide) rfl) ?_
      refine RW.v rfl (V.loadPrim (d := S b.data) rfl rfl (.inl rfl) rfl rfl rfl) ?_
      refine RW.v rfl (V.strCmp rfl rfl rfl rfl) ?_
      refine RW.nil ?_
      refine CW.le [(19, Bo (!(a.data.toList == b.data.toList)))] rfl (Le.c rfl <| Le.e) ?_
      refine CW.cond rfl (fun h5 => ?_) (fun h5 => ?_)
      · skip
        refine CW.seq ?_
        refine CW.region ?_
        refine RW.v rfl (V.as (d := Bo false) rfl rfl) ?_
        refine RW.nil ?_
        refine CW.le [(4, Bo false)] rfl (Le.c rfl <| Le.e) ?_
        refine CW.ret ?_
        exact Post.one (RV.b rfl (by simp_all [eqEntry])) (AOs.a rfl (AOs.a rfl AOs.e))
      · skip
        refine CW.skip ?_
        refine CW.le [] rfl (Le.e) ?_
        refine CW.seq ?_
        refine CW.region ?_
        refine RW.v rfl (V.as (d := Bo true) rfl rfl) ?_
        refine RW.nil ?_
        refine CW.le [(4, Bo true)] rfl (Le.c rfl <| Le.e) ?_
        refine CW.ret ?_
        exact Post.one (RV.b rfl (by simp_all [eqEntry])) (AOs.a rfl (AOs.a rfl AOs.e))
set_option maxHeartbeats 4000000 in
theorem laws_eqEntryS_fn (a : List Entry) (b : List Entry) : Eng.Fn E.P 14 [.one (.r (sl 3 Entry.c a)), .one (.r (sl 3 Entry.c b))] (.one (.one (.w (.v (.bool (eqS eqEntry a b)))))) [.one (.r (sl 3 Entry.c a)), .one (.r (sl 3 Entry.c b))] := by
  refine Eng.Fn.intro (E := E) (rvs := [.tmp 4]) Try.func14 rfl rfl rfl (by simp [outSlots, moved, rvSlot, sl]) ?_
  intro B g bo
  refine CW.bound (x := .tmp 0) (n := a.length) (AsT.r) (fun hl0 => ?_)
  refine CW.bound (x := .tmp 1) (n := b.length) (AsT.r) (fun hl1 => ?_)
  refine CW.le [(0, .r (sl 3 Entry.c a)), (1, .r (sl 3 Entry.c b))] rfl (Le.c rfl <| Le.c rfl <| Le.e) ?_
  refine CW.seq ?_
  refine CW.region ?_
  refine RW.v rfl (V.as (d := Bo false) rfl rfl) ?_
  refine RW.nil ?_
  refine CW.le [(0, .r (sl 3 Entry.c a)), (1, .r (sl 3 Entry.c b))] rfl (Le.c rfl <| Le.c rfl <| Le.e) ?_
  refine CW.seq ?_
  refine CW.seq ?_
  refine CW.region ?_
  refine RW.v rfl (V.mv (d := .r (sl 3 Entry.c a)) rfl rfl) ?_
  refine RW.v rfl (V.lenT (n := a.length) rfl rfl rfl .r) ?_
  refine RW.v rfl (V.mv (d := .r (sl 3 Entry.c b)) rfl rfl) ?_
  refine RW.v rfl (V.lenT (n := b.length) rfl rfl rfl .r) ?_
  refine RW.v rfl (V.cmpInt rfl rfl rfl rfl) ?_
  refine RW.nil ?_
  refine CW.le [(0, .r (sl 3 Entry.c a)), (1, .r (sl 3 Entry.c b)), (10, Bo ((a.length : Int) != (b.length : Int)))] rfl (Le.c rfl <| Le.c rfl <| Le.c rfl <| Le.e) ?_
  refine CW.cond rfl (fun h1 => ?_) (fun h1 => ?_)
  · skip
    refine CW.seq ?_
    refine CW.region ?_
    refine RW.v rfl (V.as (d := Bo false) rfl rfl) ?_
    refine RW.nil ?_
    refine CW.le [(4, Bo false)] rfl (Le.c rfl <| Le.e) ?_
    refine CW.ret ?_
    exact Post.one (RV.b rfl (by first | (simp_all [eqS, eqI, eqStr, eqB]; done) | exact (eqS_ne (by simp_all; omega)).symm)) (AOs.r (AOs.r AOs.e))
  · skip
    refine CW.skip ?_
    refine CW.le [(0, .r (sl 3 Entry.c a)), (1, .r (sl 3 Entry.c b))] rfl (Le.c rfl <| Le.c rfl <| Le.e) ?_
    refine CW.seq ?_
    refine CW.seq ?_
    refine CW.region ?_
    refine RW.v rfl (V.as (d := I 0) rfl rfl) ?_
    refine RW.nil ?_
    refine CW.le [(0, .r (sl 3 Entry.c a)), (1, .r (sl 3 Entry.c b)), (5, I 0)] rfl (Le.c rfl <| Le.c rfl <| Le.c rfl <| Le.e) ?_
    refine CW.block ?_
    refine CW.loopI 27 (fun (i : Nat) => [(0, .r (sl 3 Entry.c a)), (1, .r (sl 3 Entry.c b)), (5, I (i : Int))]) (fun (i : Nat) => i ≤ a.length ∧ eqS eqEntry (a.drop i) (b.drop i) = eqS eqEntry a b) (fun (i : Nat) => a.length - i) 0 rfl (Le.c rfl <| Le.c rfl <| Le.c rfl <| Le.e) ⟨by omega, by simp⟩ ?_
    rintro i ⟨hb, hr⟩
    have hlen : a.length = b.length := by simp at h1; omega
    refine CW.seq ?_
    refine CW.seq ?_
    refine CW.region ?_
    refine RW.v rfl (V.mv (d := I (i : Int)) rfl rfl) ?_
    refine RW.v rfl (V.mv (d := .r (sl 3 Entry.c a)) rfl rfl) ?_
    refine RW.v rfl (V.lenT (n := a.length) rfl rfl rfl .r) ?_
    refine RW.v rfl (V.cmpInt rfl rfl rfl rfl) ?_
    refine RW.nil ?_
    refine CW.le [(0, .r (sl 3 Entry.c a)), (1, .r (sl 3 Entry.c b)), (5, I (i : Int)), (14, Bo (decide ((i : Int) < (a.length : Int))))] rfl (Le.c rfl <| Le.c rfl <| Le.c rfl <| Le.c rfl <| Le.e) ?_
    refine CW.cond rfl (fun h2 => ?_) (fun h2 => ?_)
    · skip
      have hii : i < a.length := by have := h2; simp at this; first | exact this | omega | (simp; done) | (simp; omega)
      obtain ⟨ei, hei⟩ : ∃ e, a[i]? = some e := ⟨_, List.getElem?_eq_getElem hii⟩
      have hdi := drop_get hei
      have hib : i < b.length := by omega
      obtain ⟨eb, heb⟩ : ∃ e, b[i]? = some e := ⟨_, List.getElem?_eq_getElem hib⟩
      have hdb := drop_get heb
      refine CW.skip ?_
      refine CW.le [(0, .r (sl 3 Entry.c a)), (1, .r (sl 3 Entry.c b)), (5, I (i : Int))] rfl (Le.c rfl <| Le.c rfl <| Le.c rfl <| Le.e) ?_
      refine CW.seq ?_
      refine CW.block ?_
      refine CW.seq ?_
      refine CW.drawn (by kernel_rfl) ?_
      refine RQ.v rfl (V.mv (d := .r (sl 3 Entry.c a)) rfl rfl) ?_
      refine RQ.v rfl (V.mv (d := I (i : Int)) rfl rfl) ?_
      refine RQ.v rfl (V.indexS rfl rfl rfl rfl rfl rfl Entry.len hei) ?_
      refine RQ.v rfl (V.loadAggR rfl rfl rfl rfl (Nat.le_of_ble_eq_true rfl)) ?_
      refine RQ.v rfl (V.mv (d := .r (sl 3 Entry.c b)) rfl rfl) ?_
      refine RQ.v rfl (V.mv (d := I (i : Int)) rfl rfl) ?_
      refine RQ.v rfl (V.indexS rfl rfl rfl rfl rfl rfl Entry.len heb) ?_
      refine RQ.v rfl (V.loadAggR rfl rfl rfl rfl (Nat.le_of_ble_eq_true rfl)) ?_
      refine RQ.cons rfl (QOK.call (laws_eqEntry_fn ei eb) rfl (.cons (.agg (.cons (.r .r) (.cons (.r .r) (.cons (.r .r) (.nil))))) (.cons (.agg (.cons (.r .r) (.cons (.r .r) (.cons (.r .r) (.nil))))) (.nil))) ?_)
      refine RQ.v rfl (V.not rfl rfl) ?_
      refine RQ.nil ?_
      refine CW.le [(0, .r (sl 3 Entry.c a)), (1, .r (sl 3 Entry.c b)), (5, I (i : Int)), (26, Bo (!(eqEntry ei eb)))] rfl (Le.c rfl <| Le.c rfl <| Le.c rfl <| Le.c rfl <| Le.e) ?_
      refine CW.cond rfl (fun h3 => ?_) (fun h3 => ?_)
      · skip
        refine CW.seq ?_
        refine CW.region ?_
        refine RW.v rfl (V.as (d := Bo false) rfl rfl) ?_
        refine RW.nil ?_
        refine CW.le [(4, Bo false)] rfl (Le.c rfl <| Le.e) ?_
        refine CW.ret ?_
        exact Post.one (RV.b rfl (by first | (simp_all [eqS, eqI, eqStr, eqB]; done) | exact (eqS_ne (by simp_all; omega)).symm)) (AOs.r (AOs.r AOs.e))
      · skip
        refine CW.skip ?_
        refine CW.le [(0, .r (sl 3 Entry.c a)), (1, .r (sl 3 Entry.c b)), (5, I (i : Int))] rfl (Le.c rfl <| Le.c rfl <| Le.c rfl <| Le.e) ?_
        refine CW.region ?_
        refine RW.v rfl (V.mv (d := I (i : Int)) rfl rfl) ?_
        refine RW.v rfl (V.inc rfl rfl rfl hii hl0) ?_
        refine RW.v rfl (V.as (d := I ((i + 1 : Nat) : Int)) rfl rfl) ?_
        refine RW.nil ?_
        exact ⟨i + 1, by omega, ⟨by omega, by simp_all [eqS, eqI, eqStr, eqB]⟩, rfl, Le.c rfl <| Le.c rfl <| Le.c rfl <| Le.e⟩
    · skip
      have hii : a.length ≤ i := by have := h2; simp at this; first | exact this | omega | (simp; done) | (simp; omega)
      have hdi : a.drop i = [] := List.drop_eq_nil_of_le hii
      refine CW.exit ?_
      refine CW.le [] rfl (Le.e) ?_
      refine CW.seq ?_
      refine CW.region ?_
      refine RW.v rfl (V.as (d := Bo true) rfl rfl) ?_
      refine RW.nil ?_
      refine CW.le [(4, Bo true)] rfl (Le.c rfl <| Le.e) ?_
      refine CW.ret ?_
      exact Post.one (RV.b rfl (by rw [← hr, hdi, List.drop_eq_nil_of_le (show b.length ≤ i by omega)]; rfl)) (AOs.r (AOs.r AOs.e))
set_option maxHeartbeats 4000000 in
theorem laws_eqIntS_fn (a : List Int) (b : List Int) : Eng.Fn E.P 27 [.one (.r (sl 1 cI a)), .one (.r (sl 1 cI b))] (.one (.one (.w (.v (.bool (eqS eqI a b)))))) [.one (.r (sl 1 cI a)), .one (.r (sl 1 cI b))] := by
  refine Eng.Fn.intro (E := E) (rvs := [.tmp 4]) Try.func27 rfl rfl rfl (by simp [outSlots, moved, rvSlot, sl]) ?_
  intro B g bo
  refine CW.bound (x := .tmp 0) (n := a.length) (AsT.r) (fun hl0 => ?_)
  refine CW.bound (x := .tmp 1) (n := b.length) (AsT.r) (fun hl1 => ?_)
  refine CW.le [(0, .r (sl 1 cI a)), (1, .r (sl 1 cI b))] rfl (Le.c rfl <| Le.c rfl <| Le.e) ?_
  refine CW.seq ?_
  refine CW.region ?_
  refine RW.v rfl (V.as (d := Bo false) rfl rfl) ?_
  refine RW.nil ?_
  refine CW.le [(0, .r (sl 1 cI a)), (1, .r (sl 1 cI b))] rfl (Le.c rfl <| Le.c rfl <| Le.e) ?_
  refine CW.seq ?_
  refine CW.seq ?_
  refine CW.region ?_
  refine RW.v rfl (V.mv (d := .r (sl 1 cI a)) rfl rfl) ?_
  refine RW.v rfl (V.lenT (n := a.length) rfl rfl rfl .r) ?_
  refine RW.v rfl (V.mv (d := .r (sl 1 cI b)) rfl rfl) ?_
  refine RW.v rfl (V.lenT (n := b.length) rfl rfl rfl .r) ?_
  refine RW.v rfl (V.cmpInt rfl rfl rfl rfl) ?_
  refine RW.nil ?_
  refine CW.le [(0, .r (sl 1 cI a)), (1, .r (sl 1 cI b)), (10, Bo ((a.length : Int) != (b.length : Int)))] rfl (Le.c rfl <| Le.c rfl <| Le.c rfl <| Le.e) ?_
  refine CW.cond rfl (fun h1 => ?_) (fun h1 => ?_)
  · skip
    refine CW.seq ?_
    refine CW.region ?_
    refine RW.v rfl (V.as (d := Bo false) rfl rfl) ?_
    refine RW.nil ?_
    refine CW.le [(4, Bo false)] rfl (Le.c rfl <| Le.e) ?_
    refine CW.ret ?_
    exact Post.one (RV.b rfl (by first | (simp_all [eqS, eqI, eqStr, eqB]; done) | exact (eqS_ne (by simp_all; omega)).symm)) (AOs.r (AOs.r AOs.e))
  · skip
    refine CW.skip ?_
    refine CW.le [(0, .r (sl 1 cI a)), (1, .r (sl 1 cI b))] rfl (Le.c rfl <| Le.c rfl <| Le.e) ?_
    refine CW.seq ?_
    refine CW.seq ?_
    refine CW.region ?_
    refine RW.v rfl (V.as (d := I 0) rfl rfl) ?_
    refine RW.nil ?_
    refine CW.le [(0, .r (sl 1 cI a)), (1, .r (sl 1 cI b)), (5, I 0)] rfl (Le.c rfl <| Le.c rfl <| Le.c rfl <| Le.e) ?_
    refine CW.block ?_
    refine CW.loopI 26 (fun (i : Nat) => [(0, .r (sl 1 cI a)), (1, .r (sl 1 cI b)), (5, I (i : Int))]) (fun (i : Nat) => i ≤ a.length ∧ eqS eqI (a.drop i) (b.drop i) = eqS eqI a b) (fun (i : Nat) => a.length - i) 0 rfl (Le.c rfl <| Le.c rfl <| Le.c rfl <| Le.e) ⟨by omega, by simp⟩ ?_
    rintro i ⟨hb, hr⟩
    have hlen : a.length = b.length := by simp at h1; omega
    refine CW.seq ?_
    refine CW.seq ?_
    refine CW.region ?_
    refine RW.v rfl (V.mv (d := I (i : Int)) rfl rfl) ?_
    refine RW.v rfl (V.mv (d := .r (sl 1 cI a)) rfl rfl) ?_
    refine RW.v rfl (V.lenT (n := a.length) rfl rfl rfl .r) ?_
    refine RW.v rfl (V.cmpInt rfl rfl rfl rfl) ?_
    refine RW.nil ?_
    refine CW.le [(0, .r (sl 1 cI a)), (1, .r (sl 1 cI b)), (5, I (i : Int)), (14, Bo (decide ((i : Int) < (a.length : Int))))] rfl (Le.c rfl <| Le.c rfl <| Le.c rfl <| Le.c rfl <| Le.e) ?_
    refine CW.cond rfl (fun h2 => ?_) (fun h2 => ?_)
    · skip
      have hii : i < a.length := by have := h2; simp at this; first | exact this | omega | (simp; done) | (simp; omega)
      obtain ⟨ei, hei⟩ : ∃ e, a[i]? = some e := ⟨_, List.getElem?_eq_getElem hii⟩
      have hdi := drop_get hei
      have hib : i < b.length := by omega
      obtain ⟨eb, heb⟩ : ∃ e, b[i]? = some e := ⟨_, List.getElem?_eq_getElem hib⟩
      have hdb := drop_get heb
      refine CW.skip ?_
      refine CW.le [(0, .r (sl 1 cI a)), (1, .r (sl 1 cI b)), (5, I (i : Int))] rfl (Le.c rfl <| Le.c rfl <| Le.c rfl <| Le.e) ?_
      refine CW.seq ?_
      refine CW.block ?_
      refine CW.seq ?_
      refine CW.drawn (by kernel_rfl) ?_
      refine RQ.v rfl (V.mv (d := .r (sl 1 cI a)) rfl rfl) ?_
      refine RQ.v rfl (V.mv (d := I (i : Int)) rfl rfl) ?_
      refine RQ.v rfl (V.indexS rfl rfl rfl rfl rfl rfl cI.len hei) ?_
      refine RQ.v rfl (V.loadPrimR (t0 := .v (.int .i64 ei)) rfl rfl (.inl rfl) rfl rfl) ?_
      refine RQ.v rfl (V.mv (d := .r (sl 1 cI b)) rfl rfl) ?_
      refine RQ.v rfl (V.mv (d := I (i : Int)) rfl rfl) ?_
      refine RQ.v rfl (V.indexS rfl rfl rfl rfl rfl rfl cI.len heb) ?_
      refine RQ.v rfl (V.loadPrimR (t0 := .v (.int .i64 eb)) rfl rfl (.inl rfl) rfl rfl) ?_
      refine RQ.v rfl (V.cmpInt rfl rfl rfl rfl) ?_
      refine RQ.nil ?_
      refine CW.le [(0, .r (sl 1 cI a)), (1, .r (sl 1 cI b)), (5, I (i : Int)), (25, Bo (ei != eb))] rfl (Le.c rfl <| Le.c rfl <| Le.c rfl <| Le.c rfl <| Le.e) ?_
      refine CW.cond rfl (fun h3 => ?_) (fun h3 => ?_)
      · skip
        refine CW.seq ?_
        refine CW.region ?_
        refine RW.v rfl (V.as (d := Bo false) rfl rfl) ?_
        refine RW.nil ?_
        refine CW.le [(4, Bo false)] rfl (Le.c rfl <| Le.e) ?_
        refine CW.ret ?_
        exact Post.one (RV.b rfl (by first | (simp_all [eqS, eqI, eqStr, eqB]; done) | exact (eqS_ne (by simp_all; omega)).symm)) (AOs.r (AOs.r AOs.e))
      · skip
        refine CW.skip ?_
        refine CW.le [(0, .r (sl 1 cI a)), (1, .r (sl 1 cI b)), (5, I (i : Int))] rfl (Le.c rfl <| Le.c rfl <| Le.c rfl <| Le.e) ?_
        refine CW.region ?_
        refine RW.v rfl (V.mv (d := I (i : Int)) rfl rfl) ?_
        refine RW.v rfl (V.inc rfl rfl rfl hii hl0) ?_
        refine RW.v rfl (V.as (d := I ((i + 1 : Nat) : Int)) rfl rfl) ?_
        refine RW.nil ?_
        exact ⟨i + 1, by omega, ⟨by omega, by simp_all [eqS, eqI, eqStr, eqB]⟩, rfl, Le.c rfl <| Le.c rfl <| Le.c rfl <| Le.e⟩
    · skip
      have hii : a.length ≤ i := by have := h2; simp at this; first | exact this | omega | (simp; done) | (simp; omega)
      have hdi : a.drop i = [] := List.drop_eq_nil_of_le hii
      refine CW.exit ?_
      refine CW.le [] rfl (Le.e) ?_
      refine CW.seq ?_
      refine CW.region ?_
      refine RW.v rfl (V.as (d := Bo true) rfl rfl) ?_
      refine RW.nil ?_
      refine CW.le [(4, Bo true)] rfl (Le.c rfl <| Le.e) ?_
      refine CW.ret ?_
      exact Post.one (RV.b rfl (by rw [← hr, hdi, List.drop_eq_nil_of_le (show b.length ≤ i by omega)]; rfl)) (AOs.r (AOs.r AOs.e))
set_option maxHeartbeats 4000000 in
theorem laws_eqLog_fn (a : Log) (b : Log) : Eng.Fn E.P 73 [.agg ((Log.c a).map .r), .agg ((Log.c b).map .r)] (.one (.one (.w (.v (.bool (eqLog a b)))))) [.agg ((Log.c a).map .r), .agg ((Log.c b).map .r)] := by
  refine Eng.Fn.intro (E := E) (rvs := [.tmp 4]) Try.func73 rfl rfl rfl (by simp [outSlots, moved, rvSlot, sl]) ?_
  intro B g bo
  refine CW.le [(0, .agg ((Log.c a).map .r)), (1, .agg ((Log.c b).map .r))] rfl (Le.c rfl <| Le.c rfl <| Le.e) ?_
  refine CW.seq ?_
  refine CW.region ?_
  refine RW.box (ds := ((Log.c a).map .r)) rfl rfl rfl fun b1 => ?_
  refine RW.box (ds := ((Log.c b).map .r)) rfl rfl rfl fun b2 => ?_
  refine RW.v rfl (V.as (d := Bo false) rfl rfl) ?_
  refine RW.nil ?_
  refine CW.le [(2, .obj b1 ((Log.c a).map .r)), (3, .obj b2 ((Log.c b).map .r))] rfl (Le.c rfl <| Le.c rfl <| Le.e) ?_
  refine CW.seq ?_
  refine CW.seq ?_
  refine CW.region ?_
  refine RW.v rfl (V.field rfl rfl rfl rfl (by decide) rfl) ?_
  refine RW.v rfl (V.loadPrim (d := I a.start) rfl rfl (.inl rfl) rfl rfl rfl) ?_
  refine RW.v rfl (V.field rfl rfl rfl rfl (by decide) rfl) ?_
  refine RW.v rfl (V.loadPrim (d := I b.start) rfl rfl (.inl rfl) rfl rfl rfl) ?_
  refine RW.v rfl (V.cmpInt rfl rfl rfl rfl) ?_
  refine RW.nil ?_
  refine CW.le [(2, .obj b1 ((Log.c a).map .r)), (3, .obj b2 ((Log.c b).map .r)), (9, Bo (a.start != b.start))] rfl (Le.c rfl <| Le.c rfl <| Le.c rfl <| Le.e) ?_
  refine CW.cond rfl (fun h3 => ?_) (fun h3 => ?_)
  · skip
    refine CW.seq ?_
    refine CW.region ?_
    refine RW.v rfl (V.as (d := Bo false) rfl rfl) ?_
    refine RW.nil ?_
    refine CW.le [(4, Bo false)] rfl (Le.c rfl <| Le.e) ?_
    refine CW.ret ?_
    exact Post.one (RV.b rfl (by simp_all [eqLog])) (AOs.a rfl (AOs.a rfl AOs.e))
  · skip
    refine CW.skip ?_
    refine CW.le [(2, .obj b1 ((Log.c a).map .r)), (3, .obj b2 ((Log.c b).map .r))] rfl (Le.c rfl <| Le.c rfl <| Le.e) ?_
    refine CW.seq ?_
    refine CW.seq ?_
    refine CW.region ?_
    refine RW.v rfl (V.field rfl rfl rfl rfl (by decide) rfl) ?_
    refine RW.v rfl (V.loadPrim (d := I a.startTerm) rfl rfl (.inl rfl) rfl rfl rfl) ?_
    refine RW.v rfl (V.field rfl rfl rfl rfl (by decide) rfl) ?_
    refine RW.v rfl (V.loadPrim (d := I b.startTerm) rfl rfl (.inl rfl) rfl rfl rfl) ?_
    refine RW.v rfl (V.cmpInt rfl rfl rfl rfl) ?_
    refine RW.nil ?_
    refine CW.le [(2, .obj b1 ((Log.c a).map .r)), (3, .obj b2 ((Log.c b).map .r)), (14, Bo (a.startTerm != b.startTerm))] rfl (Le.c rfl <| Le.c rfl <| Le.c rfl <| Le.e) ?_
    refine CW.cond rfl (fun h4 => ?_) (fun h4 => ?_)
    · skip
      refine CW.seq ?_
      refine CW.region ?_
      refine RW.v rfl (V.as (d := Bo false) rfl rfl) ?_
      refine RW.nil ?_
      refine CW.le [(4, Bo false)] rfl (Le.c rfl <| Le.e) ?_
      refine CW.ret ?_
      exact Post.one (RV.b rfl (by simp_all [eqLog])) (AOs.a rfl (AOs.a rfl AOs.e))
    · skip
      refine CW.skip ?_
      refine CW.le [(2, .obj b1 ((Log.c a).map .r)), (3, .obj b2 ((Log.c b).map .r))] rfl (Le.c rfl <| Le.c rfl <| Le.e) ?_
      refine CW.seq ?_
      refine CW.seq ?_
      refine CW.region ?_
      refine RW.v rfl (V.field rfl rfl rfl rfl (by decide) rfl) ?_
      refine RW.v rfl (V.loadPrim (d := .r (sl 3 Entry.c a.entries)) rfl rfl (.inr ⟨_, rfl⟩) rfl rfl rfl) ?_
      refine RW.v rfl (V.field rfl rfl rfl rfl (by decide) rfl) ?_
      refine RW.v rfl (V.loadPrim (d := .r (sl 3 Entry.c b.entries)) rfl rfl (.inr ⟨_, rfl⟩) rfl rfl rfl) ?_
      refine RW.call rfl (laws_eqEntryS_fn a.entries b.entries) rfl (.cons (.one (.r .r)) (.cons (.one (.r .r)) (.nil))) fun g5 => ?_
      refine RW.v rfl (V.not rfl rfl) ?_
      refine RW.nil ?_
      refine CW.le [(20, Bo (!(eqS eqEntry a.entries b.entries)))] rfl (Le.c rfl <| Le.e) ?_
      refine CW.cond rfl (fun h6 => ?_) (fun h6 => ?_)
      · skip
        refine CW.seq ?_
        refine CW.region ?_
        refine RW.v rfl (V.as (d := Bo false) rfl rfl) ?_
        refine RW.nil ?_
        refine CW.le [(4, Bo false)] rfl (Le.c rfl <| Le.e) ?_
        refine CW.ret ?_
        exact Post.one (RV.b rfl (by simp_all [eqLog])) (AOs.a rfl (AOs.a rfl AOs.e))
      · skip
        refine CW.skip ?_
        refine CW.le [] rfl (Le.e) ?_
        refine CW.seq ?_
        refine CW.region ?_
        refine RW.v rfl (V.as (d := Bo true) rfl rfl) ?_
        refine RW.nil ?_
        refine CW.le [(4, Bo true)] rfl (Le.c rfl <| Le.e) ?_
        refine CW.ret ?_
        exact Post.one (RV.b rfl (by simp_all [eqLog])) (AOs.a rfl (AOs.a rfl AOs.e))
set_option maxHeartbeats 4000000 in
theorem laws_eqPeer_fn (a : Peer) (b : Peer) : Eng.Fn E.P 122 [.agg ((Peer.c a).map .r), .agg ((Peer.c b).map .r)] (.one (.one (.w (.v (.bool (eqPeer a b)))))) [.agg ((Peer.c a).map .r), .agg ((Peer.c b).map .r)] := by
  refine Eng.Fn.intro (E := E) (rvs := [.tmp 4]) Try.func122 rfl rfl rfl (by simp [outSlots, moved, rvSlot, sl]) ?_
  intro B g bo
  refine CW.le [(0, .agg ((Peer.c a).map .r)), (1, .agg ((Peer.c b).map .r))] rfl (Le.c rfl <| Le.c rfl <| Le.e) ?_
  refine CW.seq ?_
  refine CW.region ?_
  refine RW.box (ds := ((Peer.c a).map .r)) rfl rfl rfl fun b1 => ?_
  refine RW.box (ds := ((Peer.c b).map .r)) rfl rfl rfl fun b2 => ?_
  refine RW.v rfl (V.as (d := Bo false) rfl rfl) ?_
  refine RW.nil ?_
  refine CW.le [(2, .obj b1 ((Peer.c a).map .r)), (3, .obj b2 ((Peer.c b).map .r))] rfl (Le.c rfl <| Le.c rfl <| Le.e) ?_
  refine CW.seq ?_
  refine CW.seq ?_
  refine CW.region ?_
  refine RW.v rfl (V.field rfl rfl rfl rfl (by decide) rfl) ?_
  refine RW.v rfl (V.loadPrim (d := I a.id) rfl rfl (.inl rfl) rfl rfl rfl) ?_
  refine RW.v rfl (V.field rfl rfl rfl rfl (by decide) rfl) ?_
  refine RW.v rfl (V.loadPrim (d := I b.id) rfl rfl (.inl rfl) rfl rfl rfl) ?_
  refine RW.v rfl (V.cmpInt rfl rfl rfl rfl) ?_
  refine RW.nil ?_
  refine CW.le [(2, .obj b1 ((Peer.c a).map .r)), (3, .obj b2 ((Peer.c b).map .r)), (9, Bo (a.id != b.id))] rfl (Le.c rfl <| Le.c rfl <| Le.c rfl <| Le.e) ?_
  refine CW.cond rfl (fun h3 => ?_) (fun h3 => ?_)
  · skip
    refine CW.seq ?_
    refine CW.region ?_
    refine RW.v rfl (V.as (d := Bo false) rfl rfl) ?_
    refine RW.nil ?_
    refine CW.le [(4, Bo false)] rfl (Le.c rfl <| Le.e) ?_
    refine CW.ret ?_
    exact Post.one (RV.b rfl (by simp_all [eqPeer])) (AOs.a rfl (AOs.a rfl AOs.e))
  · skip
    refine CW.skip ?_
    refine CW.le [(2, .obj b1 ((Peer.c a).map .r)), (3, .obj b2 ((Peer.c b).map .r))] rfl (Le.c rfl <| Le.c rfl <| Le.e) ?_
    refine CW.seq ?_
    refine CW.seq ?_
    refine CW.region ?_
    refine RW.v rfl (V.field rfl rfl rfl rfl (by decide) rfl) ?_
    refine RW.v rfl (V.loadPrim (d := I a.next) rfl rfl (.inl rfl) rfl rfl rfl) ?_
    refine RW.v rfl (V.field rfl rfl rfl rfl (by decide) rfl) ?_
    refine RW.v rfl (V.loadPrim (d := I b.next) rfl rfl (.inl rfl) rfl rfl rfl) ?_
    refine RW.v rfl (V.cmpInt rfl rfl rfl rfl) ?_
    refine RW.nil ?_
    refine CW.le [(2, .obj b1 ((Peer.c a).map .r)), (3, .obj b2 ((Peer.c b).map .r)), (14, Bo (a.next != b.next))] rfl (Le.c rfl <| Le.c rfl <| Le.c rfl <| Le.e) ?_
    refine CW.cond rfl (fun h4 => ?_) (fun h4 => ?_)
    · skip
      refine CW.seq ?_
      refine CW.region ?_
      refine RW.v rfl (V.as (d := Bo false) rfl rfl) ?_
      refine RW.nil ?_
      refine CW.le [(4, Bo false)] rfl (Le.c rfl <| Le.e) ?_
      refine CW.ret ?_
      exact Post.one (RV.b rfl (by simp_all [eqPeer])) (AOs.a rfl (AOs.a rfl AOs.e))
    · skip
      refine CW.skip ?_
      refine CW.le [(2, .obj b1 ((Peer.c a).map .r)), (3, .obj b2 ((Peer.c b).map .r))] rfl (Le.c rfl <| Le.c rfl <| Le.e) ?_
      refine CW.seq ?_
      refine CW.seq ?_
      refine CW.region ?_
      refine RW.v rfl (V.field rfl rfl rfl rfl (by decide) rfl) ?_
      refine RW.v rfl (V.loadPrim (d := I a.match_) rfl rfl (.inl rfl) rfl rfl rfl) ?_
      refine RW.v rfl (V.field rfl rfl rfl rfl (by decide) rfl) ?_
      refine RW.v rfl (V.loadPrim (d := I b.match_) rfl rfl (.inl rfl) rfl rfl rfl) ?_
      refine RW.v rfl (V.cmpInt rfl rfl rfl rfl) ?_
      refine RW.nil ?_
      refine CW.le [(2, .obj b1 ((Peer.c a).map .r)), (3, .obj b2 ((Peer.c b).map .r)), (19, Bo (a.match_ != b.match_))] rfl (Le.c rfl <| Le.c rfl <| Le.c rfl <| Le.e) ?_
      refine CW.cond rfl (fun h5 => ?_) (fun h5 => ?_)
      · skip
        refine CW.seq ?_
        refine CW.region ?_
        refine RW.v rfl (V.as (d := Bo false) rfl rfl) ?_
        refine RW.nil ?_
        refine CW.le [(4, Bo false)] rfl (Le.c rfl <| Le.e) ?_
        refine CW.ret ?_
        exact Post.one (RV.b rfl (by simp_all [eqPeer])) (AOs.a rfl (AOs.a rfl AOs.e))
      · skip
        refine CW.skip ?_
        refine CW.le [(2, .obj b1 ((Peer.c a).map .r)), (3, .obj b2 ((Peer.c b).map .r))] rfl (Le.c rfl <| Le.c rfl <| Le.e) ?_
        refine CW.seq ?_
        refine CW.seq ?_
        refine CW.region ?_
        refine RW.v rfl (V.field rfl rfl rfl rfl (by decide) rfl) ?_
        refine RW.v rfl (V.loadPrim (d := I a.sent) rfl rfl (.inl rfl) rfl rfl rfl) ?_
        refine RW.v rfl (V.field rfl rfl rfl rfl (by decide) rfl) ?_
        refine RW.v rfl (V.loadPrim (d := I b.sent) rfl rfl (.inl rfl) rfl rfl rfl) ?_
        refine RW.v rfl (V.cmpInt rfl rfl rfl rfl) ?_
        refine RW.nil ?_
        refine CW.le [(24, Bo (a.sent != b.sent))] rfl (Le.c rfl <| Le.e) ?_
        refine CW.cond rfl (fun h6 => ?_) (fun h6 => ?_)
        · skip
          refine CW.seq ?_
          refine CW.region ?_
          refine RW.v rfl (V.as (d := Bo false) rfl rfl) ?_
          refine RW.nil ?_
          refine CW.le [(4, Bo false)] rfl (Le.c rfl <| Le.e) ?_
          refine CW.ret ?_
          exact Post.one (RV.b rfl (by simp_all [eqPeer])) (AOs.a rfl (AOs.a rfl AOs.e))
        · skip
          refine CW.skip ?_
          refine CW.le [] rfl (Le.e) ?_
          refine CW.seq ?_
          refine CW.region ?_
          refine RW.v rfl (V.as (d := Bo true) rfl rfl) ?_
          refine RW.nil ?_
          refine CW.le [(4, Bo true)] rfl (Le.c rfl <| Le.e) ?_
          refine CW.ret ?_
          exact Post.one (RV.b rfl (by simp_all [eqPeer])) (AOs.a rfl (AOs.a rfl AOs.e))
end Go.Proofs.Ytbiocicogminlaa.Y
