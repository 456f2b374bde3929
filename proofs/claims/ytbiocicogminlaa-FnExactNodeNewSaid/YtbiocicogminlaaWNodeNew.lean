import Derived.Test.YtbiocicogminlaaWNodeNewB
namespace Go.Proofs.Ytbiocicogminlaa.Y
open Go Go.RowKit Go.Eng Go.Proofs
set_option maxHeartbeats 4000000 in
theorem laws_eqPeerS_fn (a : List Peer) (b : List Peer) : Eng.Fn E.P 74 [.one (.r (sl 4 Peer.c a)), .one (.r (sl 4 Peer.c b))] (.one (.one (.w (.v (.bool (eqS eqPeer a b)))))) [.one (.r (sl 4 Peer.c a)), .one (.r (sl 4 Peer.c b))] := by
  refine Eng.Fn.intro (E := E) (rvs := [.tmp 4]) Try.func74 rfl rfl rfl (by simp [outSlots, moved, rvSlot, sl]) ?_
  intro B g bo
  refine CW.bound (x := .tmp 0) (n := a.length) (AsT.r) (fun hl0 => ?_)
  refine CW.bound (x := .tmp 1) (n := b.length) (AsT.r) (fun hl1 => ?_)
  refine CW.le [(0, .r (sl 4 Peer.c a)), (1, .r (sl 4 Peer.c b))] rfl (Le.c rfl <| Le.c rfl <| Le.e) ?_
  refine CW.seq ?_
  refine CW.region ?_
  refine RW.v rfl (V.as (d := Bo false) rfl rfl) ?_
  refine RW.nil ?_
  refine CW.le [(0, .r (sl 4 Peer.c a)), (1, .r (sl 4 Peer.c b))] rfl (Le.c rfl <| Le.c rfl <| Le.e) ?_
  refine CW.seq ?_
  refine CW.seq ?_
  refine CW.region ?_
  refine RW.v rfl (V.mv (d := .r (sl 4 Peer.c a)) rfl rfl) ?_
  refine RW.v rfl (V.lenT (n := a.length) rfl rfl rfl .r) ?_
  refine RW.v rfl (V.mv (d := .r (sl 4 Peer.c b)) rfl rfl) ?_
  refine RW.v rfl (V.lenT (n := b.length) rfl rfl rfl .r) ?_
  refine RW.v rfl (V.cmpInt rfl rfl rfl rfl) ?_
  refine RW.nil ?_
  refine CW.le [(0, .r (sl 4 Peer.c a)), (1, .r (sl 4 Peer.c b)), (10, Bo ((a.length : Int) != (b.length : Int)))] rfl (Le.c rfl <| Le.c rfl <| Le.c rfl <| Le.e) ?_
  refine CW.cond rfl (fun h1 => ?_) (fun h1 => ?_)
  · skip
    refine CW.seq ?_
    refine CW.region ?_
    refine RW.v rfl (V.as (d := Bo false) rfl rfl) ?_
    refine RW.nil ?_
    refine CW.le [(4, Bo false)] rfl (Le.c rfl <| Le.e) ?_
    refine CW.ret ?_
    exact Post.one (RV.b rfl (by first | (simp_all [eqS, eqI, eqStr, eqB]; done) | exact (eqS_ne (by simp_all; omega)).symm)) (AOs.r (AOs.r AOs.e))
  · skip
    refine CW.skip ?_
    refine CW.le [(0, .r (sl 4 Peer.c a)), (1, .r (sl 4 Peer.c b))] rfl (Le.c rfl <| Le.c rfl <| Le.e) ?_
    refine CW.seq ?_
    refine CW.seq ?_
    refine CW.region ?_
    refine RW.v rfl (V.as (d := I 0) rfl rfl) ?_
    refine RW.nil ?_
    refine CW.le [(0, .r (sl 4 Peer.c a)), (1, .r (sl 4 Peer.c b)), (5, I 0)] rfl (Le.c rfl <| Le.c rfl <| Le.c rfl <| Le.e) ?_
    refine CW.block ?_
    refine CW.loopI 27 (fun (i : Nat) => [(0, .r (sl 4 Peer.c a)), (1, .r (sl 4 Peer.c b)), (5, I (i : Int))]) (fun (i : Nat) => i ≤ a.length ∧ eqS eqPeer (a.drop i) (b.drop i) = eqS eqPeer a b) (fun (i : Nat) => a.length - i) 0 rfl (Le.c rfl <| Le.c rfl <| Le.c rfl <| Le.e) ⟨by omega, by simp⟩ ?_
    rintro i ⟨hb, hr⟩
    have hlen : a.length = b.length := by simp at h1; omega
    refine CW.seq ?_
    refine CW.seq ?_
    refine CW.region ?_
    refine RW.v rfl (V.mv (d := I (i : Int)) rfl rfl) ?_
    refine RW.v rfl (V.mv (d := .r (sl 4 Peer.c a)) rfl rfl) ?_
    refine RW.v rfl (V.lenT (n := a.length) rfl rfl rfl .r) ?_
    refine RW.v rfl (V.cmpInt rfl rfl rfl rfl) ?_
    refine RW.nil ?_
    refine CW.le [(0, .r (sl 4 Peer.c a)), (1, .r (sl 4 Peer.c b)), (5, I (i : Int)), (14, Bo (decide ((i : Int) < (a.length : Int))))] rfl (Le.c rfl <| Le.c rfl <| Le.c rfl <| Le.c rfl <| Le.e) ?_
    refine CW.cond rfl (fun h2 => ?_) (fun h2 => ?_)
    · skip
      have hii : i < a.length := by have := h2; simp at this; first | exact this | omega | (simp; done) | (simp; omega)
      obtain ⟨ei, hei⟩ : ∃ e, a[i]? = some e := ⟨_, List.getElem?_eq_getElem hii⟩
      have hdi := drop_get hei
      have hib : i < b.length := by omega
      obtain ⟨eb, heb⟩ : ∃ e, b[i]? = some e := ⟨_, List.getElem?_eq_getElem hib⟩
      have hdb := drop_get heb
      refine CW.skip ?_
      refine CW.le [(0, .r (sl 4 Peer.c a)), (1, .r (sl 4 Peer.c b)), (5, I (i : Int))] rfl (Le.c rfl <| Le.c rfl <| Le.c rfl <| Le.e) ?_
      refine CW.seq ?_
      refine CW.block ?_
      refine CW.seq ?_
      refine CW.drawn (by kernel_rfl) ?_
      refine RQ.v rfl (V.mv (d := .r (sl 4 Peer.c a)) rfl rfl) ?_
      refine RQ.v rfl (V.mv (d := I (i : Int)) rfl rfl) ?_
      refine RQ.v rfl (V.indexS rfl rfl rfl rfl rfl rfl Peer.len hei) ?_
      refine RQ.v rfl (V.loadAggR rfl rfl rfl rfl (Nat.le_of_ble_eq_true rfl)) ?_
      refine RQ.v rfl (V.mv (d := .r (sl 4 Peer.c b)) rfl rfl) ?_
      refine RQ.v rfl (V.mv (d := I (i : Int)) rfl rfl) ?_
      refine RQ.v rfl (V.indexS rfl rfl rfl rfl rfl rfl Peer.len heb) ?_
      refine RQ.v rfl (V.loadAggR rfl rfl rfl rfl (Nat.le_of_ble_eq_true rfl)) ?_
      refine RQ.cons rfl (QOK.call (laws_eqPeer_fn ei eb) rfl (.cons (.agg (.cons (.r .r) (.cons (.r .r) (.cons (.r .r) (.cons (.r .r) (.nil)))))) (.cons (.agg (.cons (.r .r) (.cons (.r .r) (.cons (.r .r) (.cons (.r .r) (.nil)))))) (.nil))) ?_)
      refine RQ.v rfl (V.not rfl rfl) ?_
      refine RQ.nil ?_
      refine CW.le [(0, .r (sl 4 Peer.c a)), (1, .r (sl 4 Peer.c b)), (5, I (i : Int)), (26, Bo (!(eqPeer ei eb)))] rfl (Le.c rfl <| Le.c rfl <| Le.c rfl <| Le.c rfl <| Le.e) ?_
      refine CW.cond rfl (fun h3 => ?_) (fun h3 => ?_)
      · skip
        refine CW.seq ?_
        refine CW.region ?_
        refine RW.v rfl (V.as (d := Bo false) rfl rfl) ?_
        refine RW.nil ?_
        refine CW.le [(4, Bo false)] rfl (Le.c rfl <| Le.e) ?_
        refine CW.ret ?_
        exact Post.one (RV.b rfl (by first | (simp_all [eqS, eqI, eqStr, eqB]; done) | exact (eqS_ne (by simp_all; omega)).symm)) (AOs.r (AOs.r AOs.e))
      · skip
        refine CW.skip ?_
        refine CW.le [(0, .r (sl 4 Peer.c a)), (1, .r (sl 4 Peer.c b)), (5, I (i : Int))] rfl (Le.c rfl <| Le.c rfl <| Le.c rfl <| Le.e) ?_
        refine CW.region ?_
        refine RW.v rfl (V.mv (d := I (i : Int)) rfl rfl) ?_
        refine RW.v rfl (V.inc rfl rfl rfl hii hl0) ?_
        refine RW.v rfl (V.as (d := I ((i + 1 : Nat) : Int)) rfl rfl) ?_
        refine RW.nil ?_
        exact ⟨i + 1, by omega, ⟨by omega, by simp_all [eqS, eqI, eqStr, eqB]⟩, rfl, Le.c rfl <| Le.c rfl <| Le.c rfl <| Le.e⟩
    · skip
      have hii : a.length ≤ i := by have := h2; simp at this; first | exact this | omega | (simp; done) | (simp; omega)
      have hdi : a.drop i = [] := List.drop_eq_nil_of_le hii
      refine CW.exit ?_
      refine CW.le [] rfl (Le.e) ?_
      refine CW.seq ?_
      refine CW.region ?_
      refine RW.v rfl (V.as (d := Bo true) rfl rfl) ?_
      refine RW.nil ?_
      refine CW.le [(4, Bo true)] rfl (Le.c rfl <| Le.e) ?_
      refine CW.ret ?_
      exact Post.one (RV.b rfl (by rw [← hr, hdi, List.drop_eq_nil_of_le (show b.length ≤ i by omega)]; rfl)) (AOs.r (AOs.r AOs.e))
set_option maxHeartbeats 4000000 in
theorem laws_eqNode_fn (a : Node) (b : Node) : Eng.Fn E.P 23 [.agg ((Node.c a).map .r), .agg ((Node.c b).map .r)] (.one (.one (.w (.v (.bool (eqNode a b)))))) [.agg ((Node.c a).map .r), .agg ((Node.c b).map .r)] := by
  refine Eng.Fn.intro (E := E) (rvs := [.tmp 4]) Try.func23 rfl rfl rfl (by simp [outSlots, moved, rvSlot, sl]) ?_
  intro B g bo
  refine CW.le [(0, .agg ((Node.c a).map .r)), (1, .agg ((Node.c b).map .r))] rfl (Le.c rfl <| Le.c rfl <| Le.e) ?_
  refine CW.seq ?_
  refine CW.region ?_
  refine RW.box (ds := ((Node.c a).map .r)) rfl rfl rfl fun b1 => ?_
  refine RW.box (ds := ((Node.c b).map .r)) rfl rfl rfl fun b2 => ?_
  refine RW.v rfl (V.as (d := Bo false) rfl rfl) ?_
  refine RW.nil ?_
  refine CW.le [(2, .obj b1 ((Node.c a).map .r)), (3, .obj b2 ((Node.c b).map .r))] rfl (Le.c rfl <| Le.c rfl <| Le.e) ?_
  refine CW.seq ?_
  refine CW.seq ?_
  refine CW.region ?_
  refine RW.v rfl (V.field rfl rfl rfl rfl (by decide) rfl) ?_
  refine RW.v rfl (V.loadPrim (d := I a.id) rfl rfl (.inl rfl) rfl rfl rfl) ?_
  refine RW.v rfl (V.field rfl rfl rfl rfl (by decide) rfl) ?_
  refine RW.v rfl (V.loadPrim (d := I b.id) rfl rfl (.inl rfl) rfl rfl rfl) ?_
  refine RW.v rfl (V.cmpInt rfl rfl rfl rfl) ?_
  refine RW.nil ?_
  refine CW.le [(2, .obj b1 ((Node.c a).map .r)), (3, .obj b2 ((Node.c b).map .r)), (9, Bo (a.id != b.id))] rfl (Le.c rfl <| Le.c rfl <| Le.c rfl <| Le.e) ?_
  refine CW.cond rfl (fun h3 => ?_) (fun h3 => ?_)
  · skip
    refine CW.seq ?_
    refine CW.region ?_
    refine RW.v rfl (V.as (d := Bo false) rfl rfl) ?_
    refine RW.nil ?_
    refine CW.le [(4, Bo false)] rfl (Le.c rfl <| Le.e) ?_
    refine CW.ret ?_
    exact Post.one (RV.b rfl (by simp_all [eqNode])) (AOs.a rfl (AOs.a rfl AOs.e))
  · skip
    refine CW.skip ?_
    refine CW.le [(2, .obj b1 ((Node.c a).map .r)), (3, .obj b2 ((Node.c b).map .r))] rfl (Le.c rfl <| Le.c rfl <| Le.e) ?_
    refine CW.seq ?_
    refine CW.seq ?_
    refine CW.region ?_
    refine RW.v rfl (V.field rfl rfl rfl rfl (by decide) rfl) ?_
    refine RW.v rfl (V.loadPrim (d := I a.term_) rfl rfl (.inl rfl) rfl rfl rfl) ?_
    refine RW.v rfl (V.field rfl rfl rfl rfl (by decide) rfl) ?_
    refine RW.v rfl (V.loadPrim (d := I b.term_) rfl rfl (.inl rfl) rfl rfl rfl) ?_
    refine RW.v rfl (V.cmpInt rfl rfl rfl rfl) ?_
    refine RW.nil ?_
    refine CW.le [(2, .obj b1 ((Node.c a).map .r)), (3, .obj b2 ((Node.c b).map .r)), (14, Bo (a.term_ != b.term_))] rfl (Le.c rfl <| Le.c rfl <| Le.c rfl <| Le.e) ?_
    refine CW.cond rfl (fun h4 => ?_) (fun h4 => ?_)
    · skip
      refine CW.seq ?_
      refine CW.region ?_
      refine RW.v rfl (V.as (d := Bo false) rfl rfl) ?_
      refine RW.nil ?_
      refine CW.le [(4, Bo false)] rfl (Le.c rfl <| Le.e) ?_
      refine CW.ret ?_
      exact Post.one (RV.b rfl (by simp_all [eqNode])) (AOs.a rfl (AOs.a rfl AOs.e))
    · skip
      refine CW.skip ?_
      refine CW.le [(2, .obj b1 ((Node.c a).map .r)), (3, .obj b2 ((Node.c b).map .r))] rfl (Le.c rfl <| Le.c rfl <| Le.e) ?_
      refine CW.seq ?_
      refine CW.seq ?_
      refine CW.region ?_
      refine RW.v rfl (V.field rfl rfl rfl rfl (by decide) rfl) ?_
      refine RW.v rfl (V.loadPrim (d := I a.vote) rfl rfl (.inl rfl) rfl rfl rfl) ?_
      refine RW.v rfl (V.field rfl rfl rfl rfl (by decide) rfl) ?_
      refine RW.v rfl (V.loadPrim (d := I b.vote) rfl rfl (.inl rfl) rfl rfl rfl) ?_
      refine RW.v rfl (V.cmpInt rfl rfl rfl rfl) ?_
      refine RW.nil ?_
      refine CW.le [(2, .obj b1 ((Node.c a).map .r)), (3, .obj b2 ((Node.c b).map .r)), (19, Bo (a.vote != b.vote))] rfl (Le.c rfl <| Le.c rfl <| Le.c rfl <| Le.e) ?_
      refine CW.cond rfl (fun h5 => ?_) (fun h5 => ?_)
      · skip
        refine CW.seq ?_
        refine CW.region ?_
        refine RW.v rfl (V.as (d := Bo false) rfl rfl) ?_
        refine RW.nil ?_
        refine CW.le [(4, Bo false)] rfl (Le.c rfl <| Le.e) ?_
        refine CW.ret ?_
        exact Post.one (RV.b rfl (by simp_all [eqNode])) (AOs.a rfl (AOs.a rfl AOs.e))
      · skip
        refine CW.skip ?_
        refine CW.le [(2, .obj b1 ((Node.c a).map .r)), (3, .obj b2 ((Node.c b).map .r))] rfl (Le.c rfl <| Le.c rfl <| Le.e) ?_
        refine CW.seq ?_
        refine CW.seq ?_
        refine CW.region ?_
        refine RW.v rfl (V.field rfl rfl rfl rfl (by decide) rfl) ?_
        refine RW.v rfl (V.loadPrim (d := I a.role) rfl rfl (.inl rfl) rfl rfl rfl) ?_
        refine RW.v rfl (V.field rfl rfl rfl rfl (by decide) rfl) ?_
        refine RW.v rfl (V.loadPrim (d := I b.role) rfl rfl (.inl rfl) rfl rfl rfl) ?_
        refine RW.v rfl (V.cmpInt rfl rfl rfl rfl) ?_
        refine RW.nil ?_
        refine CW.le [(2, .obj b1 ((Node.c a).map .r)), (3, .obj b2 ((Node.c b).map .r)), (24, Bo (a.role != b.role))] rfl (Le.c rfl <| Le.c rfl <| Le.c rfl <| Le.e) ?_
        refine CW.cond rfl (fun h6 => ?_) (fun h6 => ?_)
        · skip
          refine CW.seq ?_
          refine CW.region ?_
          refine RW.v rfl (V.as (d := Bo false) rfl rfl) ?_
          refine RW.nil ?_
          refine CW.le [(4, Bo false)] rfl (Le.c rfl <| Le.e) ?_
          refine CW.ret ?_
          exact Post.one (RV.b rfl (by simp_all [eqNode])) (AOs.a rfl (AOs.a rfl AOs.e))
        · skip
          refine CW.skip ?_
          refine CW.le [(2, .obj b1 ((Node.c a).map .r)), (3, .obj b2 ((Node.c b).map .r))] rfl (Le.c rfl <| Le.c rfl <| Le.e) ?_
          refine CW.seq ?_
          refine CW.seq ?_
          refine CW.region ?_
          refine RW.v rfl (V.field rfl rfl rfl rfl (by decide) rfl) ?_
          refine RW.v rfl (V.loadPrim (d := I a.lead) rfl rfl (.inl rfl) rfl rfl rfl) ?_
          refine RW.v rfl (V.field rfl rfl rfl rfl (by decide) rfl) ?_
          refine RW.v rfl (V.loadPrim (d := I b.lead) rfl rfl (.inl rfl) rfl rfl rfl) ?_
          refine RW.v rfl (V.cmpInt rfl rfl rfl rfl) ?_
          refine RW.nil ?_
          refine CW.le [(2, .obj b1 ((Node.c a).map .r)), (3, .obj b2 ((Node.c b).map .r)), (29, Bo (a.lead != b.lead))] rfl (Le.c rfl <| Le.c rfl <| Le.c rfl <| Le.e) ?_
          refine CW.cond rfl (fun h7 => ?_) (fun h7 => ?_)
          · skip
            refine CW.seq ?_
            refine CW.region ?_
            refine RW.v rfl (V.as (d := Bo false) rfl rfl) ?_
            refine RW.nil ?_
            refine CW.le [(4, Bo false)] rfl (Le.c rfl <| Le.e) ?_
            refine CW.ret ?_
            exact Post.one (RV.b rfl (by simp_all [eqNode])) (AOs.a rfl (AOs.a rfl AOs.e))
          · skip
            refine CW.skip ?_
            refine CW.le [(2, .obj b1 ((Node.c a).map .r)), (3, .obj b2 ((Node.c b).map .r))] rfl (Le.c rfl <| Le.c rfl <| Le.e) ?_
            refine CW.seq ?_
            refine CW.seq ?_
            refine CW.region ?_
            refine RW.v rfl (V.field rfl rfl rfl rfl (by decide) rfl) ?_
            refine RW.v rfl (V.loadPrim (d := .r (sl 1 cI a.conf)) rfl rfl (.inr ⟨_, rfl⟩) rfl rfl rfl) ?_
            refine RW.v rfl (V.field rfl rfl rfl rfl (by decide) rfl) ?_
            refine RW.v rfl (V.loadPrim (d := .r (sl 1 cI b.conf)) rfl rfl (.inr ⟨_, rfl⟩) rfl rfl rfl) ?_
            refine RW.call rfl (laws_eqIntS_fn a.conf b.conf) rfl (.cons (.one (.r .r)) (.cons (.one (.r .r)) (.nil))) fun g8 => ?_
            refine RW.v rfl (V.not rfl rfl) ?_
            refine RW.nil ?_
            refine CW.le [(2, .obj b1 ((Node.c a).map .r)), (3, .obj b2 ((Node.c b).map .r)), (35, Bo (!(eqS eqI a.conf b.conf)))] rfl (Le.c rfl <| Le.c rfl <| Le.c rfl <| Le.e) ?_
            refine CW.cond rfl (fun h9 => ?_) (fun h9 => ?_)
            · skip
              refine CW.seq ?_
              refine CW.region ?_
              refine RW.v rfl (V.as (d := Bo false) rfl rfl) ?_
              refine RW.nil ?_
              refine CW.le [(4, Bo false)] rfl (Le.c rfl <| Le.e) ?_
              refine CW.ret ?_
              exact Post.one (RV.b rfl (by simp_all [eqNode])) (AOs.a rfl (AOs.a rfl AOs.e))
            · skip
              refine CW.skip ?_
              refine CW.le [(2, .obj b1 ((Node.c a).map .r)), (3, .obj b2 ((Node.c b).map .r))] rfl (Le.c rfl <| Le.c rfl <| Le.e) ?_
              refine CW.seq ?_
              refine CW.seq ?_
              refine CW.region ?_
              refine RW.v rfl (V.field rfl rfl rfl rfl (by decide) rfl) ?_
              refine RW.v rfl (V.loadAgg rfl rfl rfl rfl rfl (Nat.le_of_ble_eq_true rfl)) ?_
              refine RW.v rfl (V.field rfl rfl rfl rfl (by decide) rfl) ?_
              refine RW.v rfl (V.loadAgg rfl rfl rfl rfl rfl (Nat.le_of_ble_eq_true rfl)) ?_
              refine RW.call rfl (laws_eqLog_fn a.log b.log) rfl (.cons (.agg (.cons (.r .r) (.cons (.r .r) (.cons (.r .r) (.nil))))) (.cons (.agg (.cons (.r .r) (.cons (.r .r) (.cons (.r .r) (.nil))))) (.nil))) fun g10 => ?_
              refine RW.v rfl (V.not rfl rfl) ?_
              refine RW.nil ?_
              refine CW.le [(2, .obj b1 ((Node.c a).map .r)), (3, .obj b2 ((Node.c b).map .r)), (41, Bo (!(eqLog a.log b.log)))] rfl (Le.c rfl <| Le.c rfl <| Le.c rfl <| Le.e) ?_
              refine CW.cond rfl (fun h11 => ?_) (fun h11 => ?_)
              · skip
                refine CW.seq ?_
                refine CW.region ?_
                refine RW.v rfl (V.as (d := Bo false) rfl rfl) ?_
                refine RW.nil ?_
                refine CW.le [(4, Bo false)] rfl (Le.c rfl <| Le.e) ?_
                refine CW.ret ?_
                exact Post.one (RV.b rfl (by simp_all [eqNode])) (AOs.a rfl (AOs.a rfl AOs.e))
              · skip
                refine CW.skip ?_
                refine CW.le [(2, .obj b1 ((Node.c a).map .r)), (3, .obj b2 ((Node.c b).map .r))] rfl (Le.c rfl <| Le.c rfl <| Le.e) ?_
                refine CW.seq ?_
                refine CW.seq ?_
                refine CW.region ?_
                refine RW.v rfl (V.field rfl rfl rfl rfl (by decide) rfl) ?_
                refine RW.v rfl (V.loadPrim (d := I a.commit) rfl rfl (.inl rfl) rfl rfl rfl) ?_
                refine RW.v rfl (V.field rfl rfl rfl rfl (by decide) rfl) ?_
                refine RW.v rfl (V.loadPrim (d := I b.commit) rfl rfl (.inl rfl) rfl rfl rfl) ?_
                refine RW.v rfl (V.cmpInt rfl rfl rfl rfl) ?_
                refine RW.nil ?_
                refine CW.le [(2, .obj b1 ((Node.c a).map .r)), (3, .obj b2 ((Node.c b).map .r)), (46, Bo (a.commit != b.commit))] rfl (Le.c rfl <| Le.c rfl <| Le.c rfl <| Le.e) ?_
                refine CW.cond rfl (fun h12 => ?_) (fun h12 => ?_)
                · skip
                  refine CW.seq ?_
                  refine CW.region ?_
                  refine RW.v rfl (V.as (d := Bo false) rfl rfl) ?_
                  refine RW.nil ?_
                  refine CW.le [(4, Bo false)] rfl (Le.c rfl <| Le.e) ?_
                  refine CW.ret ?_
                  exact Post.one (RV.b rfl (by simp_all [eqNode])) (AOs.a rfl (AOs.a rfl AOs.e))
                · skip
                  refine CW.skip ?_
                  refine CW.le [(2, .obj b1 ((Node.c a).map .r)), (3, .obj b2 ((Node.c b).map .r))] rfl (Le.c rfl <| Le.c rfl <| Le.e) ?_
                  refine CW.seq ?_
                  refine CW.seq ?_
                  refine CW.region ?_
                  refine RW.v rfl (V.field rfl rfl rfl rfl (by decide) rfl) ?_
                  refine RW.v rfl (V.loadPrim (d := I a.clock) rfl rfl (.inl rfl) rfl rfl rfl) ?_
                  refine RW.v rfl (V.field rfl rfl rfl rfl (by decide) rfl) ?_
                  refine RW.v rfl (V.loadPrim (d := I b.clock) rfl rfl (.inl rfl) rfl rfl rfl) ?_
                  refine RW.v rfl (V.cmpInt rfl rfl rfl rfl) ?_
                  refine RW.nil ?_
                  refine CW.le [(2, .obj b1 ((Node.c a).map .r)), (3, .obj b2 ((Node.c b).map .r)), (51, Bo (a.clock != b.clock))] rfl (Le.c rfl <| Le.c rfl <| Le.c rfl <| Le.e) ?_
                  refine CW.cond rfl (fun h13 => ?_) (fun h13 => ?_)
                  · skip
                    refine CW.seq ?_
                    refine CW.region ?_
                    refine RW.v rfl (V.as (d := Bo false) rfl rfl) ?_
                    refine RW.nil ?_
                    refine CW.le [(4, Bo false)] rfl (Le.c rfl <| Le.e) ?_
                    refine CW.ret ?_
                    exact Post.one (RV.b rfl (by simp_all [eqNode])) (AOs.a rfl (AOs.a rfl AOs.e))
                  · skip
                    refine CW.skip ?_
                    refine CW.le [(2, .obj b1 ((Node.c a).map .r)), (3, .obj b2 ((Node.c b).map .r))] rfl (Le.c rfl <| Le.c rfl <| Le.e) ?_
                    refine CW.seq ?_
                    refine CW.seq ?_
                    refine CW.region ?_
                    refine RW.v rfl (V.field rfl rfl rfl rfl (by decide) rfl) ?_
                    refine RW.v rfl (V.loadPrim (d := I a.limit) rfl rfl (.inl rfl) rfl rfl rfl) ?_
                    refine RW.v rfl (V.field rfl rfl rfl rfl (by decide) rfl) ?_
                    refine RW.v rfl (V.loadPrim (d := I b.limit) rfl rfl (.inl rfl) rfl rfl rfl) ?_
                    refine RW.v rfl (V.cmpInt rfl rfl rfl rfl) ?_
                    refine RW.nil ?_
                    refine CW.le [(2, .obj b1 ((Node.c a).map .r)), (3, .obj b2 ((Node.c b).map .r)), (56, Bo (a.limit != b.limit))] rfl (Le.c rfl <| Le.c rfl <| Le.c rfl <| Le.e) ?_
                    refine CW.cond rfl (fun h14 => ?_) (fun h14 => ?_)
                    · skip
                      refine CW.seq ?_
                      refine CW.region ?_
                      refine RW.v rfl (V.as (d := Bo false) rfl rfl) ?_
                      refine RW.nil ?_
                      refine CW.le [(4, Bo false)] rfl (Le.c rfl <| Le.e) ?_
                      refine CW.ret ?_
                      exact Post.one (RV.b rfl (by simp_all [eqNode])) (AOs.a rfl (AOs.a rfl AOs.e))
                    · skip
                      refine CW.skip ?_
                      refine CW.le [(2, .obj b1 ((Node.c a).map .r)), (3, .obj b2 ((Node.c b).map .r))] rfl (Le.c rfl <| Le.c rfl <| Le.e) ?_
                      refine CW.seq ?_
                      refine CW.seq ?_
                      refine CW.region ?_
                      refine RW.v rfl (V.field rfl rfl rfl rfl (by decide) rfl) ?_
                      refine RW.v rfl (V.loadPrim (d := .r (sl 1 cI a.votes)) rfl rfl (.inr ⟨_, rfl⟩) rfl rfl rfl) ?_
                      refine RW.v rfl (V.field rfl rfl rfl rfl (by decide) rfl) ?_
                      refine RW.v rfl (V.loadPrim (d := .r (sl 1 cI b.votes)) rfl rfl (.inr ⟨_, rfl⟩) rfl rfl rfl) ?_
                      refine RW.call rfl (laws_eqIntS_fn a.votes b.votes) rfl (.cons (.one (.r .r)) (.cons (.one (.r .r)) (.nil))) fun g15 => ?_
                      refine RW.v rfl (V.not rfl rfl) ?_
                      refine RW.nil ?_
                      refine CW.le [(2, .obj b1 ((Node.c a).map .r)), (3, .obj b2 ((Node.c b).map .r)), (62, Bo (!(eqS eqI a.votes b.votes)))] rfl (Le.c rfl <| Le.c rfl <| Le.c rfl <| Le.e) ?_
                      refine CW.cond rfl (fun h16 => ?_) (fun h16 => ?_)
                      · skip
                        refine CW.seq ?_
                        refine CW.region ?_
                        refine RW.v rfl (V.as (d := Bo false) rfl rfl) ?_
                        refine RW.nil ?_
                        refine CW.le [(4, Bo false)] rfl (Le.c rfl <| Le.e) ?_
                        refine CW.ret ?_
                        exact Post.one (RV.b rfl (by simp_all [eqNode])) (AOs.a rfl (AOs.a rfl AOs.e))
                      · skip
                        refine CW.skip ?_
                        refine CW.le [(2, .obj b1 ((Node.c a).map .r)), (3, .obj b2 ((Node.c b).map .r))] rfl (Le.c rfl <| Le.c rfl <| Le.e) ?_
                        refine CW.seq ?_
                        refine CW.seq ?_
                        refine CW.region ?_
                        refine RW.v rfl (V.field rfl rfl rfl rfl (by decide) rfl) ?_
                        refine RW.v rfl (V.loadPrim (d := .r (sl 4 Peer.c a.peers)) rfl rfl (.inr ⟨_, rfl⟩) rfl rfl rfl) ?_
                        refine RW.v rfl (V.field rfl rfl rfl rfl (by decide) rfl) ?_
                        refine RW.v rfl (V.loadPrim (d := .r (sl 4 Peer.c b.peers)) rfl rfl (.inr ⟨_, rfl⟩) rfl rfl rfl) ?_
                        refine RW.call rfl (laws_eqPeerS_fn a.peers b.peers) rfl (.cons (.one (.r .r)) (.cons (.one (.r .r)) (.nil))) fun g17 => ?_
                        refine RW.v rfl (V.not rfl rfl) ?_
                        refine RW.nil ?_
                        refine CW.le [(68, Bo (!(eqS eqPeer a.peers b.peers)))] rfl (Le.c rfl <| Le.e) ?_
                        refine CW.cond rfl (fun h18 => ?_) (fun h18 => ?_)
                        · skip
                          refine CW.seq ?_
                          refine CW.region ?_
                          refine RW.v rfl (V.as (d := Bo false) rfl rfl) ?_
                          refine RW.nil ?_
                          refine CW.le [(4, Bo false)] rfl (Le.c rfl <| Le.e) ?_
                          refine CW.ret ?_
                          exact Post.one (RV.b rfl (by simp_all [eqNode])) (AOs.a rfl (AOs.a rfl AOs.e))
                        · skip
                          refine CW.skip ?_
                          refine CW.le [] rfl (Le.e) ?_
                          refine CW.seq ?_
                          refine CW.region ?_
                          refine RW.v rfl (V.as (d := Bo true) rfl rfl) ?_
                          refine RW.nil ?_
                          refine CW.le [(4, Bo true)] rfl (Le.c rfl <| Le.e) ?_
                          refine CW.ret ?_
                          exact Post.one (RV.b rfl (by simp_all [eqNode])) (AOs.a rfl (AOs.a rfl AOs.e))
set_option maxHeartbeats 4000000 in
theorem laws_markText_fn (k : Int) (hk : k ≤ 9223372036854775807) : Eng.Fn E.P 52 [.one (.r (.v (.int .i64 k)))] (.one (.one (.w (.v (.string (mtext k)))))) [.one (.r (.v (.int .i64 k)))] := by
  refine Eng.Fn.intro (E := E) (rvs := [.tmp 2]) Try.func52 rfl rfl rfl (by simp [outSlots, moved, rvSlot, sl]) ?_
  intro B g bo
  refine CW.le [(0, I k)] rfl (Le.c rfl <| Le.e) ?_
  refine CW.seq ?_
  refine CW.region ?_
  refine RW.v rfl (V.as (d := S (⟨#[]⟩ : ByteArray)) rfl rfl) ?_
  refine RW.nil ?_
  refine CW.le [(0, I k)] rfl (Le.c rfl <| Le.e) ?_
  refine CW.seq ?_
  refine CW.seq ?_
  refine CW.region ?_
  refine RW.v rfl (V.mv (d := I k) rfl rfl) ?_
  refine RW.v rfl (V.cmpInt rfl rfl rfl rfl) ?_
  refine RW.nil ?_
  refine CW.le [(0, I k), (5, Bo (decide (k ≤ 0)))] rfl (Le.c rfl <| Le.c rfl <| Le.e) ?_
  refine CW.cond rfl (fun h1 => ?_) (fun h1 => ?_)
  · skip
    refine CW.seq ?_
    refine CW.region ?_
    refine RW.v rfl (V.as (d := S (⟨#[109, 48]⟩ : ByteArray)) rfl rfl) ?_
    refine RW.nil ?_
    refine CW.le [(2, S (⟨#[109, 48]⟩ : ByteArray))] rfl (Le.c rfl <| Le.e) ?_
    refine CW.ret ?_
    exact Post.one (RV.s rfl (by simp_all [mtext])) (AOs.r AOs.e)
  · skip
    refine CW.skip ?_
    refine CW.le [(0, I k)] rfl (Le.c rfl <| Le.e) ?_
    refine CW.seq ?_
    refine CW.region ?_
    refine RW.v rfl (V.as (d := S (⟨#[]⟩ : ByteArray)) rfl rfl) ?_
    refine RW.nil ?_
    refine CW.le [(0, I k), (3, S (⟨#[]⟩ : ByteArray))] rfl (Le.c rfl <| Le.c rfl <| Le.e) ?_
    refine CW.seq ?_
    refine CW.block ?_
    refine CW.loopI 20 (fun (x : Int × ByteArray) => match x with | (n, out) => [(0, I n), (3, S out)]) (fun (x : Int × ByteArray) => match x with | (n, out) => 0 ≤ n ∧ out.size ≤ 60 ∧ n * 10 ^ out.size ≤ 9223372036854775807 ∧ dgs n.toNat out = dgs k.toNat ⟨#[]⟩) (fun (x : Int × ByteArray) => match x with | (n, out) => n.toNat) (_, _) rfl (Le.c rfl <| Le.c rfl <| Le.e) ⟨by simp at h1; omega, by decide, by show k * 10 ^ 0 ≤ _; omega, rfl⟩ ?_
    rintro ⟨n, out⟩ ⟨h0, hs, hp, hr⟩
    refine CW.seq ?_
    refine CW.seq ?_
    refine CW.region ?_
    refine RW.v rfl (V.mv (d := I n) rfl rfl) ?_
    refine RW.v rfl (V.cmpInt rfl rfl rfl rfl) ?_
    refine RW.nil ?_
    refine CW.le [(0, I n), (3, S out), (7, Bo (decide (n > 0)))] rfl (Le.c rfl <| Le.c rfl <| Le.c rfl <| Le.e) ?_
    refine CW.cond rfl (fun h2 => ?_) (fun h2 => ?_)
    · skip
      refine CW.skip ?_
      refine CW.le [(0, I n), (3, S out)] rfl (Le.c rfl <| Le.c rfl <| Le.e) ?_
      refine CW.block ?_
      refine CW.seq ?_
      refine CW.region ?_
      refine RW.v rfl (V.mv (d := I n) rfl rfl) ?_
      refine RW.v rfl (V.rem rfl rfl rfl (by decide)) ?_
      refine RW.v rfl (V.arInt rfl rfl rfl rfl) ?_
      refine RW.v rfl (V.convInt (k := .u8) (k' := .i64) rfl (by kernel_rfl) (by kernel_rfl) rfl) ?_
      refine RW.build1c (c := cU) (v := (IntKind.u8.wrap (IntKind.i64.wrap (48 + (Int.tmod n 10))))) (u := .v (.int .u8 (IntKind.u8.wrap (IntKind.i64.wrap (48 + (Int.tmod n 10)))))) rfl rfl rfl rfl rfl rfl (.inl rfl) rfl rfl fun X3 => ?_
      refine RW.v rfl (V.bytesStr (l := [(IntKind.u8.wrap (IntKind.i64.wrap (48 + (Int.tmod n 10))))]) rfl rfl rfl (by kernel_rfl) (by kernel_rfl) (.al (k := none) (i := 12) (sz := 1) (V := X3) rfl rfl nofun)) ?_
      refine RW.v rfl (V.mv (d := S out) rfl rfl) ?_
      refine RW.v rfl (V.cat rfl rfl rfl (by simp only [bytesOf_one, maxLen]; first | omega | (show 1 + out.size ≤ _; omega))) ?_
      refine RW.v rfl (V.as (d := S ((bytesOf ([(IntKind.u8.wrap (IntKind.i64.wrap (48 + (Int.tmod n 10))))])) ++ out)) rfl rfl) ?_
      refine RW.nil ?_
      refine CW.le [(0, I n), (3, S ((bytesOf ([(IntKind.u8.wrap (IntKind.i64.wrap (48 + (Int.tmod n 10))))])) ++ out))] rfl (Le.c rfl <| Le.c rfl <| Le.e) ?_
      refine CW.region ?_
      refine RW.v rfl (V.mv (d := I n) rfl rfl) ?_
      refine RW.v rfl (V.quo rfl rfl rfl (by decide)) ?_
      refine RW.v rfl (V.as (d := I (IntKind.i64.wrap (Int.tdiv n 10))) rfl rfl) ?_
      refine RW.nil ?_
      exact ⟨(_, _), by have := mt_dec h0 hp h2; simp only []; omega, mt_step h0 hp hr h2, rfl, Le.c rfl <| Le.c rfl <| Le.e⟩
    · skip
      refine CW.exit ?_
      refine CW.le [(3, S out)] rfl (Le.c rfl <| Le.e) ?_
      refine CW.seq ?_
      refine CW.region ?_
      refine RW.v rfl (V.mv (d := S out) rfl rfl) ?_
      refine RW.v rfl (V.cat rfl rfl rfl (by simp only [bytesOf_one, maxLen]; first | omega | (show 1 + out.size ≤ _; omega))) ?_
      refine RW.v rfl (V.as (d := S ((⟨#[109]⟩ : ByteArray) ++ out)) rfl rfl) ?_
      refine RW.nil ?_
      refine CW.le [(2, S ((⟨#[109]⟩ : ByteArray) ++ out))] rfl (Le.c rfl <| Le.e) ?_
      refine CW.ret ?_
      exact Post.one (RV.s rfl (by rw [mtext_dgs (by simpa using h1), ← hr, dgs, dif_pos (by simp at h2; omega)])) (AOs.r AOs.e)
set_option maxHeartbeats 4000000 in
theorem laws_markIntS_fn (a : List Int) (k : Int) (hk : k ≤ 9223372036854775807) : Eng.Fn E.P 28 [.one (.w (sl 1 cI a)), .one (.r (.v (.int .i64 k)))] (.one (.one (.w (.v (.int .i64 ((mkL mkI a k).2)))))) [.one (.w (sl 1 cI ((mkL mkI a k).1))), .one (.r (.v (.int .i64 k)))] := by
  refine Eng.Fn.intro (E := E) (rvs := [.tmp 4]) Try.func28 rfl rfl rfl (by simp [outSlots, moved, rvSlot, sl]) ?_
  intro B g bo
  refine CW.bound (x := .tmp 0) (n := a.length) (AsT.al rfl rfl nofun) (fun hl0 => ?_)
  refine CW.le [(0, .w (sl 1 cI a) (g 0 0)), (1, I k)] rfl (Le.c rfl <| Le.c rfl <| Le.e) ?_
  have hl0b : a.length ≤ maxLen := hl0
  refine CW.seq ?_
  refine CW.region ?_
  refine RW.v rfl (V.as (d := I 0) rfl rfl) ?_
  refine RW.nil ?_
  refine CW.le [(0, .w (sl 1 cI a) (g 0 0)), (1, I k)] rfl (Le.c rfl <| Le.c rfl <| Le.e) ?_
  refine CW.seq ?_
  refine CW.seq ?_
  refine CW.region ?_
  refine RW.v rfl (V.as (d := I 0) rfl rfl) ?_
  refine RW.nil ?_
  refine CW.le [(0, .w (sl 1 cI a) (g 0 0)), (1, I k), (5, I 0)] rfl (Le.c rfl <| Le.c rfl <| Le.c rfl <| Le.e) ?_
  refine CW.block ?_
  refine CW.loopI 19 (fun (x : Nat × Int × List Int) => match x with | (i, l, b) => [(0, .w (sl 1 cI b) (g 0 0)), (1, I l), (5, I (i : Int))]) (fun (x : Nat × Int × List Int) => match x with | (i, l, b) => i ≤ b.length ∧ l ≤ 9223372036854775807 ∧ b.length = a.length ∧ b.drop i = a.drop i ∧ (b.take i ++ (mkL mkI (a.drop i) l).1, (mkL mkI (a.drop i) l).2) = mkL mkI a k) (fun (x : Nat × Int × List Int) => match x with | (i, l, b) => a.length - i) (0, _, _) rfl (Le.c rfl <| Le.c rfl <| Le.c rfl <| Le.e) ⟨by omega, hk, rfl, rfl, by simp⟩ ?_
  rintro ⟨i, l, b⟩ ⟨hb, hlk, hlen, hdr, hr⟩
  refine CW.seq ?_
  refine CW.seq ?_
  refine CW.region ?_
  refine RW.v rfl (V.mv (d := I (i : Int)) rfl rfl) ?_
  refine RW.v rfl (V.mv (d := .al 0 none 1 b.length (g 0 0) 0) rfl rfl) ?_
  refine RW.v rfl (V.lenT (n := b.length) rfl rfl rfl (.al rfl rfl nofun)) ?_
  refine RW.v rfl (V.cmpInt rfl rfl rfl rfl) ?_
  refine RW.nil ?_
  refine CW.le [(0, .w (sl 1 cI b) (g 0 0)), (1, I l), (5, I (i : Int)), (9, Bo (decide ((i : Int) < (b.length : Int))))] rfl (Le.c rfl <| Le.c rfl <| Le.c rfl <| Le.c rfl <| Le.e) ?_
  refine CW.cond rfl (fun h1 => ?_) (fun h1 => ?_)
  · skip
    have hii : i < b.length := by have := h1; simp at this; first | exact this | omega | (simp; done) | (simp; omega)
    obtain ⟨ei, hei⟩ : ∃ e, b[i]? = some e := ⟨_, List.getElem?_eq_getElem hii⟩
    have hdi := drop_get hei
    refine CW.skip ?_
    refine CW.le [(0, .w (sl 1 cI b) (g 0 0)), (1, I l), (5, I (i : Int))] rfl (Le.c rfl <| Le.c rfl <| Le.c rfl <| Le.e) ?_
    refine CW.seq ?_
    refine CW.block ?_
    refine CW.seq ?_
    refine CW.region ?_
    refine RW.v rfl (V.mv (d := .al 0 none 1 b.length (g 0 0) 0) rfl rfl) ?_
    refine RW.v rfl (V.mv (d := I (i : Int)) rfl rfl) ?_
    refine RW.v rfl (V.mv (d := I l) rfl rfl) ?_
    refine RW.v rfl (V.indexW rfl rfl rfl rfl rfl rfl rfl (by first | omega | (simp; omega))) ?_
    refine RW.storeS1 (v := l) (c := cI) (u := .v (.int .i64 l)) rfl rfl rfl rfl rfl rfl rfl (.inl rfl) rfl cI.len (by first | omega | (simp; omega)) rfl ?_
    refine RW.nil ?_
    refine CW.le [(0, .w (sl 1 cI (b.set i l)) (g 0 0)), (1, I l), (5, I (i : Int))] rfl (Le.c rfl <| Le.c rfl <| Le.c rfl <| Le.e) ?_
    refine CW.region ?_
    refine RW.v rfl (V.mv (d := I l) rfl rfl) ?_
    refine RW.v rfl (V.arInt rfl rfl rfl rfl) ?_
    refine RW.v rfl (V.as (d := I (IntKind.i64.wrap (l + 1))) rfl rfl) ?_
    refine RW.nil ?_
    refine CW.le [(0, .w (sl 1 cI (b.set i l)) (g 0 0)), (1, I (IntKind.i64.wrap (l + 1))), (5, I (i : Int))] rfl (Le.c rfl <| Le.c rfl <| Le.c rfl <| Le.e) ?_
    refine CW.region ?_
    refine RW.v rfl (V.mv (d := I (i : Int)) rfl rfl) ?_
    refine RW.v rfl (V.inc rfl rfl rfl hii (by omega)) ?_
    refine RW.v rfl (V.as (d := I ((i + 1 : Nat) : Int)) rfl rfl) ?_
    refine RW.nil ?_
    exact ⟨(i + 1, (IntKind.i64.wrap (l + 1)), (b.set i l)), by simp only []; omega, mk_step mkI (l) ((IntKind.i64.wrap (l + 1))) hei hlen hdr hr (by first | rfl | simp only [List.set_set]) rfl (by first | exact wrap_le _ | (apply mkL_le; assumption)), rfl, Le.c rfl <| Le.c rfl <| Le.c rfl <| Le.e⟩
  · skip
    have hii : b.length ≤ i := by have := h1; simp at this; first | exact this | omega | (simp; done) | (simp; omega)
    have hdi : b.drop i = [] := List.drop_eq_nil_of_le hii
    refine CW.exit ?_
    refine CW.le [(0, .w (sl 1 cI b) (g 0 0)), (1, I l)] rfl (Le.c rfl <| Le.c rfl <| Le.e) ?_
    refine CW.seq ?_
    refine CW.region ?_
    refine RW.v rfl (V.mv (d := I l) rfl rfl) ?_
    refine RW.v rfl (V.as (d := I l) rfl rfl) ?_
    refine RW.nil ?_
    refine CW.le [(0, .w (sl 1 cI b) (g 0 0)), (4, I l)] rfl (Le.c rfl <| Le.c rfl <| Le.e) ?_
    refine CW.ret ?_
    exact Post.one (RV.i rfl (by rw [← hr, ← hdr, hdi]; rfl)) (AOs.w (by show _ = D.w _ _; exact congrArg (fun l => D.w (sl _ cI l) _) (by rw [← hr, ← hdr, hdi]; show b = b.take i ++ []; rw [List.append_nil, List.take_of_length_le hii])) (AOs.r AOs.e))
set_option maxHeartbeats 4000000 in
theorem laws_markEntryS_fn (a : List Entry) (k : Int) (hk : k ≤ 9223372036854775807) : Eng.Fn E.P 17 [.one (.w (sl 3 Entry.c a)), .one (.r (.v (.int .i64 k)))] (.one (.one (.w (.v (.int .i64 ((mkL mkEEntry a k).2)))))) [.one (.w (sl 3 Entry.c ((mkL mkEEntry a k).1))), .one (.r (.v (.int .i64 k)))] := by
  refine Eng.Fn.intro (E := E) (rvs := [.tmp 4]) Try.func17 rfl rfl rfl (by simp [outSlots, moved, rvSlot, sl]) ?_
  intro B g bo
  refine CW.bound (x := .tmp 0) (n := a.length) (AsT.al rfl rfl nofun) (fun hl0 => ?_)
  refine CW.le [(0, .w (sl 3 Entry.c a) (g 0 0)), (1, I k)] rfl (Le.c rfl <| Le.c rfl <| Le.e) ?_
  have hl0b : a.length ≤ maxLen := hl0
  refine CW.seq ?_
  refine CW.region ?_
  refine RW.v rfl (V.as (d := I 0) rfl rfl) ?_
  refine RW.nil ?_
  refine CW.le [(0, .w (sl 3 Entry.c a) (g 0 0)), (1, I k)] rfl (Le.c rfl <| Le.c rfl <| Le.e) ?_
  refine CW.seq ?_
  refine CW.seq ?_
  refine CW.region ?_
  refine RW.v rfl (V.as (d := I 0) rfl rfl) ?_
  refine RW.nil ?_
  refine CW.le [(0, .w (sl 3 Entry.c a) (g 0 0)), (1, I k), (5, I 0)] rfl (Le.c rfl <| Le.c rfl <| Le.c rfl <| Le.e) ?_
  refine CW.block ?_
  refine CW.loopI 35 (fun (x : Nat × Int × List Entry) => match x with | (i, l, b) => [(0, .w (sl 3 Entry.c b) (g 0 0)), (1, I l), (5, I (i : Int))]) (fun (x : Nat × Int × List Entry) => match x with | (i, l, b) => i ≤ b.length ∧ l ≤ 9223372036854775807 ∧ b.length = a.length ∧ b.drop i = a.drop i ∧ (b.take i ++ (mkL mkEEntry (a.drop i) l).1, (mkL mkEEntry (a.drop i) l).2) = mkL mkEEntry a k) (fun (x : Nat × Int × List Entry) => match x with | (i, l, b) => a.length - i) (0, _, _) rfl (Le.c rfl <| Le.c rfl <| Le.c rfl <| Le.e) ⟨by omega, hk, rfl, rfl, by simp⟩ ?_
  rintro ⟨i, l, b⟩ ⟨hb, hlk, hlen, hdr, hr⟩
  refine CW.seq ?_
  refine CW.seq ?_
  refine CW.region ?_
  refine RW.v rfl (V.mv (d := I (i : Int)) rfl rfl) ?_
  refine RW.v rfl (V.mv (d := .al 0 none 3 b.length (g 0 0) 0) rfl rfl) ?_
  refine RW.v rfl (V.lenT (n := b.length) rfl rfl rfl (.al rfl rfl nofun)) ?_
  refine RW.v rfl (V.cmpInt rfl rfl rfl rfl) ?_
  refine RW.nil ?_
  refine CW.le [(0, .w (sl 3 Entry.c b) (g 0 0)), (1, I l), (5, I (i : Int)), (9, Bo (decide ((i : Int) < (b.length : Int))))] rfl (Le.c rfl <| Le.c rfl <| Le.c rfl <| Le.c rfl <| Le.e) ?_
  refine CW.cond rfl (fun h1 => ?_) (fun h1 => ?_)
  · skip
    have hii : i < b.length := by have := h1; simp at this; first | exact this | omega | (simp; done) | (simp; omega)
    obtain ⟨ei, hei⟩ : ∃ e, b[i]? = some e := ⟨_, List.getElem?_eq_getElem hii⟩
    have hdi := drop_get hei
    refine CW.skip ?_
    refine CW.le [(0, .w (sl 3 Entry.c b) (g 0 0)), (1, I l), (5, I (i : Int))] rfl (Le.c rfl <| Le.c rfl <| Le.c rfl <| Le.e) ?_
    refine CW.seq ?_
    refine CW.block ?_
    refine CW.seq ?_
    refine CW.region ?_
    refine RW.v rfl (V.mv (d := .al 0 none 3 b.length (g 0 0) 0) rfl rfl) ?_
    refine RW.v rfl (V.mv (d := I (i : Int)) rfl rfl) ?_
    refine RW.v rfl (V.mv (d := I l) rfl rfl) ?_
    refine RW.v rfl (V.indexW rfl rfl rfl rfl rfl rfl rfl (by first | omega | (simp; omega))) ?_
    refine RW.v rfl (V.fieldE rfl rfl rfl rfl (by decide) rfl) ?_
    refine RW.storeF (m := i) (off := 0) (v := ei) (v' := (⟨l, ei.kind, ei.data⟩ : Entry)) (u := .v (.int .i64 l)) (c := Entry.c) rfl rfl rfl rfl rfl rfl rfl (.inl rfl) Entry.len hei (by decide) rfl rfl ?_
    refine RW.nil ?_
    refine CW.le [(0, .w (sl 3 Entry.c (b.set i (⟨l, ei.kind, ei.data⟩ : Entry))) (g 0 0)), (1, I l), (5, I (i : Int))] rfl (Le.c rfl <| Le.c rfl <| Le.c rfl <| Le.e) ?_
    refine CW.seq ?_
    refine CW.region ?_
    refine RW.v rfl (V.mv (d := I l) rfl rfl) ?_
    refine RW.v rfl (V.arInt rfl rfl rfl rfl) ?_
    refine RW.v rfl (V.as (d := I (IntKind.i64.wrap (l + 1))) rfl rfl) ?_
    refine RW.nil ?_
    refine CW.le [(0, .w (sl 3 Entry.c (b.set i (⟨l, ei.kind, ei.data⟩ : Entry))) (g 0 0)), (1, I (IntKind.i64.wrap (l + 1))), (5, I (i : Int))] rfl (Le.c rfl <| Le.c rfl <| Le.c rfl <| Le.e) ?_
    refine CW.seq ?_
    refine CW.region ?_
    refine RW.v rfl (V.mv (d := .al 0 none 3 ((b.set i (⟨l, ei.kind, ei.data⟩ : Entry)).length) (g 0 0) 0) rfl rfl) ?_
    refine RW.v rfl (V.mv (d := I (i : Int)) rfl rfl) ?_
    refine RW.v rfl (V.mv (d := I (IntKind.i64.wrap (l + 1))) rfl rfl) ?_
    refine RW.v rfl (V.indexW rfl rfl rfl rfl rfl rfl rfl (by first | omega | (simp; omega))) ?_
    refine RW.v rfl (V.fieldE rfl rfl rfl rfl (by decide) rfl) ?_
    refine RW.storeF (m := i) (off := 1) (v := (⟨l, ei.kind, ei.data⟩ : Entry)) (v' := (⟨l, (IntKind.i64.wrap (l + 1)), ei.data⟩ : Entry)) (u := .v (.int .i64 (IntKind.i64.wrap (l + 1)))) (c := Entry.c) rfl rfl rfl rfl rfl rfl rfl (.inl rfl) Entry.len (List.getElem?_set_self (by first | omega | (simp; omega))) (by decide) rfl rfl ?_
    refine RW.nil ?_
    refine CW.le [(0, .w (sl 3 Entry.c ((b.set i (⟨l, ei.kind, ei.data⟩ : Entry)).set i (⟨l, (IntKind.i64.wrap (l + 1)), ei.data⟩ : Entry))) (g 0 0)), (1, I (IntKind.i64.wrap (l + 1))), (5, I (i : Int))] rfl (Le.c rfl <| Le.c rfl <| Le.c rfl <| Le.e) ?_
    refine CW.seq ?_
    refine CW.region ?_
    refine RW.v rfl (V.mv (d := I (IntKind.i64.wrap (l + 1))) rfl rfl) ?_
    refine RW.v rfl (V.arInt rfl rfl rfl rfl) ?_
    refine RW.v rfl (V.as (d := I (IntKind.i64.wrap ((IntKind.i64.wrap (l + 1)) + 1))) rfl rfl) ?_
    refine RW.nil ?_
    refine CW.le [(0, .w (sl 3 Entry.c ((b.set i (⟨l, ei.kind, ei.data⟩ : Entry)).set i (⟨l, (IntKind.i64.wrap (l + 1)), ei.data⟩ : Entry))) (g 0 0)), (1, I (IntKind.i64.wrap ((IntKind.i64.wrap (l + 1)) + 1))), (5, I (i : Int))] rfl (Le.c rfl <| Le.c rfl <| Le.c rfl <| Le.e) ?_
    refine CW.seq ?_
    refine CW.region ?_
    refine RW.v rfl (V.mv (d := .al 0 none 3 (((b.set i (⟨l, ei.kind, ei.data⟩ : Entry)).set i (⟨l, (IntKind.i64.wrap (l + 1)), ei.data⟩ : Entry)).length) (g 0 0) 0) rfl rfl) ?_
    refine RW.v rfl (V.mv (d := I (i : Int)) rfl rfl) ?_
    refine RW.v rfl (V.mv (d := I (IntKind.i64.wrap ((IntKind.i64.wrap (l + 1)) + 1))) rfl rfl) ?_
    refine RW.call rfl (laws_markText_fn (IntKind.i64.wrap ((IntKind.i64.wrap (l + 1)) + 1)) (by first | exact hlk | exact wrap_le _ | simp only [mkL_le, mkI_le, mkS_le, mkB_le, mkEEntry_le, mkEPeer_le, mkEApplied_le])) rfl (.cons (.one (.r .r)) (.nil)) fun g2 => ?_
    refine RW.v rfl (V.indexW rfl rfl rfl rfl rfl rfl rfl (by first | omega | (simp; omega))) ?_
    refine RW.v rfl (V.fieldE rfl rfl rfl rfl (by decide) rfl) ?_
    refine RW.storeF (m := i) (off := 2) (v := (⟨l, (IntKind.i64.wrap (l + 1)), ei.data⟩ : Entry)) (v' := (⟨l, (IntKind.i64.wrap (l + 1)), (mtext (IntKind.i64.wrap ((IntKind.i64.wrap (l + 1)) + 1)))⟩ : Entry)) (u := .v (.string (mtext (IntKind.i64.wrap ((IntKind.i64.wrap (l + 1)) + 1))))) (c := Entry.c) rfl rfl rfl rfl rfl rfl rfl (.inl rfl) Entry.len (List.getElem?_set_self (by first | omega | (simp; omega))) (by decide) rfl rfl ?_
    refine RW.nil ?_
    refine CW.le [(0, .w (sl 3 Entry.c (((b.set i (⟨l, ei.kind, ei.data⟩ : Entry)).set i (⟨l, (IntKind.i64.wrap (l + 1)), ei.data⟩ : Entry)).set i (⟨l, (IntKind.i64.wrap (l + 1)), (mtext (IntKind.i64.wrap ((IntKind.i64.wrap (l + 1)) + 1)))⟩ : Entry))) (g 0 0)), (1, I (IntKind.i64.wrap ((IntKind.i64.wrap (l + 1)) + 1))), (5, I (i : Int))] rfl (Le.c rfl <| Le.c rfl <| Le.c rfl <| Le.e) ?_
    refine CW.region ?_
    refine RW.v rfl (V.mv (d := I (IntKind.i64.wrap ((IntKind.i64.wrap (l + 1)) + 1))) rfl rfl) ?_
    refine RW.v rfl (V.arInt rfl rfl rfl rfl) ?_
    refine RW.v rfl (V.as (d := I (IntKind.i64.wrap ((IntKind.i64.wrap ((IntKind.i64.wrap (l + 1)) + 1)) + 1))) rfl rfl) ?_
    refine RW.nil ?_
    refine CW.le [(0, .w (sl 3 Entry.c (((b.set i (⟨l, ei.kind, ei.data⟩ : Entry)).set i (⟨l, (IntKind.i64.wrap (l + 1)), ei.data⟩ : Entry)).set i (⟨l, (IntKind.i64.wrap (l + 1)), (mtext (IntKind.i64.wrap ((IntKind.i64.wrap (l + 1)) + 1)))⟩ : Entry))) (g 0 0)), (1, I (IntKind.i64.wrap ((IntKind.i64.wrap ((IntKind.i64.wrap (l + 1)) + 1)) + 1))), (5, I (i : Int))] rfl (Le.c rfl <| Le.c rfl <| Le.c rfl <| Le.e) ?_
    refine CW.region ?_
    refine RW.v rfl (V.mv (d := I (i : Int)) rfl rfl) ?_
    refine RW.v rfl (V.inc rfl rfl rfl hii (by omega)) ?_
    refine RW.v rfl (V.as (d := I ((i + 1 : Nat) : Int)) rfl rfl) ?_
    refine RW.nil ?_
    exact ⟨(i + 1, (IntKind.i64.wrap ((IntKind.i64.wrap ((IntKind.i64.wrap (l + 1)) + 1)) + 1)), (((b.set i (⟨l, ei.kind, ei.data⟩ : Entry)).set i (⟨l, (IntKind.i64.wrap (l + 1)), ei.data⟩ : Entry)).set i (⟨l, (IntKind.i64.wrap (l + 1)), (mtext (IntKind.i64.wrap ((IntKind.i64.wrap (l + 1)) + 1)))⟩ : Entry))), by simp only []; omega, mk_step mkEEntry ((⟨l, (IntKind.i64.wrap (l + 1)), (mtext (IntKind.i64.wrap ((IntKind.i64.wrap (l + 1)) + 1)))⟩ : Entry)) ((IntKind.i64.wrap ((IntKind.i64.wrap ((IntKind.i64.wrap (l + 1)) + 1)) + 1))) hei hlen hdr hr (by first | rfl | simp only [List.set_set]) rfl (by first | exact wrap_le _ | (apply mkL_le; assumption)), rfl, Le.c rfl <| Le.c rfl <| Le.c rfl <| Le.e⟩
  · skip
    have hii : b.length ≤ i := by have := h1; simp at this; first | exact this | omega | (simp; done) | (simp; omega)
    have hdi : b.drop i = [] := List.drop_eq_nil_of_le hii
    refine CW.exit ?_
    refine CW.le [(0, .w (sl 3 Entry.c b) (g 0 0)), (1, I l)] rfl (Le.c rfl <| Le.c rfl <| Le.e) ?_
    refine CW.seq ?_
    refine CW.region ?_
    refine RW.v rfl (V.mv (d := I l) rfl rfl) ?_
    refine RW.v rfl (V.as (d := I l) rfl rfl) ?_
    refine RW.nil ?_
    refine CW.le [(0, .w (sl 3 Entry.c b) (g 0 0)), (4, I l)] rfl (Le.c rfl <| Le.c rfl <| Le.e) ?_
    refine CW.ret ?_
    exact Post.one (RV.i rfl (by rw [← hr, ← hdr, hdi]; rfl)) (AOs.w (by show _ = D.w _ _; exact congrArg (fun l => D.w (sl _ Entry.c l) _) (by rw [← hr, ← hdr, hdi]; show b = b.take i ++ []; rw [List.append_nil, List.take_of_length_le hii])) (AOs.r AOs.e))
set_option maxHeartbeats 4000000 in
theorem laws_markLog_fn (a : Log) (k : Int) (hk : k ≤ 9223372036854775807) : Eng.Fn E.P 76 [.agg ((Log.c a).map .w), .one (.r (.v (.int .i64 k)))] (.one (.one (.w (.v (.int .i64 ((mkVLog a k).2)))))) [.agg ((Log.c ((mkVLog a k).1)).map .w), .one (.r (.v (.int .i64 k)))] := by
  refine Eng.Fn.intro (E := E) (rvs := [.tmp 4]) Try.func76 rfl rfl rfl (by simp [outSlots, moved, rvSlot, sl]) ?_
  intro B g bo
  refine CW.le [(0, .agg [I a.start, I a.startTerm, .w (sl 3 Entry.c a.entries) (g 0 2)]), (1, I k)] rfl (Le.c rfl <| Le.c rfl <| Le.e) ?_
  refine CW.seq ?_
  refine CW.region ?_
  refine RW.box (ds := [I a.start, I a.startTerm, .al 0 (some 2) 3 a.entries.length (g 0 2) 0]) rfl rfl rfl fun b1 => ?_
  refine RW.v rfl (V.as (d := I 0) rfl rfl) ?_
  refine RW.nil ?_
  refine CW.le [(0, .agg [I a.start, I a.startTerm, .w (sl 3 Entry.c a.entries) (g 0 2)]), (1, I k), (2, .obj b1 [I a.start, I a.startTerm, .al 0 (some 2) 3 a.entries.length (g 0 2) 0])] rfl (Le.c rfl <| Le.c rfl <| Le.c rfl <| Le.e) ?_
  refine CW.seq ?_
  refine CW.region ?_
  refine RW.v rfl (V.field rfl rfl rfl rfl (by decide) rfl) ?_
  refine RW.v rfl (V.loadPrim (d := .al 0 (some 2) 3 a.entries.length (g 0 2) 0) rfl rfl (.inr ⟨_, rfl⟩) rfl rfl rfl) ?_
  refine RW.v rfl (V.mv (d := I k) rfl rfl) ?_
  refine RW.callW (k := 0) (laws_markEntryS_fn a.entries k (by repeat (first | exact hk | apply mkL_le | apply mkI_le | apply mkS_le | apply mkB_le | apply mkEEntry_le | apply mkEPeer_le | apply mkEApplied_le | apply mkVLog_le | apply mkVNode_le))) rfl rfl (Nat.le_of_ble_eq_true rfl) (by decide) (.here (AsW.cellA rfl) (.cons (.one (.r .r)) (.nil))) rfl fun g2 q3 => ?_
  refine RW.v rfl (V.as (d := I ((mkL mkEEntry a.entries k).2)) rfl rfl) ?_
  refine RW.nil ?_
  refine CW.le [(0, .agg [I a.start, I a.startTerm, .w (sl 3 Entry.c ((mkL mkEEntry a.entries k).1)) (g 0 2)]), (1, I ((mkL mkEEntry a.entries k).2))] rfl (Le.c rfl <| Le.c rfl <| Le.e) ?_
  refine CW.seq ?_
  refine CW.region ?_
  refine RW.v rfl (V.mv (d := I ((mkL mkEEntry a.entries k).2)) rfl rfl) ?_
  refine RW.v rfl (V.as (d := I ((mkL mkEEntry a.entries k).2)) rfl rfl) ?_
  refine RW.nil ?_
  refine CW.le [(0, .agg [I a.start, I a.startTerm, .w (sl 3 Entry.c ((mkL mkEEntry a.entries k).1)) (g 0 2)]), (4, I ((mkL mkEEntry a.entries k).2))] rfl (Le.c rfl <| Le.c rfl <| Le.e) ?_
  refine CW.ret ?_
  exact Post.one (RV.i rfl (by rfl)) (AOs.ag rfl (AOc.r rfl (AOc.r rfl (AOc.w rfl AOc.e))) (AOs.r AOs.e))
set_option maxHeartbeats 4000000 in
theorem laws_markPeerS_fn (a : List Peer) (k : Int) (hk : k ≤ 9223372036854775807) : Eng.Fn E.P 77 [.one (.w (sl 4 Peer.c a)), .one (.r (.v (.int .i64 k)))] (.one (.one (.w (.v (.int .i64 ((mkL mkEPeer a k).2)))))) [.one (.w (sl 4 Peer.c ((mkL mkEPeer a k).1))), .one (.r (.v (.int .i64 k)))] := by
  refine Eng.Fn.intro (E := E) (rvs := [.tmp 4]) Try.func77 rfl rfl rfl (by simp [outSlots, moved, rvSlot, sl]) ?_
  intro B g bo
  refine CW.bound (x := .tmp 0) (n := a.length) (AsT.al rfl rfl nofun) (fun hl0 => ?_)
  refine CW.le [(0, .w (sl 4 Peer.c a) (g 0 0)), (1, I k)] rfl (Le.c rfl <| Le.c rfl <| Le.e) ?_
  have hl0b : a.length ≤ maxLen := hl0
  refine CW.seq ?_
  refine CW.region ?_
  refine RW.v rfl (V.as (d := I 0) rfl rfl) ?_
  refine RW.nil ?_
  refine CW.le [(0, .w (sl 4 Peer.c a) (g 0 0)), (1, I k)] rfl (Le.c rfl <| Le.c rfl <| Le.e) ?_
  refine CW.seq ?_
  refine CW.seq ?_
  refine CW.region ?_
  refine RW.v rfl (V.as (d := I 0) rfl rfl) ?_
  refine RW.nil ?_
  refine CW.le [(0, .w (sl 4 Peer.c a) (g 0 0)), (1, I k), (5, I 0)] rfl (Le.c rfl <| Le.c rfl <| Le.c rfl <| Le.e) ?_
  refine CW.block ?_
  refine CW.loopI 41 (fun (x : Nat × Int × List Peer) => match x with | (i, l, b) => [(0, .w (sl 4 Peer.c b) (g 0 0)), (1, I l), (5, I (i : Int))]) (fun (x : Nat × Int × List Peer) => match x with | (i, l, b) => i ≤ b.length ∧ l ≤ 9223372036854775807 ∧ b.length = a.length ∧ b.drop i = a.drop i ∧ (b.take i ++ (mkL mkEPeer (a.drop i) l).1, (mkL mkEPeer (a.drop i) l).2) = mkL mkEPeer a k) (fun (x : Nat × Int × List Peer) => match x with | (i, l, b) => a.length - i) (0, _, _) rfl (Le.c rfl <| Le.c rfl <| Le.c rfl <| Le.e) ⟨by omega, hk, rfl, rfl, by simp⟩ ?_
  rintro ⟨i, l, b⟩ ⟨hb, hlk, hlen, hdr, hr⟩
  refine CW.seq ?_
  refine CW.seq ?_
  refine CW.region ?_
  refine RW.v rfl (V.mv (d := I (i : Int)) rfl rfl) ?_
  refine RW.v rfl (V.mv (d := .al 0 none 4 b.length (g 0 0) 0) rfl rfl) ?_
  refine RW.v rfl (V.lenT (n := b.length) rfl rfl rfl (.al rfl rfl nofun)) ?_
  refine RW.v rfl (V.cmpInt rfl rfl rfl rfl) ?_
  refine RW.nil ?_
  refine CW.le [(0, .w (sl 4 Peer.c b) (g 0 0)), (1, I l), (5, I (i : Int)), (9, Bo (decide ((i : Int) < (b.length : Int))))] rfl (Le.c rfl <| Le.c rfl <| Le.c rfl <| Le.c rfl <| Le.e) ?_
  refine CW.cond rfl (fun h1 => ?_) (fun h1 => ?_)
  · skip
    have hii : i < b.length := by have := h1; simp at this; first | exact this | omega | (simp; done) | (simp; omega)
    obtain ⟨ei, hei⟩ : ∃ e, b[i]? = some e := ⟨_, List.getElem?_eq_getElem hii⟩
    have hdi := drop_get hei
    refine CW.skip ?_
    refine CW.le [(0, .w (sl 4 Peer.c b) (g 0 0)), (1, I l), (5, I (i : Int))] rfl (Le.c rfl <| Le.c rfl <| Le.c rfl <| Le.e) ?_
    refine CW.seq ?_
    refine CW.block ?_
    refine CW.seq ?_
    refine CW.region ?_
    refine RW.v rfl (V.mv (d := .al 0 none 4 b.length (g 0 0) 0) rfl rfl) ?_
    refine RW.v rfl (V.mv (d := I (i : Int)) rfl rfl) ?_
    refine RW.v rfl (V.mv (d := I l) rfl rfl) ?_
    refine RW.v rfl (V.indexW rfl rfl rfl rfl rfl rfl rfl (by first | omega | (simp; omega))) ?_
    refine RW.v rfl (V.fieldE rfl rfl rfl rfl (by decide) rfl) ?_
    refine RW.storeF (m := i) (off := 0) (v := ei) (v' := (⟨l, ei.next, ei.match_, ei.sent⟩ : Peer)) (u := .v (.int .i64 l)) (c := Peer.c) rfl rfl rfl rfl rfl rfl rfl (.inl rfl) Peer.len hei (by decide) rfl rfl ?_
    refine RW.nil ?_
    refine CW.le [(0, .w (sl 4 Peer.c (b.set i (⟨l, ei.next, ei.match_, ei.sent⟩ : Peer))) (g 0 0)), (1, I l), (5, I (i : Int))] rfl (Le.c rfl <| Le.c rfl <| Le.c rfl <| Le.e) ?_
    refine CW.seq ?_
    refine CW.region ?_
    refine RW.v rfl (V.mv (d := I l) rfl rfl) ?_
    refine RW.v rfl (V.arInt rfl rfl rfl rfl) ?_
    refine RW.v rfl (V.as (d := I (IntKind.i64.wrap (l + 1))) rfl rfl) ?_
    refine RW.nil ?_
    refine CW.le [(0, .w (sl 4 Peer.c (b.set i (⟨l, ei.next, ei.match_, ei.sent⟩ : Peer))) (g 0 0)), (1, I (IntKind.i64.wrap (l + 1))), (5, I (i : Int))] rfl (Le.c rfl <| Le.c rfl <| Le.c rfl <| Le.e) ?_
    refine CW.seq ?_
    refine CW.region ?_
    refine RW.v rfl (V.mv (d := .al 0 none 4 ((b.set i (⟨l, ei.next, ei.match_, ei.sent⟩ : Peer)).length) (g 0 0) 0) rfl rfl) ?_
    refine RW.v rfl (V.mv (d := I (i : Int)) rfl rfl) ?_
    refine RW.v rfl (V.mv (d := I (IntKind.i64.wrap (l + 1))) rfl rfl) ?_
    refine RW.v rfl (V.indexW rfl rfl rfl rfl rfl rfl rfl (by first | omega | (simp; omega))) ?_
    refine RW.v rfl (V.fieldE rfl rfl rfl rfl (by decide) rfl) ?_
    refine RW.storeF (m := i) (off := 1) (v := (⟨l, ei.next, ei.match_, ei.sent⟩ : Peer)) (v' := (⟨l, (IntKind.i64.wrap (l + 1)), ei.match_, ei.sent⟩ : Peer)) (u := .v (.int .i64 (IntKind.i64.wrap (l + 1)))) (c := Peer.c) rfl rfl rfl rfl rfl rfl rfl (.inl rfl) Peer.len (List.getElem?_set_self (by first | omega | (simp; omega))) (by decide) rfl rfl ?_
    refine RW.nil ?_
    refine CW.le [(0, .w (sl 4 Peer.c ((b.set i (⟨l, ei.next, ei.match_, ei.sent⟩ : Peer)).set i (⟨l, (IntKind.i64.wrap (l + 1)), ei.match_, ei.sent⟩ : Peer))) (g 0 0)), (1, I (IntKind.i64.wrap (l + 1))), (5, I (i : Int))] rfl (Le.c rfl <| Le.c rfl <| Le.c rfl <| Le.e) ?_
    refine CW.seq ?_
    refine CW.region ?_
    refine RW.v rfl (V.mv (d := I (IntKind.i64.wrap (l + 1))) rfl rfl) ?_
    refine RW.v rfl (V.arInt rfl rfl rfl rfl) ?_
    refine RW.v rfl (V.as (d := I (IntKind.i64.wrap ((IntKind.i64.wrap (l + 1)) + 1))) rfl rfl) ?_
    refine RW.nil ?_
    refine CW.le [(0, .w (sl 4 Peer.c ((b.set i (⟨l, ei.next, ei.match_, ei.sent⟩ : Peer)).set i (⟨l, (IntKind.i64.wrap (l + 1)), ei.match_, ei.sent⟩ : Peer))) (g 0 0)), (1, I (IntKind.i64.wrap ((IntKind.i64.wrap (l + 1)) + 1))), (5, I (i : Int))] rfl (Le.c rfl <| Le.c rfl <| Le.c rfl <| Le.e) ?_
    refine CW.seq ?_
    refine CW.region ?_
    refine RW.v rfl (V.mv (d := .al 0 none 4 (((b.set i (⟨l, ei.next, ei.match_, ei.sent⟩ : Peer)).set i (⟨l, (IntKind.i64.wrap (l + 1)), ei.match_, ei.sent⟩ : Peer)).length) (g 0 0) 0) rfl rfl) ?_
    refine RW.v rfl (V.mv (d := I (i : Int)) rfl rfl) ?_
    refine RW.v rfl (V.mv (d := I (IntKind.i64.wrap ((IntKind.i64.wrap (l + 1)) + 1))) rfl rfl) ?_
    refine RW.v rfl (V.indexW rfl rfl rfl rfl rfl rfl rfl (by first | omega | (simp; omega))) ?_
    refine RW.v rfl (V.fieldE rfl rfl rfl rfl (by decide) rfl) ?_
    refine RW.storeF (m := i) (off := 2) (v := (⟨l, (IntKind.i64.wrap (l + 1)), ei.match_, ei.sent⟩ : Peer)) (v' := (⟨l, (IntKind.i64.wrap (l + 1)), (IntKind.i64.wrap ((IntKind.i64.wrap (l + 1)) + 1)), ei.sent⟩ : Peer)) (u := .v (.int .i64 (IntKind.i64.wrap ((IntKind.i64.wrap (l + 1)) + 1)))) (c := Peer.c) rfl rfl rfl rfl rfl rfl rfl (.inl rfl) Peer.len (List.getElem?_set_self (by first | omega | (simp; omega))) (by decide) rfl rfl ?_
    refine RW.nil ?_
    refine CW.le [(0, .w (sl 4 Peer.c (((b.set i (⟨l, ei.next, ei.match_, ei.sent⟩ : Peer)).set i (⟨l, (IntKind.i64.wrap (l + 1)), ei.match_, ei.sent⟩ : Peer)).set i (⟨l, (IntKind.i64.wrap (l + 1)), (IntKind.i64.wrap ((IntKind.i64.wrap (l + 1)) + 1)), ei.sent⟩ : Peer))) (g 0 0)), (1, I (IntKind.i64.wrap ((IntKind.i64.wrap (l + 1)) + 1))), (5, I (i : Int))] rfl (Le.c rfl <| Le.c rfl <| Le.c rfl <| Le.e) ?_
    refine CW.seq ?_
    refine CW.region ?_
    refine RW.v rfl (V.mv (d := I (IntKind.i64.wrap ((IntKind.i64.wrap (l + 1)) + 1))) rfl rfl) ?_
    refine RW.v rfl (V.arInt rfl rfl rfl rfl) ?_
    refine RW.v rfl (V.as (d := I (IntKind.i64.wrap ((IntKind.i64.wrap ((IntKind.i64.wrap (l + 1)) + 1)) + 1))) rfl rfl) ?_
    refine RW.nil ?_
    refine CW.le [(0, .w (sl 4 Peer.c (((b.set i (⟨l, ei.next, ei.match_, ei.sent⟩ : Peer)).set i (⟨l, (IntKind.i64.wrap (l + 1)), ei.match_, ei.sent⟩ : Peer)).set i (⟨l, (IntKind.i64.wrap (l + 1)), (IntKind.i64.wrap ((IntKind.i64.wrap (l + 1)) + 1)), ei.sent⟩ : Peer))) (g 0 0)), (1, I (IntKind.i64.wrap ((IntKind.i64.wrap ((IntKind.i64.wrap (l + 1)) + 1)) + 1))), (5, I (i : Int))] rfl (Le.c rfl <| Le.c rfl <| Le.c rfl <| Le.e) ?_
    refine CW.seq ?_
    refine CW.region ?_
    refine RW.v rfl (V.mv (d := .al 0 none 4 ((((b.set i (⟨l, ei.next, ei.match_, ei.sent⟩ : Peer)).set i (⟨l, (IntKind.i64.wrap (l + 1)), ei.match_, ei.sent⟩ : Peer)).set i (⟨l, (IntKind.i64.wrap (l + 1)), (IntKind.i64.wrap ((IntKind.i64.wrap (l + 1)) + 1)), ei.sent⟩ : Peer)).length) (g 0 0) 0) rfl rfl) ?_
    refine RW.v rfl (V.mv (d := I (i : Int)) rfl rfl) ?_
    refine RW.v rfl (V.mv (d := I (IntKind.i64.wrap ((IntKind.i64.wrap ((IntKind.i64.wrap (l + 1)) + 1)) + 1))) rfl rfl) ?_
    refine RW.v rfl (V.indexW rfl rfl rfl rfl rfl rfl rfl (by first | omega | (simp; omega))) ?_
    refine RW.v rfl (V.fieldE rfl rfl rfl rfl (by decide) rfl) ?_
    refine RW.storeF (m := i) (off := 3) (v := (⟨l, (IntKind.i64.wrap (l + 1)), (IntKind.i64.wrap ((IntKind.i64.wrap (l + 1)) + 1)), ei.sent⟩ : Peer)) (v' := (⟨l, (IntKind.i64.wrap (l + 1)), (IntKind.i64.wrap ((IntKind.i64.wrap (l + 1)) + 1)), (IntKind.i64.wrap ((IntKind.i64.wrap ((IntKind.i64.wrap (l + 1)) + 1)) + 1))⟩ : Peer)) (u := .v (.int .i64 (IntKind.i64.wrap ((IntKind.i64.wrap ((IntKind.i64.wrap (l + 1)) + 1)) + 1)))) (c := Peer.c) rfl rfl rfl rfl rfl rfl rfl (.inl rfl) Peer.len (List.getElem?_set_self (by first | omega | (simp; omega))) (by decide) rfl rfl ?_
    refine RW.nil ?_
    refine CW.le [(0, .w (sl 4 Peer.c ((((b.set i (⟨l, ei.next, ei.match_, ei.sent⟩ : Peer)).set i (⟨l, (IntKind.i64.wrap (l + 1)), ei.match_, ei.sent⟩ : Peer)).set i (⟨l, (IntKind.i64.wrap (l + 1)), (IntKind.i64.wrap ((IntKind.i64.wrap (l + 1)) + 1)), ei.sent⟩ : Peer)).set i (⟨l, (IntKind.i64.wrap (l + 1)), (IntKind.i64.wrap ((IntKind.i64.wrap (l + 1)) + 1)), (IntKind.i64.wrap ((IntKind.i64.wrap ((IntKind.i64.wrap (l + 1)) + 1)) + 1))⟩ : Peer))) (g 0 0)), (1, I (IntKind.i64.wrap ((IntKind.i64.wrap ((IntKind.i64.wrap (l + 1)) + 1)) + 1))), (5, I (i : Int))] rfl (Le.c rfl <| Le.c rfl <| Le.c rfl <| Le.e) ?_
    refine CW.region ?_
    refine RW.v rfl (V.mv (d := I (IntKind.i64.wrap ((IntKind.i64.wrap ((IntKind.i64.wrap (l + 1)) + 1)) + 1))) rfl rfl) ?_
    refine RW.v rfl (V.arInt rfl rfl rfl rfl) ?_
    refine RW.v rfl (V.as (d := I (IntKind.i64.wrap ((IntKind.i64.wrap ((IntKind.i64.wrap ((IntKind.i64.wrap (l + 1)) + 1)) + 1)) + 1))) rfl rfl) ?_
    refine RW.nil ?_
    refine CW.le [(0, .w (sl 4 Peer.c ((((b.set i (⟨l, ei.next, ei.match_, ei.sent⟩ : Peer)).set i (⟨l, (IntKind.i64.wrap (l + 1)), ei.match_, ei.sent⟩ : Peer)).set i (⟨l, (IntKind.i64.wrap (l + 1)), (IntKind.i64.wrap ((IntKind.i64.wrap (l + 1)) + 1)), ei.sent⟩ : Peer)).set i (⟨l, (IntKind.i64.wrap (l + 1)), (IntKind.i64.wrap ((IntKind.i64.wrap (l + 1)) + 1)), (IntKind.i64.wrap ((IntKind.i64.wrap ((IntKind.i64.wrap (l + 1)) + 1)) + 1))⟩ : Peer))) (g 0 0)), (1, I (IntKind.i64.wrap ((IntKind.i64.wrap ((IntKind.i64.wrap ((IntKind.i64.wrap (l + 1)) + 1)) + 1)) + 1))), (5, I (i : Int))] rfl (Le.c rfl <| Le.c rfl <| Le.c rfl <| Le.e) ?_
    refine CW.region ?_
    refine RW.v rfl (V.mv (d := I (i : Int)) rfl rfl) ?_
    refine RW.v rfl (V.inc rfl rfl rfl hii (by omega)) ?_
    refine RW.v rfl (V.as (d := I ((i + 1 : Nat) : Int)) rfl rfl) ?_
    refine RW.nil ?_
    exact ⟨(i + 1, (IntKind.i64.wrap ((IntKind.i64.wrap ((IntKind.i64.wrap ((IntKind.i64.wrap (l + 1)) + 1)) + 1)) + 1)), ((((b.set i (⟨l, ei.next, ei.match_, ei.sent⟩ : Peer)).set i (⟨l, (IntKind.i64.wrap (l + 1)), ei.match_, ei.sent⟩ : Peer)).set i (⟨l, (IntKind.i64.wrap (l + 1)), (IntKind.i64.wrap ((IntKind.i64.wrap (l + 1)) + 1)), ei.sent⟩ : Peer)).set i (⟨l, (IntKind.i64.wrap (l + 1)), (IntKind.i64.wrap ((IntKind.i64.wrap (l + 1)) + 1)), (IntKind.i64.wrap ((IntKind.i64.wrap ((IntKind.i64.wrap (l + 1)) + 1)) + 1))⟩ : Peer))), by simp only []; omega, mk_step mkEPeer ((⟨l, (IntKind.i64.wrap (l + 1)), (IntKind.i64.wrap ((IntKind.i64.wrap (l + 1)) + 1)), (IntKind.i64.wrap ((IntKind.i64.wrap ((IntKind.i64.wrap (l + 1)) + 1)) + 1))⟩ : Peer)) ((IntKind.i64.wrap ((IntKind.i64.wrap ((IntKind.i64.wrap ((IntKind.i64.wrap (l + 1)) + 1)) + 1)) + 1))) hei hlen hdr hr (by first | rfl | simp only [List.set_set]) rfl (by first | exact wrap_le _ | (apply mkL_le; assumption)), rfl, Le.c rfl <| Le.c rfl <| Le.c rfl <| Le.e⟩
  · skip
    have hii : b.length ≤ i := by have := h1; simp at this; first | exact this | omega | (simp; done) | (simp; omega)
    have hdi : b.drop i = [] := List.drop_eq_nil_of_le hii
    refine CW.exit ?_
    refine CW.le [(0, .w (sl 4 Peer.c b) (g 0 0)), (1, I l)] rfl (Le.c rfl <| Le.c rfl <| Le.e) ?_
    refine CW.seq ?_
    refine CW.region ?_
    refine RW.v rfl (V.mv (d := I l) rfl rfl) ?_
    refine RW.v rfl (V.as (d := I l) rfl rfl) ?_
    refine RW.nil ?_
    refine CW.le [(0, .w (sl 4 Peer.c b) (g 0 0)), (4, I l)] rfl (Le.c rfl <| Le.c rfl <| Le.e) ?_
    refine CW.ret ?_
    exact Post.one (RV.i rfl (by rw [← hr, ← hdr, hdi]; rfl)) (AOs.w (by show _ = D.w _ _; exact congrArg (fun l => D.w (sl _ Peer.c l) _) (by rw [← hr, ← hdr, hdi]; show b = b.take i ++ []; rw [List.append_nil, List.take_of_length_le hii])) (AOs.r AOs.e))
set_option maxHeartbeats 4000000 in
theorem laws_markNode_fn (a : Node) (k : Int) (hk : k ≤ 9223372036854775807) : Eng.Fn E.P 29 [.agg ((Node.c a).map .w), .one (.r (.v (.int .i64 k)))] (.one (.one (.w (.v (.int .i64 ((mkVNode a k).2)))))) [.agg ((Node.c ((mkVNode a k).1)).map .w), .one (.r (.v (.int .i64 k)))] := by
  refine Eng.Fn.intro (E := E) (rvs := [.tmp 4]) Try.func29 rfl rfl rfl (by simp [outSlots, moved, rvSlot, sl]) ?_
  intro B g bo
  refine CW.le [(0, .agg [I a.id, I a.term_, I a.vote, I a.role, I a.lead, .w (sl 1 cI a.conf) (g 0 5), I a.log.start, I a.log.startTerm, .w (sl 3 Entry.c a.log.entries) (g 0 8), I a.commit, I a.clock, I a.limit, .w (sl 1 cI a.votes) (g 0 12), .w (sl 4 Peer.c a.peers) (g 0 13)]), (1, I k)] rfl (Le.c rfl <| Le.c rfl <| Le.e) ?_
  refine CW.seq ?_
  refine CW.region ?_
  refine RW.box (ds := [I a.id, I a.term_, I a.vote, I a.role, I a.lead, .al 0 (some 5) 1 a.conf.length (g 0 5) 0, I a.log.start, I a.log.startTerm, .al 0 (some 8) 3 a.log.entries.length (g 0 8) 0, I a.commit, I a.clock, I a.limit, .al 0 (some 12) 1 a.votes.length (g 0 12) 0, .al 0 (some 13) 4 a.peers.length (g 0 13) 0]) rfl rfl rfl fun b1 => ?_
  refine RW.v rfl (V.as (d := I 0) rfl rfl) ?_
  refine RW.nil ?_
  refine CW.le [(0, .agg [I a.id, I a.term_, I a.vote, I a.role, I a.lead, .w (sl 1 cI a.conf) (g 0 5), I a.log.start, I a.log.startTerm, .w (sl 3 Entry.c a.log.entries) (g 0 8), I a.commit, I a.clock, I a.limit, .w (sl 1 cI a.votes) (g 0 12), .w (sl 4 Peer.c a.peers) (g 0 13)]), (1, I k), (2, .obj b1 [I a.id, I a.term_, I a.vote, I a.role, I a.lead, .al 0 (some 5) 1 a.conf.length (g 0 5) 0, I a.log.start, I a.log.startTerm, .al 0 (some 8) 3 a.log.entries.length (g 0 8) 0, I a.commit, I a.clock, I a.limit, .al 0 (some 12) 1 a.votes.length (g 0 12) 0, .al 0 (some 13) 4 a.peers.length (g 0 13) 0])] rfl (Le.c rfl <| Le.c rfl <| Le.c rfl <| Le.e) ?_
  refine CW.seq ?_
  refine CW.region ?_
  refine RW.v rfl (V.field rfl rfl rfl rfl (by decide) rfl) ?_
  refine RW.v rfl (V.loadPrim (d := .al 0 (some 5) 1 a.conf.length (g 0 5) 0) rfl rfl (.inr ⟨_, rfl⟩) rfl rfl rfl) ?_
  refine RW.v rfl (V.mv (d := I k) rfl rfl) ?_
  refine RW.callW (k := 0) (laws_markIntS_fn a.conf k (by repeat (first | exact hk | apply mkL_le | apply mkI_le | apply mkS_le | apply mkB_le | apply mkEEntry_le | apply mkEPeer_le | apply mkEApplied_le | apply mkVLog_le | apply mkVNode_le))) rfl rfl (Nat.le_of_ble_eq_true rfl) (by decide) (.here (AsW.cellA rfl) (.cons (.one (.r .r)) (.nil))) rfl fun g2 q3 => ?_
  refine RW.v rfl (V.as (d := I ((mkL mkI a.conf k).2)) rfl rfl) ?_
  refine RW.nil ?_
  refine CW.le [(0, .agg [I a.id, I a.term_, I a.vote, I a.role, I a.lead, .w (sl 1 cI ((mkL mkI a.conf k).1)) (g 0 5), I a.log.start, I a.log.startTerm, .w (sl 3 Entry.c a.log.entries) (g 0 8), I a.commit, I a.clock, I a.limit, .w (sl 1 cI a.votes) (g 0 12), .w (sl 4 Peer.c a.peers) (g 0 13)]), (1, I ((mkL mkI a.conf k).2)), (2, .obj b1 [I a.id, I a.term_, I a.vote, I a.role, I a.lead, .al 0 (some 5) 1 a.conf.length (g 0 5) 0, I a.log.start, I a.log.startTerm, .al 0 (some 8) 3 a.log.entries.length (g 0 8) 0, I a.commit, I a.clock, I a.limit, .al 0 (some 12) 1 a.votes.length (g 0 12) 0, .al 0 (some 13) 4 a.peers.length (g 0 13) 0])] rfl (Le.c rfl <| Le.c rfl <| Le.c rfl <| Le.e) ?_
  refine CW.seq ?_
  refine CW.region ?_
  refine RW.v rfl (V.field rfl rfl rfl rfl (by decide) rfl) ?_
  refine RW.v rfl (V.loadAgg rfl rfl rfl rfl rfl (Nat.le_of_ble_eq_true rfl)) ?_
  refine RW.v rfl (V.mv (d := I ((mkL mkI a.conf k).2)) rfl rfl) ?_
  refine RW.callW (k := 0) (laws_markLog_fn a.log ((mkL mkI a.conf k).2) (by repeat (first | exact hk | apply mkL_le | apply mkI_le | apply mkS_le | apply mkB_le | apply mkEEntry_le | apply mkEPeer_le | apply mkEApplied_le | apply mkVLog_le | apply mkVNode_le))) rfl rfl (Nat.le_of_ble_eq_true rfl) (by decide) (.here (AsW.partA rfl (One.there (One.there (One.here (xs := []))))) (.cons (.one (.r .r)) (.nil))) rfl fun g4 q5 => ?_
  refine RW.v rfl (V.as (d := I ((mkVLog a.log ((mkL mkI a.conf k).2)).2)) rfl rfl) ?_
  refine RW.nil ?_
  refine CW.le [(0, .agg [I a.id, I a.term_, I a.vote, I a.role, I a.lead, .w (sl 1 cI ((mkL mkI a.conf k).1)) (g 0 5), I a.log.start, I a.log.startTerm, .w (sl 3 Entry.c (((mkVLog a.log ((mkL mkI a.conf k).2)).1).entries)) (g 0 8), I a.commit, I a.clock, I a.limit, .w (sl 1 cI a.votes) (g 0 12), .w (sl 4 Peer.c a.peers) (g 0 13)]), (1, I ((mkVLog a.log ((mkL mkI a.conf k).2)).2)), (2, .obj b1 [I a.id, I a.term_, I a.vote, I a.role, I a.lead, .al 0 (some 5) 1 a.conf.length (g 0 5) 0, I a.log.start, I a.log.startTerm, .al 0 (some 8) 3 a.log.entries.length (g 0 8) 0, I a.commit, I a.clock, I a.limit, .al 0 (some 12) 1 a.votes.length (g 0 12) 0, .al 0 (some 13) 4 a.peers.length (g 0 13) 0])] rfl (Le.c rfl <| Le.c rfl <| Le.c rfl <| Le.e) ?_
  refine CW.seq ?_
  refine CW.region ?_
  refine RW.v rfl (V.field rfl rfl rfl rfl (by decide) rfl) ?_
  refine RW.v rfl (V.loadPrim (d := .al 0 (some 12) 1 a.votes.length (g 0 12) 0) rfl rfl (.inr ⟨_, rfl⟩) rfl rfl rfl) ?_
  refine RW.v rfl (V.mv (d := I ((mkVLog a.log ((mkL mkI a.conf k).2)).2)) rfl rfl) ?_
  refine RW.callW (k := 0) (laws_markIntS_fn a.votes ((mkVLog a.log ((mkL mkI a.conf k).2)).2) (by repeat (first | exact hk | apply mkL_le | apply mkI_le | apply mkS_le | apply mkB_le | apply mkEEntry_le | apply mkEPeer_le | apply mkEApplied_le | apply mkVLog_le | apply mkVNode_le))) rfl rfl (Nat.le_of_ble_eq_true rfl) (by decide) (.here (AsW.cellA rfl) (.cons (.one (.r .r)) (.nil))) rfl fun g6 q7 => ?_
  refine RW.v rfl (V.as (d := I ((mkL mkI a.votes ((mkVLog a.log ((mkL mkI a.conf k).2)).2)).2)) rfl rfl) ?_
  refine RW.nil ?_
  refine CW.le [(0, .agg [I a.id, I a.term_, I a.vote, I a.role, I a.lead, .w (sl 1 cI ((mkL mkI a.conf k).1)) (g 0 5), I a.log.start, I a.log.startTerm, .w (sl 3 Entry.c (((mkVLog a.log ((mkL mkI a.conf k).2)).1).entries)) (g 0 8), I a.commit, I a.clock, I a.limit, .w (sl 1 cI ((mkL mkI a.votes ((mkVLog a.log ((mkL mkI a.conf k).2)).2)).1)) (g 0 12), .w (sl 4 Peer.c a.peers) (g 0 13)]), (1, I ((mkL mkI a.votes ((mkVLog a.log ((mkL mkI a.conf k).2)).2)).2)), (2, .obj b1 [I a.id, I a.term_, I a.vote, I a.role, I a.lead, .al 0 (some 5) 1 a.conf.length (g 0 5) 0, I a.log.start, I a.log.startTerm, .al 0 (some 8) 3 a.log.entries.length (g 0 8) 0, I a.commit, I a.clock, I a.limit, .al 0 (some 12) 1 a.votes.length (g 0 12) 0, .al 0 (some 13) 4 a.peers.length (g 0 13) 0])] rfl (Le.c rfl <| Le.c rfl <| Le.c rfl <| Le.e) ?_
  refine CW.seq ?_
  refine CW.region ?_
  refine RW.v rfl (V.field rfl rfl rfl rfl (by decide) rfl) ?_
  refine RW.v rfl (V.loadPrim (d := .al 0 (some 13) 4 a.peers.length (g 0 13) 0) rfl rfl (.inr ⟨_, rfl⟩) rfl rfl rfl) ?_
  refine RW.v rfl (V.mv (d := I ((mkL mkI a.votes ((mkVLog a.log ((mkL mkI a.conf k).2)).2)).2)) rfl rfl) ?_
  refine RW.callW (k := 0) (laws_markPeerS_fn a.peers ((mkL mkI a.votes ((mkVLog a.log ((mkL mkI a.conf k).2)).2)).2) (by repeat (first | exact hk | apply mkL_le | apply mkI_le | apply mkS_le | apply mkB_le | apply mkEEntry_le | apply mkEPeer_le | apply mkEApplied_le | apply mkVLog_le | apply mkVNode_le))) rfl rfl (Nat.le_of_ble_eq_true rfl) (by decide) (.here (AsW.cellA rfl) (.cons (.one (.r .r)) (.nil))) rfl fun g8 q9 => ?_
  refine RW.v rfl (V.as (d := I ((mkL mkEPeer a.peers ((mkL mkI a.votes ((mkVLog a.log ((mkL mkI a.conf k).2)).2)).2)).2)) rfl rfl) ?_
  refine RW.nil ?_
  refine CW.le [(0, .agg [I a.id, I a.term_, I a.vote, I a.role, I a.lead, .w (sl 1 cI ((mkL mkI a.conf k).1)) (g 0 5), I a.log.start, I a.log.startTerm, .w (sl 3 Entry.c (((mkVLog a.log ((mkL mkI a.conf k).2)).1).entries)) (g 0 8), I a.commit, I a.clock, I a.limit, .w (sl 1 cI ((mkL mkI a.votes ((mkVLog a.log ((mkL mkI a.conf k).2)).2)).1)) (g 0 12), .w (sl 4 Peer.c ((mkL mkEPeer a.peers ((mkL mkI a.votes ((mkVLog a.log ((mkL mkI a.conf k).2)).2)).2)).1)) (g 0 13)]), (1, I ((mkL mkEPeer a.peers ((mkL mkI a.votes ((mkVLog a.log ((mkL mkI a.conf k).2)).2)).2)).2))] rfl (Le.c rfl <| Le.c rfl <| Le.e) ?_
  refine CW.seq ?_
  refine CW.region ?_
  refine RW.v rfl (V.mv (d := I ((mkL mkEPeer a.peers ((mkL mkI a.votes ((mkVLog a.log ((mkL mkI a.conf k).2)).2)).2)).2)) rfl rfl) ?_
  refine RW.v rfl (V.as (d := I ((mkL mkEPeer a.peers ((mkL mkI a.votes ((mkVLog a.log ((mkL mkI a.conf k).2)).2)).2)).2)) rfl rfl) ?_
  refine RW.nil ?_
  refine CW.le [(0, .agg [I a.id, I a.term_, I a.vote, I a.role, I a.lead, .w (sl 1 cI ((mkL mkI a.conf k).1)) (g 0 5), I a.log.start, I a.log.startTerm, .w (sl 3 Entry.c (((mkVLog a.log ((mkL mkI a.conf k).2)).1).entries)) (g 0 8), I a.commit, I a.clock, I a.limit, .w (sl 1 cI ((mkL mkI a.votes ((mkVLog a.log ((mkL mkI a.conf k).2)).2)).1)) (g 0 12), .w (sl 4 Peer.c ((mkL mkEPeer a.peers ((mkL mkI a.votes ((mkVLog a.log ((mkL mkI a.conf k).2)).2)).2)).1)) (g 0 13)]), (4, I ((mkL mkEPeer a.peers ((mkL mkI a.votes ((mkVLog a.log ((mkL mkI a.conf k).2)).2)).2)).2))] rfl (Le.c rfl <| Le.c rfl <| Le.e) ?_
  refine CW.ret ?_
  exact Post.one (RV.i rfl (by rfl)) (AOs.ag rfl (AOc.r rfl (AOc.r rfl (AOc.r rfl (AOc.r rfl (AOc.r rfl (AOc.w rfl (AOc.r rfl (AOc.r rfl (AOc.w rfl (AOc.r rfl (AOc.r rfl (AOc.r rfl (AOc.w rfl (AOc.w rfl AOc.e)))))))))))))) (AOs.r AOs.e))
set_option maxHeartbeats 4000000 in
theorem laws_heldIntS_fn (a : List Int) (k : Int) (hk : k ≤ 9223372036854775807) : Eng.Fn E.P 78 [.one (.r (sl 1 cI a)), .one (.r (.v (.int .i64 k)))] (.one (.one (.w (.v (.int .i64 ((hdL hdI a k).getD (-1))))))) [.one (.r (sl 1 cI a)), .one (.r (.v (.int .i64 k)))] := by
  refine Eng.Fn.intro (E := E) (rvs := [.tmp 4]) Try.func78 rfl rfl rfl (by simp [outSlots, moved, rvSlot, sl]) ?_
  intro B g bo
  refine CW.bound (x := .tmp 0) (n := a.length) (AsT.r) (fun hl0 => ?_)
  refine CW.le [(0, .r (sl 1 cI a)), (1, I k)] rfl (Le.c rfl <| Le.c rfl <| Le.e) ?_
  refine CW.seq ?_
  refine CW.region ?_
  refine RW.v rfl (V.as (d := I 0) rfl rfl) ?_
  refine RW.nil ?_
  refine CW.le [(0, .r (sl 1 cI a)), (1, I k)] rfl (Le.c rfl <| Le.c rfl <| Le.e) ?_
  refine CW.seq ?_
  refine CW.seq ?_
  refine CW.region ?_
  refine RW.v rfl (V.as (d := I 0) rfl rfl) ?_
  refine RW.nil ?_
  refine CW.le [(0, .r (sl 1 cI a)), (1, I k), (5, I 0)] rfl (Le.c rfl <| Le.c rfl <| Le.c rfl <| Le.e) ?_
  refine CW.block ?_
  refine CW.loopI 21 (fun (x : Nat × Int) => match x with | (i, l) => [(0, .r (sl 1 cI a)), (1, I l), (5, I (i : Int))]) (fun (x : Nat × Int) => match x with | (i, l) => i ≤ a.length ∧ l ≤ 9223372036854775807 ∧ hdL hdI (a.drop i) l = hdL hdI a k) (fun (x : Nat × Int) => match x with | (i, l) => a.length - i) (0, _) rfl (Le.c rfl <| Le.c rfl <| Le.c rfl <| Le.e) ⟨by omega, hk, by simp⟩ ?_
  rintro ⟨i, l⟩ ⟨hb, hlk, hr⟩
  refine CW.seq ?_
  refine CW.seq ?_
  refine CW.region ?_
  refine RW.v rfl (V.mv (d := I (i : Int)) rfl rfl) ?_
  refine RW.v rfl (V.mv (d := .r (sl 1 cI a)) rfl rfl) ?_
  refine RW.v rfl (V.lenT (n := a.length) rfl rfl rfl .r) ?_
  refine RW.v rfl (V.cmpInt rfl rfl rfl rfl) ?_
  refine RW.nil ?_
  refine CW.le [(0, .r (sl 1 cI a)), (1, I l), (5, I (i : Int)), (9, Bo (decide ((i : Int) < (a.length : Int))))] rfl (Le.c rfl <| Le.c rfl <| Le.c rfl <| Le.c rfl <| Le.e) ?_
  refine CW.cond rfl (fun h1 => ?_) (fun h1 => ?_)
  · skip
    have hii : i < a.length := by have := h1; simp at this; first | exact this | omega | (simp; done) | (simp; omega)
    obtain ⟨ei, hei⟩ : ∃ e, a[i]? = some e := ⟨_, List.getElem?_eq_getElem hii⟩
    have hdi := drop_get hei
    refine CW.skip ?_
    refine CW.le [(0, .r (sl 1 cI a)), (1, I l), (5, I (i : Int))] rfl (Le.c rfl <| Le.c rfl <| Le.c rfl <| Le.e) ?_
    refine CW.seq ?_
    refine CW.block ?_
    refine CW.seq ?_
    refine CW.seq ?_
    refine CW.region ?_
    refine RW.v rfl (V.mv (d := .r (sl 1 cI a)) rfl rfl) ?_
    refine RW.v rfl (V.mv (d := I (i : Int)) rfl rfl) ?_
    refine RW.v rfl (V.indexS rfl rfl rfl rfl rfl rfl cI.len hei) ?_
    refine RW.v rfl (V.loadPrimR (t0 := .v (.int .i64 ei)) rfl rfl (.inl rfl) rfl rfl) ?_
    refine RW.v rfl (V.mv (d := I l) rfl rfl) ?_
    refine RW.v rfl (V.cmpInt rfl rfl rfl rfl) ?_
    refine RW.nil ?_
    refine CW.le [(0, .r (sl 1 cI a)), (1, I l), (5, I (i : Int)), (17, Bo (ei != l))] rfl (Le.c rfl <| Le.c rfl <| Le.c rfl <| Le.c rfl <| Le.e) ?_
    refine CW.cond rfl (fun h2 => ?_) (fun h2 => ?_)
    · skip
      refine CW.seq ?_
      refine CW.region ?_
      refine RW.v rfl (V.as (d := I (-1)) rfl rfl) ?_
      refine RW.nil ?_
      refine CW.le [(4, I (-1))] rfl (Le.c rfl <| Le.e) ?_
      refine CW.ret ?_
      exact Post.one (RV.i rfl (by rw [← hr, hdi]; clear hr; first | rfl | (simp_all [hdL, hdI, inc]; done) | grind [hdL, hdI, inc])) (AOs.r (AOs.r AOs.e))
    · skip
      refine CW.skip ?_
      refine CW.le [(0, .r (sl 1 cI a)), (1, I l), (5, I (i : Int))] rfl (Le.c rfl <| Le.c rfl <| Le.c rfl <| Le.e) ?_
      refine CW.region ?_
      refine RW.v rfl (V.mv (d := I l) rfl rfl) ?_
      refine RW.v rfl (V.arInt rfl rfl rfl rfl) ?_
      refine RW.v rfl (V.as (d := I (IntKind.i64.wrap (l + 1))) rfl rfl) ?_
      refine RW.nil ?_
      refine CW.le [(0, .r (sl 1 cI a)), (1, I (IntKind.i64.wrap (l + 1))), (5, I (i : Int))] rfl (Le.c rfl <| Le.c rfl <| Le.c rfl <| Le.e) ?_
      refine CW.region ?_
      refine RW.v rfl (V.mv (d := I (i : Int)) rfl rfl) ?_
      refine RW.v rfl (V.inc rfl rfl rfl hii hl0) ?_
      refine RW.v rfl (V.as (d := I ((i + 1 : Nat) : Int)) rfl rfl) ?_
      refine RW.nil ?_
      exact ⟨(i + 1, _), by simp only []; omega, ⟨by omega, by first | exact wrap_le _ | omega, by rw [← hr, hdi]; clear hr; first | rfl | (simp_all [hdL, hdI, inc]; done) | grind [hdL, hdI, inc]⟩, rfl, Le.c rfl <| Le.c rfl <| Le.c rfl <| Le.e⟩
  · skip
    have hii : a.length ≤ i := by have := h1; simp at this; first | exact this | omega | (simp; done) | (simp; omega)
    have hdi : a.drop i = [] := List.drop_eq_nil_of_le hii
    refine CW.exit ?_
    refine CW.le [(1, I l)] rfl (Le.c rfl <| Le.e) ?_
    refine CW.seq ?_
    refine CW.region ?_
    refine RW.v rfl (V.mv (d := I l) rfl rfl) ?_
    refine RW.v rfl (V.as (d := I l) rfl rfl) ?_
    refine RW.nil ?_
    refine CW.le [(4, I l)] rfl (Le.c rfl <| Le.e) ?_
    refine CW.ret ?_
    exact Post.one (RV.i rfl (by rw [← hr, hdi]; clear hr; first | rfl | (simp_all [hdL, hdI, inc]; done) | grind [hdL, hdI, inc])) (AOs.r (AOs.r AOs.e))
set_option maxHeartbeats 4000000 in
theorem laws_heldEntryS_fn (a : List Entry) (k : Int) (hk : k ≤ 9223372036854775807) : Eng.Fn E.P 18 [.one (.r (sl 3 Entry.c a)), .one (.r (.v (.int .i64 k)))] (.one (.one (.w (.v (.int .i64 ((hdL hdEEntry a k).getD (-1))))))) [.one (.r (sl 3 Entry.c a)), .one (.r (.v (.int .i64 k)))] := by
  refine Eng.Fn.intro (E := E) (rvs := [.tmp 4]) Try.func18 rfl rfl rfl (by simp [outSlots, moved, rvSlot, sl]) ?_
  intro B g bo
  refine CW.bound (x := .tmp 0) (n := a.length) (AsT.r) (fun hl0 => ?_)
  refine CW.le [(0, .r (sl 3 Entry.c a)), (1, I k)] rfl (Le.c rfl <| Le.c rfl <| Le.e) ?_
  refine CW.seq ?_
  refine CW.region ?_
  refine RW.v rfl (V.as (d := I 0) rfl rfl) ?_
  refine RW.nil ?_
  refine CW.le [(0, .r (sl 3 Entry.c a)), (1, I k)] rfl (Le.c rfl <| Le.c rfl <| Le.e) ?_
  refine CW.seq ?_
  refine CW.seq ?_
  refine CW.region ?_
  refine RW.v rfl (V.as (d := I 0) rfl rfl) ?_
  refine RW.nil ?_
  refine CW.le [(0, .r (sl 3 Entry.c a)), (1, I k), (5, I 0)] rfl (Le.c rfl <| Le.c rfl <| Le.c rfl <| Le.e) ?_
  refine CW.block ?_
  refine CW.loopI 41 (fun (x : Nat × Int) => match x with | (i, l) => [(0, .r (sl 3 Entry.c a)), (1, I l), (5, I (i : Int))]) (fun (x : Nat × Int) => match x with | (i, l) => i ≤ a.length ∧ l ≤ 9223372036854775807 ∧ hdL hdEEntry (a.drop i) l = hdL hdEEntry a k) (fun (x : Nat × Int) => match x with | (i, l) => a.length - i) (0, _) rfl (Le.c rfl <| Le.c rfl <| Le.c rfl <| Le.e) ⟨by omega, hk, by simp⟩ ?_
  rintro ⟨i, l⟩ ⟨hb, hlk, hr⟩
  refine CW.seq ?_
  refine CW.seq ?_
  refine CW.region ?_
  refine RW.v rfl (V.mv (d := I (i : Int)) rfl rfl) ?_
  refine RW.v rfl (V.mv (d := .r (sl 3 Entry.c a)) rfl rfl) ?_
  refine RW.v rfl (V.lenT (n := a.length) rfl rfl rfl .r) ?_
  refine RW.v rfl (V.cmpInt rfl rfl rfl rfl) ?_
  refine RW.nil ?_
  refine CW.le [(0, .r (sl 3 Entry.c a)), (1, I l), (5, I (i : Int)), (9, Bo (decide ((i : Int) < (a.length : Int))))] rfl (Le.c rfl <| Le.c rfl <| Le.c rfl <| Le.c rfl <| Le.e) ?_
  refine CW.cond rfl (fun h1 => ?_) (fun h1 => ?_)
  · skip
    have hii : i < a.length := by have := h1; simp at this; first | exact this | omega | (simp; done) | (simp; omega)
    obtain ⟨ei, hei⟩ : ∃ e, a[i]? = some e := ⟨_, List.getElem?_eq_getElem hii⟩
    have hdi := drop_get hei
    refine CW.skip ?_
    refine CW.le [(0, .r (sl 3 Entry.c a)), (1, I l), (5, I (i : Int))] rfl (Le.c rfl <| Le.c rfl <| Le.c rfl <| Le.e) ?_
    refine CW.seq ?_
    refine CW.block ?_
    refine CW.seq ?_
    refine CW.seq ?_
    refine CW.region ?_
    refine RW.v rfl (V.mv (d := .r (sl 3 Entry.c a)) rfl rfl) ?_
    refine RW.v rfl (V.mv (d := I (i : Int)) rfl rfl) ?_
    refine RW.v rfl (V.indexS rfl rfl rfl rfl rfl rfl Entry.len hei) ?_
    refine RW.v rfl (V.fieldR rfl rfl rfl rfl (by decide) rfl (Nat.le_of_ble_eq_true rfl)) ?_
    refine RW.v rfl (V.loadPrimR (t0 := .v (.int .i64 ei.term_)) rfl rfl (.inl rfl) rfl rfl) ?_
    refine RW.v rfl (V.mv (d := I l) rfl rfl) ?_
    refine RW.v rfl (V.cmpInt rfl rfl rfl rfl) ?_
    refine RW.nil ?_
    refine CW.le [(0, .r (sl 3 Entry.c a)), (1, I l), (5, I (i : Int)), (18, Bo (ei.term_ != l))] rfl (Le.c rfl <| Le.c rfl <| Le.c rfl <| Le.c rfl <| Le.e) ?_
    refine CW.cond rfl (fun h2 => ?_) (fun h2 => ?_)
    · skip
      refine CW.seq ?_
      refine CW.region ?_
      refine RW.v rfl (V.as (d := I (-1)) rfl rfl) ?_
      refine RW.nil ?_
      refine CW.le [(4, I (-1))] rfl (Le.c rfl <| Le.e) ?_
      refine CW.ret ?_
      exact Post.one (RV.i rfl (by rw [← hr, hdi]; clear hr; first | rfl | (simp_all [hdL, hdEEntry, hdI, hdS, inc]; done) | grind [hdL, hdEEntry, hdI, hdS, inc])) (AOs.r (AOs.r AOs.e))
    · skip
      refine CW.skip ?_
      refine CW.le [(0, .r (sl 3 Entry.c a)), (1, I l), (5, I (i : Int))] rfl (Le.c rfl <| Le.c rfl <| Le.c rfl <| Le.e) ?_
      refine CW.seq ?_
      refine CW.region ?_
      refine RW.v rfl (V.mv (d := I l) rfl rfl) ?_
      refine RW.v rfl (V.arInt rfl rfl rfl rfl) ?_
      refine RW.v rfl (V.as (d := I (IntKind.i64.wrap (l + 1))) rfl rfl) ?_
      refine RW.nil ?_
      refine CW.le [(0, .r (sl 3 Entry.c a)), (1, I (IntKind.i64.wrap (l + 1))), (5, I (i : Int))] rfl (Le.c rfl <| Le.c rfl <| Le.c rfl <| Le.e) ?_
      refine CW.seq ?_
      refine CW.seq ?_
      refine CW.region ?_
      refine RW.v rfl (V.mv (d := .r (sl 3 Entry.c a)) rfl rfl) ?_
      refine RW.v rfl (V.mv (d := I (i : Int)) rfl rfl) ?_
      refine RW.v rfl (V.indexS rfl rfl rfl rfl rfl rfl Entry.len hei) ?_
      refine RW.v rfl (V.fieldR rfl rfl rfl rfl (by decide) rfl (Nat.le_of_ble_eq_true rfl)) ?_
      refine RW.v rfl (V.loadPrimR (t0 := .v (.int .i64 ei.kind)) rfl rfl (.inl rfl) rfl rfl) ?_
      refine RW.v rfl (V.mv (d := I (IntKind.i64.wrap (l + 1))) rfl rfl) ?_
      refine RW.v rfl (V.cmpInt rfl rfl rfl rfl) ?_
      refine RW.nil ?_
      refine CW.le [(0, .r (sl 3 Entry.c a)), (1, I (IntKind.i64.wrap (l + 1))), (5, I (i : Int)), (27, Bo (ei.kind != (IntKind.i64.wrap (l + 1))))] rfl (Le.c rfl <| Le.c rfl <| Le.c rfl <| Le.c rfl <| Le.e) ?_
      refine CW.cond rfl (fun h3 => ?_) (fun h3 => ?_)
      · skip
        refine CW.seq ?_
        refine CW.region ?_
        refine RW.v rfl (V.as (d := I (-1)) rfl rfl) ?_
        refine RW.nil ?_
        refine CW.le [(4, I (-1))] rfl (Le.c rfl <| Le.e) ?_
        refine CW.ret ?_
        exact Post.one (RV.i rfl (by rw [← hr, hdi]; clear hr; first | rfl | (simp_all [hdL, hdEEntry, hdI, hdS, inc]; done) | grind [hdL, hdEEntry, hdI, hdS, inc])) (AOs.r (AOs.r AOs.e))
      · skip
        refine CW.skip ?_
        refine CW.le [(0, .r (sl 3 Entry.c a)), (1, I (IntKind.i64.wrap (l + 1))), (5, I (i : Int))] rfl (Le.c rfl <| Le.c rfl <| Le.c rfl <| Le.e) ?_
        refine CW.seq ?_
        refine CW.region ?_
        refine RW.v rfl (V.mv (d := I (IntKind.i64.wrap (l + 1))) rfl rfl) ?_
        refine RW.v rfl (V.arInt rfl rfl rfl rfl) ?_
        refine RW.v rfl (V.as (d := I (IntKind.i64.wrap ((IntKind.i64.wrap (l + 1)) + 1))) rfl rfl) ?_
        refine RW.nil ?_
        refine CW.le [(0, .r (sl 3 Entry.c a)), (1, I (IntKind.i64.wrap ((IntKind.i64.wrap (l + 1)) + 1))), (5, I (i : Int))] rfl (Le.c rfl <| Le.c rfl <| Le.c rfl <| Le.e) ?_
        refine CW.seq ?_
        refine CW.anyJ 41 (fun (go4_6_1 : (Nat → Nat → Value)) => [(0, .r (sl 3 Entry.c a)), (1, I (IntKind.i64.wrap ((IntKind.i64.wrap (l + 1)) + 1))), (5, I (i : Int)), (37, Bo (!(ei.data.toList == (mtext (IntKind.i64.wrap ((IntKind.i64.wrap (l + 1)) + 1))).toList)))]) (fun all hall K hK => ?_) ?_
        · skip
          have ro4_11111111 : ∀ (go4_6_1 : Nat → Nat → Value), RA E B all 0 #[true, true, true, true, true, true, true, true] ⟨41, [(0, .r (sl 3 Entry.c a)), (1, I (IntKind.i64.wrap ((IntKind.i64.wrap (l + 1)) + 1))), (5, I (i : Int)), (37, Bo (!(ei.data.toList == (mtext (IntKind.i64.wrap ((IntKind.i64.wrap (l + 1)) + 1))).toList)))]⟩ K := by
            intro go4_6_1
            exact RA.of hall (RA.fin (by kernel_rfl) (hK go4_6_1 _ rfl (Le.c rfl <| Le.c rfl <| Le.c rfl <| Le.c rfl <| Le.e)))
          have ro4_11111110 : ∀ (go4_6_1 : Nat → Nat → Value), RA E B all 1 #[true, true, true, true, true, true, true, false] ⟨41, [(0, .r (sl 3 Entry.c a)), (1, I (IntKind.i64.wrap ((IntKind.i64.wrap (l + 1)) + 1))), (5, I (i : Int)), (34, S ei.data), (36, S (mtext (IntKind.i64.wrap ((IntKind.i64.wrap (l + 1)) + 1))))]⟩ K := by
            intro go4_6_1
            refine RA.of hall (RA.step (L := [7]) (by kernel_rfl) (by simp) (RA.each ?_ (RA.each0)))
            · skip
              refine RO.v (ls' := #[true, true, true, true, true, true, true, true]) rfl rfl (V.strCmp rfl rfl rfl rfl) rfl ?_
              exact RA.to hall (RA.le (m := 41) [(0, .r (sl 3 Entry.c a)), (1, I (IntKind.i64.wrap ((IntKind.i64.wrap (l + 1)) + 1))), (5, I (i : Int)), (37, Bo (!(ei.data.toList == (mtext (IntKind.i64.wrap ((IntKind.i64.wrap (l + 1)) + 1))).toList)))] rfl (Le.c rfl <| Le.c rfl <| Le.c rfl <| Le.c rfl <| Le.e) (ro4_11111111 go4_6_1))
          have ro4_11110110 : ∀ (go4_6_1 : Nat → Nat → Value), RA E B all 2 #[true, true, true, true, false, true, true, false] ⟨41, [(0, .r (sl 3 Entry.c a)), (1, I (IntKind.i64.wrap ((IntKind.i64.wrap (l + 1)) + 1))), (5, I (i : Int)), (33, .rp [.v (.string ei.data)]), (36, S (mtext (IntKind.i64.wrap ((IntKind.i64.wrap (l + 1)) + 1))))]⟩ K := by
            intro go4_6_1
            refine RA.of hall (RA.step (L := [4]) (by kernel_rfl) (by simp) (RA.each ?_ (RA.each0)))
            · skip
              refine RO.v (ls' := #[true, true, true, true, true, true, true, false]) rfl rfl (V.loadPrimR (t0 := .v (.string ei.data)) rfl rfl (.inl rfl) rfl rfl) rfl ?_
              exact RA.to hall (RA.le (m := 41) [(0, .r (sl 3 Entry.c a)), (1, I (IntKind.i64.wrap ((IntKind.i64.wrap (l + 1)) + 1))), (5, I (i : Int)), (34, S ei.data), (36, S (mtext (IntKind.i64.wrap ((IntKind.i64.wrap (l + 1)) + 1))))] rfl (Le.c rfl <| Le.c rfl <| Le.c rfl <| Le.c rfl <| Le.c rfl <| Le.e) (ro4_11111110 go4_6_1))
          have ro4_11111100 : RA E B all 2 #[true, true, true, true, true, true, false, false] ⟨41, [(0, .r (sl 3 Entry.c a)), (1, I (IntKind.i64.wrap ((IntKind.i64.wrap (l + 1)) + 1))), (5, I (i : Int)), (34, S ei.data), (35, I (IntKind.i64.wrap ((IntKind.i64.wrap (l + 1)) + 1)))]⟩ K := by
            refine RA.of hall (RA.step (L := [6]) (by kernel_rfl) (by simp) (RA.each ?_ (RA.each0)))
            · skip
              refine RO.call (ls' := #[true, true, true, true, true, true, true, false]) rfl rfl (laws_markText_fn (IntKind.i64.wrap ((IntKind.i64.wrap (l + 1)) + 1)) (by first | exact hlk | exact wrap_le _)) rfl (.cons (.one (.r .r)) (.nil)) rfl fun go4_6_1 => ?_
              exact RA.to hall (RA.le (m := 41) [(0, .r (sl 3 Entry.c a)), (1, I (IntKind.i64.wrap ((IntKind.i64.wrap (l + 1)) + 1))), (5, I (i : Int)), (34, S ei.data), (36, S (mtext (IntKind.i64.wrap ((IntKind.i64.wrap (l + 1)) + 1))))] rfl (Le.c rfl <| Le.c rfl <| Le.c rfl <| Le.c rfl <| Le.c rfl <| Le.e) (ro4_11111110 go4_6_1))
          have ro4_11100110 : ∀ (go4_6_1 : Nat → Nat → Value), RA E B all 3 #[true, true, true, false, false, true, true, false] ⟨41, [(0, .r (sl 3 Entry.c a)), (1, I (IntKind.i64.wrap ((IntKind.i64.wrap (l + 1)) + 1))), (5, I (i : Int)), (32, .rp (Entry.c ei)), (36, S (mtext (IntKind.i64.wrap ((IntKind.i64.wrap (l + 1)) + 1))))]⟩ K := by
            intro go4_6_1
            refine RA.of hall (RA.step (L := [3]) (by kernel_rfl) (by simp) (RA.each ?_ (RA.each0)))
            · skip
              refine RO.v (ls' := #[true, true, true, true, false, true, true, false]) rfl rfl (V.fieldR rfl rfl rfl rfl (by decide) rfl (Nat.le_of_ble_eq_true rfl)) rfl ?_
              exact RA.to hall (RA.le (m := 41) [(0, .r (sl 3 Entry.c a)), (1, I (IntKind.i64.wrap ((IntKind.i64.wrap (l + 1)) + 1))), (5, I (i : Int)), (33, .rp [.v (.string ei.data)]), (36, S (mtext (IntKind.i64.wrap ((IntKind.i64.wrap (l + 1)) + 1))))] rfl (Le.c rfl <| Le.c rfl <| Le.c rfl <| Le.c rfl <| Le.c rfl <| Le.e) (ro4_11110110 go4_6_1))
          have ro4_11110100 : RA E B all 3 #[true, true, true, true, false, true, false, false] ⟨41, [(0, .r (sl 3 Entry.c a)), (1, I (IntKind.i64.wrap ((IntKind.i64.wrap (l + 1)) + 1))), (5, I (i : Int)), (33, .rp [.v (.string ei.data)]), (35, I (IntKind.i64.wrap ((IntKind.i64.wrap (l + 1)) + 1)))]⟩ K := by
            refine RA.of hall (RA.step (L := [4, 6]) (by kernel_rfl) (by simp) (RA.each ?_ (RA.each ?_ (RA.each0))))
            · skip
              refine RO.v (ls' := #[true, true, true, true, true, true, false, false]) rfl rfl (V.loadPrimR (t0 := .v (.string ei.data)) rfl rfl (.inl rfl) rfl rfl) rfl ?_
              exact RA.to hall (RA.le (m := 41) [(0, .r (sl 3 Entry.c a)), (1, I (IntKind.i64.wrap ((IntKind.i64.wrap (l + 1)) + 1))), (5, I (i : Int)), (34, S ei.data), (35, I (IntKind.i64.wrap ((IntKind.i64.wrap (l + 1)) + 1)))] rfl (Le.c rfl <| Le.c rfl <| Le.c rfl <| Le.c rfl <| Le.c rfl <| Le.e) ro4_11111100)
            · skip
              refine RO.call (ls' := #[true, true, true, true, false, true, true, false]) rfl rfl (laws_markText_fn (IntKind.i64.wrap ((IntKind.i64.wrap (l + 1)) + 1)) (by first | exact hlk | exact wrap_le _)) rfl (.cons (.one (.r .r)) (.nil)) rfl fun go4_6_1 => ?_
              exact RA.to hall (RA.le (m := 41) [(0, .r (sl 3 Entry.c a)), (1, I (IntKind.i64.wrap ((IntKind.i64.wrap (l + 1)) + 1))), (5, I (i : Int)), (33, .rp [.v (.string ei.data)]), (36, S (mtext (IntKind.i64.wrap ((IntKind.i64.wrap (l + 1)) + 1))))] rfl (Le.c rfl <| Le.c rfl <| Le.c rfl <| Le.c rfl <| Le.c rfl <| Le.e) (ro4_11110110 go4_6_1))
          have ro4_11111000 : RA E B all 3 #[true, true, true, true, true, false, false, false] ⟨41, [(0, .r (sl 3 Entry.c a)), (1, I (IntKind.i64.wrap ((IntKind.i64.wrap (l + 1)) + 1))), (5, I (i : Int)), (34, S ei.data)]⟩ K := by
            refine RA.of hall (RA.step (L := [5]) (by kernel_rfl) (by simp) (RA.each ?_ (RA.each0)))
            · skip
              refine RO.v (ls' := #[true, true, true, true, true, true, false, false]) rfl rfl (V.mv (d := I (IntKind.i64.wrap ((IntKind.i64.wrap (l + 1)) + 1))) rfl rfl) rfl ?_
              exact RA.to hall (RA.le (m := 41) [(0, .r (sl 3 Entry.c a)), (1, I (IntKind.i64.wrap ((IntKind.i64.wrap (l + 1)) + 1))), (5, I (i : Int)), (34, S ei.data), (35, I (IntKind.i64.wrap ((IntKind.i64.wrap (l + 1)) + 1)))] rfl (Le.c rfl <| Le.c rfl <| Le.c rfl <| Le.c rfl <| Le.c rfl <| Le.e) ro4_11111100)
          have ro4_11000110 : ∀ (go4_6_1 : Nat → Nat → Value), RA E B all 4 #[true, true, false, false, false, true, true, false] ⟨41, [(0, .r (sl 3 Entry.c a)), (1, I (IntKind.i64.wrap ((IntKind.i64.wrap (l + 1)) + 1))), (5, I (i : Int)), (30, .r (sl 3 Entry.c a)), (31, I (i : Int)), (36, S (mtext (IntKind.i64.wrap ((IntKind.i64.wrap (l + 1)) + 1))))]⟩ K := by
            intro go4_6_1
            refine RA.of hall (RA.step (L := [2]) (by kernel_rfl) (by simp) (RA.each ?_ (RA.each0)))
            · skip
              refine RO.v (ls' := #[true, true, true, false, false, true, true, false]) rfl rfl (V.indexS rfl rfl rfl rfl rfl rfl Entry.len hei) rfl ?_
              exact RA.to hall (RA.le (m := 41) [(0, .r (sl 3 Entry.c a)), (1, I (IntKind.i64.wrap ((IntKind.i64.wrap (l + 1)) + 1))), (5, I (i : Int)), (32, .rp (Entry.c ei)), (36, S (mtext (IntKind.i64.wrap ((IntKind.i64.wrap (l + 1)) + 1))))] rfl (Le.c rfl <| Le.c rfl <| Le.c rfl <| Le.c rfl <| Le.c rfl <| Le.e) (ro4_11100110 go4_6_1))
          have ro4_11100100 : RA E B all 4 #[true, true, true, false, false, true, false, false] ⟨41, [(0, .r (sl 3 Entry.c a)), (1, I (IntKind.i64.wrap ((IntKind.i64.wrap (l + 1)) + 1))), (5, I (i : Int)), (32, .rp (Entry.c ei)), (35, I (IntKind.i64.wrap ((IntKind.i64.wrap (l + 1)) + 1)))]⟩ K := by
            refine RA.of hall (RA.step (L := [3, 6]) (by kernel_rfl) (by simp) (RA.each ?_ (RA.each ?_ (RA.each0))))
            · skip
              refine RO.v (ls' := #[true, true, true, true, false, true, false, false]) rfl rfl (V.fieldR rfl rfl rfl rfl (by decide) rfl (Nat.le_of_ble_eq_true rfl)) rfl ?_
              exact RA.to hall (RA.le (m := 41) [(0, .r (sl 3 Entry.c a)), (1, I (IntKind.i64.wrap ((IntKind.i64.wrap (l + 1)) + 1))), (5, I (i : Int)), (33, .rp [.v (.string ei.data)]), (35, I (IntKind.i64.wrap ((IntKind.i64.wrap (l + 1)) + 1)))] rfl (Le.c rfl <| Le.c rfl <| Le.c rfl <| Le.c rfl <| Le.c rfl <| Le.e) ro4_11110100)
            · skip
              refine RO.call (ls' := #[true, true, true, false, false, true, true, false]) rfl rfl (laws_markText_fn (IntKind.i64.wrap ((IntKind.i64.wrap (l + 1)) + 1)) (by first | exact hlk | exact wrap_le _)) rfl (.cons (.one (.r .r)) (.nil)) rfl fun go4_6_1 => ?_
              exact RA.to hall (RA.le (m := 41) [(0, .r (sl 3 Entry.c a)), (1, I (IntKind.i64.wrap ((IntKind.i64.wrap (l + 1)) + 1))), (5, I (i : Int)), (32, .rp (Entry.c ei)), (36, S (mtext (IntKind.i64.wrap ((IntKind.i64.wrap (l + 1)) + 1))))] rfl (Le.c rfl <| Le.c rfl <| Le.c rfl <| Le.c rfl <| Le.c rfl <| Le.e) (ro4_11100110 go4_6_1))
          have ro4_11110000 : RA E B all 4 #[true, true, true, true, false, false, false, false] ⟨41, [(0, .r (sl 3 Entry.c a)), (1, I (IntKind.i64.wrap ((IntKind.i64.wrap (l + 1)) + 1))), (5, I (i : Int)), (33, .rp [.v (.string ei.data)])]⟩ K := by
            refine RA.of hall (RA.step (L := [4, 5]) (by kernel_rfl) (by simp) (RA.each ?_ (RA.each ?_ (RA.each0))))
            · skip
              refine RO.v (ls' := #[true, true, true, true, true, false, false, false]) rfl rfl (V.loadPrimR (t0 := .v (.string ei.data)) rfl rfl (.inl rfl) rfl rfl) rfl ?_
              exact RA.to hall (RA.le (m := 41) [(0, .r (sl 3 Entry.c a)), (1, I (IntKind.i64.wrap ((IntKind.i64.wrap (l + 1)) + 1))), (5, I (i : Int)), (34, S ei.data)] rfl (Le.c rfl <| Le.c rfl <| Le.c rfl <| Le.c rfl <| Le.e) ro4_11111000)
            · skip
              refine RO.v (ls' := #[true, true, true, true, false, true, false, false]) rfl rfl (V.mv (d := I (IntKind.i64.wrap ((IntKind.i64.wrap (l + 1)) + 1))) rfl rfl) rfl ?_
              exact RA.to hall (RA.le (m := 41) [(0, .r (sl 3 Entry.c a)), (1, I (IntKind.i64.wrap ((IntKind.i64.wrap (l + 1)) + 1))), (5, I (i : Int)), (33, .rp [.v (.string ei.data)]), (35, I (IntKind.i64.wrap ((IntKind.i64.wrap (l + 1)) + 1)))] rfl (Le.c rfl <| Le.c rfl <| Le.c rfl <| Le.c rfl <| Le.c rfl <| Le.e) ro4_11110100)
          have ro4_01000110 : ∀ (go4_6_1 : Nat → Nat → Value), RA E B all 5 #[false, true, false, false, false, true, true, false] ⟨41, [(0, .r (sl 3 Entry.c a)), (1, I (IntKind.i64.wrap ((IntKind.i64.wrap (l + 1)) + 1))), (5, I (i : Int)), (31, I (i : Int)), (36, S (mtext (IntKind.i64.wrap ((IntKind.i64.wrap (l + 1)) + 1))))]⟩ K := by
            intro go4_6_1
            refine RA.of hall (RA.step (L := [0]) (by kernel_rfl) (by simp) (RA.each ?_ (RA.each0)))
            · skip
              refine RO.v (ls' := #[true, true, false, false, false, true, true, false]) rfl rfl (V.mv (d := .r (sl 3 Entry.c a)) rfl rfl) rfl ?_
              exact RA.to hall (RA.le (m := 41) [(0, .r (sl 3 Entry.c a)), (1, I (IntKind.i64.wrap ((IntKind.i64.wrap (l + 1)) + 1))), (5, I (i : Int)), (30, .r (sl 3 Entry.c a)), (31, I (i : Int)), (36, S (mtext (IntKind.i64.wrap ((IntKind.i64.wrap (l + 1)) + 1))))] rfl (Le.c rfl <| Le.c rfl <| Le.c rfl <| Le.c rfl <| Le.c rfl <| Le.c rfl <| Le.e) (ro4_11000110 go4_6_1))
          have ro4_10000110 : ∀ (go4_6_1 : Nat → Nat → Value), RA E B all 5 #[true, false, false, false, false, true, true, false] ⟨41, [(0, .r (sl 3 Entry.c a)), (1, I (IntKind.i64.wrap ((IntKind.i64.wrap (l + 1)) + 1))), (5, I (i : Int)), (30, .r (sl 3 Entry.c a)), (36, S (mtext (IntKind.i64.wrap ((IntKind.i64.wrap (l + 1)) + 1))))]⟩ K := by
            intro go4_6_1
            refine RA.of hall (RA.step (L := [1]) (by kernel_rfl) (by simp) (RA.each ?_ (RA.each0)))
            · skip
              refine RO.v (ls' := #[true, true, false, false, false, true, true, false]) rfl rfl (V.mv (d := I (i : Int)) rfl rfl) rfl ?_
              exact RA.to hall (RA.le (m := 41) [(0, .r (sl 3 Entry.c a)), (1, I (IntKind.i64.wrap ((IntKind.i64.wrap (l + 1)) + 1))), (5, I (i : Int)), (30, .r (sl 3 Entry.c a)), (31, I (i : Int)), (36, S (mtext (IntKind.i64.wrap ((IntKind.i64.wrap (l + 1)) + 1))))] rfl (Le.c rfl <| Le.c rfl <| Le.c rfl <| Le.c rfl <| Le.c rfl <| Le.c rfl <| Le.e) (ro4_11000110 go4_6_1))
          have ro4_11000100 : RA E B all 5 #[true, true, false, false, false, true, false, false] ⟨41, [(0, .r (sl 3 Entry.c a)), (1, I (IntKind.i64.wrap ((IntKind.i64.wrap (l + 1)) + 1))), (5, I (i : Int)), (30, .r (sl 3 Entry.c a)), (31, I (i : Int)), (35, I (IntKind.i64.wrap ((IntKind.i64.wrap (l + 1)) + 1)))]⟩ K := by
            refine RA.of hall (RA.step (L := [2, 6]) (by kernel_rfl) (by simp) (RA.each ?_ (RA.each ?_ (RA.each0))))
            · skip
              refine RO.v (ls' := #[true, true, true, false, false, true, false, false]) rfl rfl (V.indexS rfl rfl rfl rfl rfl rfl Entry.len hei) rfl ?_
              exact RA.to hall (RA.le (m := 41) [(0, .r (sl 3 Entry.c a)), (1, I (IntKind.i64.wrap ((IntKind.i64.wrap (l + 1)) + 1))), (5, I (i : Int)), (32, .rp (Entry.c ei)), (35, I (IntKind.i64.wrap ((IntKind.i64.wrap (l + 1)) + 1)))] rfl (Le.c rfl <| Le.c rfl <| Le.c rfl <| Le.c rfl <| Le.c rfl <| Le.e) ro4_11100100)
            · skip
              refine RO.call (ls' := #[true, true, false, false, false, true, true, false]) rfl rfl (laws_markText_fn (IntKind.i64.wrap ((IntKind.i64.wrap (l + 1)) + 1)) (by first | exact hlk | exact wrap_le _)) rfl (.cons (.one (.r .r)) (.nil)) rfl fun go4_6_1 => ?_
              exact RA.to hall (RA.le (m := 41) [(0, .r (sl 3 Entry.c a)), (1, I (IntKind.i64.wrap ((IntKind.i64.wrap (l + 1)) + 1))), (5, I (i : Int)), (30, .r (sl 3 Entry.c a)), (31, I (i : Int)), (36, S (mtext (IntKind.i64.wrap ((IntKind.i64.wrap (l + 1)) + 1))))] rfl (Le.c rfl <| Le.c rfl <| Le.c rfl <| Le.c rfl <| Le.c rfl <| Le.c rfl <| Le.e) (ro4_11000110 go4_6_1))
          have ro4_11100000 : RA E B all 5 #[true, true, true, false, false, false, false, false] ⟨41, [(0, .r (sl 3 Entry.c a)), (1, I (IntKind.i64.wrap ((IntKind.i64.wrap (l + 1)) + 1))), (5, I (i : Int)), (32, .rp (Entry.c ei))]⟩ K := by
            refine RA.of hall (RA.step (L := [3, 5]) (by kernel_rfl) (by simp) (RA.each ?_ (RA.each ?_ (RA.each0))))
            · skip
              refine RO.v (ls' := #[true, true, true, true, false, false, false, false]) rfl rfl (V.fieldR rfl rfl rfl rfl (by decide) rfl (Nat.le_of_ble_eq_true rfl)) rfl ?_
              exact RA.to hall (RA.le (m := 41) [(0, .r (sl 3 Entry.c a)), (1, I (IntKind.i64.wrap ((IntKind.i64.wrap (l + 1)) + 1))), (5, I (i : Int)), (33, .rp [.v (.string ei.data)])] rfl (Le.c rfl <| Le.c rfl <| Le.c rfl <| Le.c rfl <| Le.e) ro4_11110000)
            · skip
              refine RO.v (ls' := #[true, true, true, false, false, true, false, false]) rfl rfl (V.mv (d := I (IntKind.i64.wrap ((IntKind.i64.wrap (l + 1)) + 1))) rfl rfl) rfl ?_
              exact RA.to hall (RA.le (m := 41) [(0, .r (sl 3 Entry.c a)), (1, I (IntKind.i64.wrap ((IntKind.i64.wrap (l + 1)) + 1))), (5, I (i : Int)), (32, .rp (Entry.c ei)), (35, I (IntKind.i64.wrap ((IntKind.i64.wrap (l + 1)) + 1)))] rfl (Le.c rfl <| Le.c rfl <| Le.c rfl <| Le.c rfl <| Le.c rfl <| Le.e) ro4_11100100)
          have ro4_00000110 : ∀ (go4_6_1 : Nat → Nat → Value), RA E B all 6 #[false, false, false, false, false, true, true, false] ⟨41, [(0, .r (sl 3 Entry.c a)), (1, I (IntKind.i64.wrap ((IntKind.i64.wrap (l + 1)) + 1))), (5, I (i : Int)), (36, S (mtext (IntKind.i64.wrap ((IntKind.i64.wrap (l + 1)) + 1))))]⟩ K := by
            intro go4_6_1
            refine RA.of hall (RA.step (L := [0, 1]) (by kernel_rfl) (by simp) (RA.each ?_ (RA.each ?_ (RA.each0))))
            · skip
              refine RO.v (ls' := #[true, false, false, false, false, true, true, false]) rfl rfl (V.mv (d := .r (sl 3 Entry.c a)) rfl rfl) rfl ?_
              exact RA.to hall (RA.le (m := 41) [(0, .r (sl 3 Entry.c a)), (1, I (IntKind.i64.wrap ((IntKind.i64.wrap (l + 1)) + 1))), (5, I (i : Int)), (30, .r (sl 3 Entry.c a)), (36, S (mtext (IntKind.i64.wrap ((IntKind.i64.wrap (l + 1)) + 1))))] rfl (Le.c rfl <| Le.c rfl <| Le.c rfl <| Le.c rfl <| Le.c rfl <| Le.e) (ro4_10000110 go4_6_1))
            · skip
              refine RO.v (ls' := #[false, true, false, false, false, true, true, false]) rfl rfl (V.mv (d := I (i : Int)) rfl rfl) rfl ?_
              exact RA.to hall (RA.le (m := 41) [(0, .r (sl 3 Entry.c a)), (1, I (IntKind.i64.wrap ((IntKind.i64.wrap (l + 1)) + 1))), (5, I (i : Int)), (31, I (i : Int)), (36, S (mtext (IntKind.i64.wrap ((IntKind.i64.wrap (l + 1)) + 1))))] rfl (Le.c rfl <| Le.c rfl <| Le.c rfl <| Le.c rfl <| Le.c rfl <| Le.e) (ro4_01000110 go4_6_1))
          have ro4_01000100 : RA E B all 6 #[false, true, false, false, false, true, false, false] ⟨41, [(0, .r (sl 3 Entry.c a)), (1, I (IntKind.i64.wrap ((IntKind.i64.wrap (l + 1)) + 1))), (5, I (i : Int)), (31, I (i : Int)), (35, I (IntKind.i64.wrap ((IntKind.i64.wrap (l + 1)) + 1)))]⟩ K := by
            refine RA.of hall (RA.step (L := [0, 6]) (by kernel_rfl) (by simp) (RA.each ?_ (RA.each ?_ (RA.each0))))
            · skip
              refine RO.v (ls' := #[true, true, false, false, false, true, false, false]) rfl rfl (V.mv (d := .r (sl 3 Entry.c a)) rfl rfl) rfl ?_
              exact RA.to hall (RA.le (m := 41) [(0, .r (sl 3 Entry.c a)), (1, I (IntKind.i64.wrap ((IntKind.i64.wrap (l + 1)) + 1))), (5, I (i : Int)), (30, .r (sl 3 Entry.c a)), (31, I (i : Int)), (35, I (IntKind.i64.wrap ((IntKind.i64.wrap (l + 1)) + 1)))] rfl (Le.c rfl <| Le.c rfl <| Le.c rfl <| Le.c rfl <| Le.c rfl <| Le.c rfl <| Le.e) ro4_11000100)
            · skip
              refine RO.call (ls' := #[false, true, false, false, false, true, true, false]) rfl rfl (laws_markText_fn (IntKind.i64.wrap ((IntKind.i64.wrap (l + 1)) + 1)) (by first | exact hlk | exact wrap_le _)) rfl (.cons (.one (.r .r)) (.nil)) rfl fun go4_6_1 => ?_
              exact RA.to hall (RA.le (m := 41) [(0, .r (sl 3 Entry.c a)), (1, I (IntKind.i64.wrap ((IntKind.i64.wrap (l + 1)) + 1))), (5, I (i : Int)), (31, I (i : Int)), (36, S (mtext (IntKind.i64.wrap ((IntKind.i64.wrap (l + 1)) + 1))))] rfl (Le.c rfl <| Le.c rfl <| Le.c rfl <| Le.c rfl <| Le.c rfl <| Le.e) (ro4_01000110 go4_6_1))
          have ro4_10000100 : RA E B all 6 #[true, false, false, false, false, true, false, false] ⟨41, [(0, .r (sl 3 Entry.c a)), (1, I (IntKind.i64.wrap ((IntKind.i64.wrap (l + 1)) + 1))), (5, I (i : Int)), (30, .r (sl 3 Entry.c a)), (35, I (IntKind.i64.wrap ((IntKind.i64.wrap (l + 1)) + 1)))]⟩ K := by
            refine RA.of hall (RA.step (L := [1, 6]) (by kernel_rfl) (by simp) (RA.each ?_ (RA.each ?_ (RA.each0))))
            · skip
              refine RO.v (ls' := #[true, true, false, false, false, true, false, false]) rfl rfl (V.mv (d := I (i : Int)) rfl rfl) rfl ?_
              exact RA.to hall (RA.le (m := 41) [(0, .r (sl 3 Entry.c a)), (1, I (IntKind.i64.wrap ((IntKind.i64.wrap (l + 1)) + 1))), (5, I (i : Int)), (30, .r (sl 3 Entry.c a)), (31, I (i : Int)), (35, I (IntKind.i64.wrap ((IntKind.i64.wrap (l + 1)) + 1)))] rfl (Le.c rfl <| Le.c rfl <| Le.c rfl <| Le.c rfl <| Le.c rfl <| Le.c rfl <| Le.e) ro4_11000100)
            · skip
              refine RO.call (ls' := #[true, false, false, false, false, true, true, false]) rfl rfl (laws_markText_fn (IntKind.i64.wrap ((IntKind.i64.wrap (l + 1)) + 1)) (by first | exact hlk | exact wrap_le _)) rfl (.cons (.one (.r .r)) (.nil)) rfl fun go4_6_1 => ?_
              exact RA.to hall (RA.le (m := 41) [(0, .r (sl 3 Entry.c a)), (1, I (IntKind.i64.wrap ((IntKind.i64.wrap (l + 1)) + 1))), (5, I (i : Int)), (30, .r (sl 3 Entry.c a)), (36, S (mtext (IntKind.i64.wrap ((IntKind.i64.wrap (l + 1)) + 1))))] rfl (Le.c rfl <| Le.c rfl <| Le.c rfl <| Le.c rfl <| Le.c rfl <| Le.e) (ro4_10000110 go4_6_1))
          have ro4_11000000 : RA E B all 6 #[true, true, false, false, false, false, false, false] ⟨41, [(0, .r (sl 3 Entry.c a)), (1, I (IntKind.i64.wrap ((IntKind.i64.wrap (l + 1)) + 1))), (5, I (i : Int)), (30, .r (sl 3 Entry.c a)), (31, I (i : Int))]⟩ K := by
            refine RA.of hall (RA.step (L := [2, 5]) (by kernel_rfl) (by simp) (RA.each ?_ (RA.each ?_ (RA.each0))))
            · skip
              refine RO.v (ls' := #[true, true, true, false, false, false, false, false]) rfl rfl (V.indexS rfl rfl rfl rfl rfl rfl Entry.len hei) rfl ?_
              exact RA.to hall (RA.le (m := 41) [(0, .r (sl 3 Entry.c a)), (1, I (IntKind.i64.wrap ((IntKind.i64.wrap (l + 1)) + 1))), (5, I (i : Int)), (32, .rp (Entry.c ei))] rfl (Le.c rfl <| Le.c rfl <| Le.c rfl <| Le.c rfl <| Le.e) ro4_11100000)
            · skip
              refine RO.v (ls' := #[true, true, false, false, false, true, false, false]) rfl rfl (V.mv (d := I (IntKind.i64.wrap ((IntKind.i64.wrap (l + 1)) + 1))) rfl rfl) rfl ?_
              exact RA.to hall (RA.le (m := 41) [(0, .r (sl 3 Entry.c a)), (1, I (IntKind.i64.wrap ((IntKind.i64.wrap (l + 1)) + 1))), (5, I (i : Int)), (30, .r (sl 3 Entry.c a)), (31, I (i : Int)), (35, I (IntKind.i64.wrap ((IntKind.i64.wrap (l + 1)) + 1)))] rfl (Le.c rfl <| Le.c rfl <| Le.c rfl <| Le.c rfl <| Le.c rfl <| Le.c rfl <| Le.e) ro4_11000100)
          have ro4_00000100 : RA E B all 7 #[false, false, false, false, false, true, false, false] ⟨41, [(0, .r (sl 3 Entry.c a)), (1, I (IntKind.i64.wrap ((IntKind.i64.wrap (l + 1)) + 1))), (5, I (i : Int)), (35, I (IntKind.i64.wrap ((IntKind.i64.wrap (l + 1)) + 1)))]⟩ K := by
            refine RA.of hall (RA.step (L := [0, 1, 6]) (by kernel_rfl) (by simp) (RA.each ?_ (RA.each ?_ (RA.each ?_ (RA.each0)))))
            · skip
              refine RO.v (ls' := #[true, false, false, false, false, true, false, false]) rfl rfl (V.mv (d := .r (sl 3 Entry.c a)) rfl rfl) rfl ?_
              exact RA.to hall (RA.le (m := 41) [(0, .r (sl 3 Entry.c a)), (1, I (IntKind.i64.wrap ((IntKind.i64.wrap (l + 1)) + 1))), (5, I (i : Int)), (30, .r (sl 3 Entry.c a)), (35, I (IntKind.i64.wrap ((IntKind.i64.wrap (l + 1)) + 1)))] rfl (Le.c rfl <| Le.c rfl <| Le.c rfl <| Le.c rfl <| Le.c rfl <| Le.e) ro4_10000100)
            · skip
              refine RO.v (ls' := #[false, true, false, false, false, true, false, false]) rfl rfl (V.mv (d := I (i : Int)) rfl rfl) rfl ?_
              exact RA.to hall (RA.le (m := 41) [(0, .r (sl 3 Entry.c a)), (1, I (IntKind.i64.wrap ((IntKind.i64.wrap (l + 1)) + 1))), (5, I (i : Int)), (31, I (i : Int)), (35, I (IntKind.i64.wrap ((IntKind.i64.wrap (l + 1)) + 1)))] rfl (Le.c rfl <| Le.c rfl <| Le.c rfl <| Le.c rfl <| Le.c rfl <| Le.e) ro4_01000100)
            · skip
              refine RO.call (ls' := #[false, false, false, false, false, true, true, false]) rfl rfl (laws_markText_fn (IntKind.i64.wrap ((IntKind.i64.wrap (l + 1)) + 1)) (by first | exact hlk | exact wrap_le _)) rfl (.cons (.one (.r .r)) (.nil)) rfl fun go4_6_1 => ?_
              exact RA.to hall (RA.le (m := 41) [(0, .r (sl 3 Entry.c a)), (1, I (IntKind.i64.wrap ((IntKind.i64.wrap (l + 1)) + 1))), (5, I (i : Int)), (36, S (mtext (IntKind.i64.wrap ((IntKind.i64.wrap (l + 1)) + 1))))] rfl (Le.c rfl <| Le.c rfl <| Le.c rfl <| Le.c rfl <| Le.e) (ro4_00000110 go4_6_1))
          have ro4_01000000 : RA E B all 7 #[false, true, false, false, false, false, false, false] ⟨41, [(0, .r (sl 3 Entry.c a)), (1, I (IntKind.i64.wrap ((IntKind.i64.wrap (l + 1)) + 1))), (5, I (i : Int)), (31, I (i : Int))]⟩ K := by
            refine RA.of hall (RA.step (L := [0, 5]) (by kernel_rfl) (by simp) (RA.each ?_ (RA.each ?_ (RA.each0))))
            · skip
              refine RO.v (ls' := #[true, true, false, false, false, false, false, false]) rfl rfl (V.mv (d := .r (sl 3 Entry.c a)) rfl rfl) rfl ?_
              exact RA.to hall (RA.le (m := 41) [(0, .r (sl 3 Entry.c a)), (1, I (IntKind.i64.wrap ((IntKind.i64.wrap (l + 1)) + 1))), (5, I (i : Int)), (30, .r (sl 3 Entry.c a)), (31, I (i : Int))] rfl (Le.c rfl <| Le.c rfl <| Le.c rfl <| Le.c rfl <| Le.c rfl <| Le.e) ro4_11000000)
            · skip
              refine RO.v (ls' := #[false, true, false, false, false, true, false, false]) rfl rfl (V.mv (d := I (IntKind.i64.wrap ((IntKind.i64.wrap (l + 1)) + 1))) rfl rfl) rfl ?_
              exact RA.to hall (RA.le (m := 41) [(0, .r (sl 3 Entry.c a)), (1, I (IntKind.i64.wrap ((IntKind.i64.wrap (l + 1)) + 1))), (5, I (i : Int)), (31, I (i : Int)), (35, I (IntKind.i64.wrap ((IntKind.i64.wrap (l + 1)) + 1)))] rfl (Le.c rfl <| Le.c rfl <| Le.c rfl <| Le.c rfl <| Le.c rfl <| Le.e) ro4_01000100)
          have ro4_10000000 : RA E B all 7 #[true, false, false, false, false, false, false, false] ⟨41, [(0, .r (sl 3 Entry.c a)), (1, I (IntKind.i64.wrap ((IntKind.i64.wrap (l + 1)) + 1))), (5, I (i : Int)), (30, .r (sl 3 Entry.c a))]⟩ K := by
            refine RA.of hall (RA.step (L := [1, 5]) (by kernel_rfl) (by simp) (RA.each ?_ (RA.each ?_ (RA.each0))))
            · skip
              refine RO.v (ls' := #[true, true, false, false, false, false, false, false]) rfl rfl (V.mv (d := I (i : Int)) rfl rfl) rfl ?_
              exact RA.to hall (RA.le (m := 41) [(0, .r (sl 3 Entry.c a)), (1, I (IntKind.i64.wrap ((IntKind.i64.wrap (l + 1)) + 1))), (5, I (i : Int)), (30, .r (sl 3 Entry.c a)), (31, I (i : Int))] rfl (Le.c rfl <| Le.c rfl <| Le.c rfl <| Le.c rfl <| Le.c rfl <| Le.e) ro4_11000000)
            · skip
              refine RO.v (ls' := #[true, false, false, false, false, true, false, false]) rfl rfl (V.mv (d := I (IntKind.i64.wrap ((IntKind.i64.wrap (l + 1)) + 1))) rfl rfl) rfl ?_
              exact RA.to hall (RA.le (m := 41) [(0, .r (sl 3 Entry.c a)), (1, I (IntKind.i64.wrap ((IntKind.i64.wrap (l + 1)) + 1))), (5, I (i : Int)), (30, .r (sl 3 Entry.c a)), (35, I (IntKind.i64.wrap ((IntKind.i64.wrap (l + 1)) + 1)))] rfl (Le.c rfl <| Le.c rfl <| Le.c rfl <| Le.c rfl <| Le.c rfl <| Le.e) ro4_10000100)
          have ro4_00000000 : RA E B all 8 #[false, false, false, false, false, false, false, false] ⟨41, [(0, .r (sl 3 Entry.c a)), (1, I (IntKind.i64.wrap ((IntKind.i64.wrap (l + 1)) + 1))), (5, I (i : Int))]⟩ K := by
            refine RA.of hall (RA.step (L := [0, 1, 5]) (by kernel_rfl) (by simp) (RA.each ?_ (RA.each ?_ (RA.each ?_ (RA.each0)))))
            · skip
              refine RO.v (ls' := #[true, false, false, false, false, false, false, false]) rfl rfl (V.mv (d := .r (sl 3 Entry.c a)) rfl rfl) rfl ?_
              exact RA.to hall (RA.le (m := 41) [(0, .r (sl 3 Entry.c a)), (1, I (IntKind.i64.wrap ((IntKind.i64.wrap (l + 1)) + 1))), (5, I (i : Int)), (30, .r (sl 3 Entry.c a))] rfl (Le.c rfl <| Le.c rfl <| Le.c rfl <| Le.c rfl <| Le.e) ro4_10000000)
            · skip
              refine RO.v (ls' := #[false, true, false, false, false, false, false, false]) rfl rfl (V.mv (d := I (i : Int)) rfl rfl) rfl ?_
              exact RA.to hall (RA.le (m := 41) [(0, .r (sl 3 Entry.c a)), (1, I (IntKind.i64.wrap ((IntKind.i64.wrap (l + 1)) + 1))), (5, I (i : Int)), (31, I (i : Int))] rfl (Le.c rfl <| Le.c rfl <| Le.c rfl <| Le.c rfl <| Le.e) ro4_01000000)
            · skip
              refine RO.v (ls' := #[false, false, false, false, false, true, false, false]) rfl rfl (V.mv (d := I (IntKind.i64.wrap ((IntKind.i64.wrap (l + 1)) + 1))) rfl rfl) rfl ?_
              exact RA.to hall (RA.le (m := 41) [(0, .r (sl 3 Entry.c a)), (1, I (IntKind.i64.wrap ((IntKind.i64.wrap (l + 1)) + 1))), (5, I (i : Int)), (35, I (IntKind.i64.wrap ((IntKind.i64.wrap (l + 1)) + 1)))] rfl (Le.c rfl <| Le.c rfl <| Le.c rfl <| Le.c rfl <| Le.e) ro4_00000100)
          exact RA.start (by kernel_rfl) (by kernel_rfl) (RA.le (m := 41) [(0, .r (sl 3 Entry.c a)), (1, I (IntKind.i64.wrap ((IntKind.i64.wrap (l + 1)) + 1))), (5, I (i : Int))] rfl (Le.c rfl <| Le.c rfl <| Le.c rfl <| Le.e) ro4_00000000)
        · rintro go4_6_1
          refine CW.cond rfl (fun h5 => ?_) (fun h5 => ?_)
          · skip
            refine CW.seq ?_
            refine CW.region ?_
            refine RW.v rfl (V.as (d := I (-1)) rfl rfl) ?_
            refine RW.nil ?_
            refine CW.le [(4, I (-1))] rfl (Le.c rfl <| Le.e) ?_
            refine CW.ret ?_
            exact Post.one (RV.i rfl (by rw [← hr, hdi]; clear hr; first | rfl | (simp_all [hdL, hdEEntry, hdI, hdS, inc]; done) | grind [hdL, hdEEntry, hdI, hdS, inc])) (AOs.r (AOs.r AOs.e))
          · skip
            refine CW.skip ?_
            refine CW.le [(0, .r (sl 3 Entry.c a)), (1, I (IntKind.i64.wrap ((IntKind.i64.wrap (l + 1)) + 1))), (5, I (i : Int))] rfl (Le.c rfl <| Le.c rfl <| Le.c rfl <| Le.e) ?_
            refine CW.region ?_
            refine RW.v rfl (V.mv (d := I (IntKind.i64.wrap ((IntKind.i64.wrap (l + 1)) + 1))) rfl rfl) ?_
            refine RW.v rfl (V.arInt rfl rfl rfl rfl) ?_
            refine RW.v rfl (V.as (d := I (IntKind.i64.wrap ((IntKind.i64.wrap ((IntKind.i64.wrap (l + 1)) + 1)) + 1))) rfl rfl) ?_
            refine RW.nil ?_
            refine CW.le [(0, .r (sl 3 Entry.c a)), (1, I (IntKind.i64.wrap ((IntKind.i64.wrap ((IntKind.i64.wrap (l + 1)) + 1)) + 1))), (5, I (i : Int))] rfl (Le.c rfl <| Le.c rfl <| Le.c rfl <| Le.e) ?_
            refine CW.region ?_
            refine RW.v rfl (V.mv (d := I (i : Int)) rfl rfl) ?_
            refine RW.v rfl (V.inc rfl rfl rfl hii hl0) ?_
            refine RW.v rfl (V.as (d := I ((i + 1 : Nat) : Int)) rfl rfl) ?_
            refine RW.nil ?_
            exact ⟨(i + 1, _), by simp only []; omega, ⟨by omega, by first | exact wrap_le _ | omega, by rw [← hr, hdi]; clear hr; first | rfl | (simp_all [hdL, hdEEntry, hdI, hdS, inc]; done) | grind [hdL, hdEEntry, hdI, hdS, inc]⟩, rfl, Le.c rfl <| Le.c rfl <| Le.c rfl <| Le.e⟩
  · skip
    have hii : a.length ≤ i := by have := h1; simp at this; first | exact this | omega | (simp; done) | (simp; omega)
    have hdi : a.drop i = [] := List.drop_eq_nil_of_le hii
    refine CW.exit ?_
    refine CW.le [(1, I l)] rfl (Le.c rfl <| Le.e) ?_
    refine CW.seq ?_
    refine CW.region ?_
    refine RW.v rfl (V.mv (d := I l) rfl rfl) ?_
    refine RW.v rfl (V.as (d := I l) rfl rfl) ?_
    refine RW.nil ?_
    refine CW.le [(4, I l)] rfl (Le.c rfl <| Le.e) ?_
    refine CW.ret ?_
    exact Post.one (RV.i rfl (by rw [← hr, hdi]; clear hr; first | rfl | (simp_all [hdL, hdEEntry, hdI, hdS, inc]; done) | grind [hdL, hdEEntry, hdI, hdS, inc])) (AOs.r (AOs.r AOs.e))
set_option maxHeartbeats 4000000 in
theorem laws_heldLog_fn (a : Log) (k : Int) (hk : k ≤ 9223372036854775807) : Eng.Fn E.P 79 [.agg ((Log.c a).map .r), .one (.r (.v (.int .i64 k)))] (.one (.one (.w (.v (.int .i64 ((hdVLog a k).getD (-1))))))) [.agg ((Log.c a).map .r), .one (.r (.v (.int .i64 k)))] := by
  refine Eng.Fn.intro (E := E) (rvs := [.tmp 4]) Try.func79 rfl rfl rfl (by simp [outSlots, moved, rvSlot, sl]) ?_
  intro B g bo
  refine CW.le [(0, .agg ((Log.c a).map .r)), (1, I k)] rfl (Le.c rfl <| Le.c rfl <| Le.e) ?_
  refine CW.seq ?_
  refine CW.region ?_
  refine RW.box (ds := ((Log.c a).map .r)) rfl rfl rfl fun b1 => ?_
  refine RW.v rfl (V.as (d := I 0) rfl rfl) ?_
  refine RW.nil ?_
  refine CW.le [(1, I k), (2, .obj b1 ((Log.c a).map .r))] rfl (Le.c rfl <| Le.c rfl <| Le.e) ?_
  refine CW.seq ?_
  refine CW.region ?_
  refine RW.v rfl (V.field rfl rfl rfl rfl (by decide) rfl) ?_
  refine RW.v rfl (V.loadPrim (d := .r (sl 3 Entry.c a.entries)) rfl rfl (.inr ⟨_, rfl⟩) rfl rfl rfl) ?_
  refine RW.v rfl (V.mv (d := I k) rfl rfl) ?_
  refine RW.call rfl (laws_heldEntryS_fn a.entries k (by repeat (first | exact hk | apply leD | apply hdL_le | apply hdN_le | exact hdI_le | exact hdS_le | exact hdB_le | exact hdEEntry_le | exact hdEPeer_le | exact hdVLog_le | exact hdVNode_le))) rfl (.cons (.one (.r .r)) (.cons (.one (.r .r)) (.nil))) fun g2 => ?_
  refine RW.v rfl (V.as (d := I ((hdL hdEEntry a.entries k).getD (-1))) rfl rfl) ?_
  refine RW.nil ?_
  refine CW.le [(1, I ((hdL hdEEntry a.entries k).getD (-1)))] rfl (Le.c rfl <| Le.e) ?_
  refine CW.seq ?_
  refine CW.seq ?_
  refine CW.region ?_
  refine RW.v rfl (V.mv (d := I ((hdL hdEEntry a.entries k).getD (-1))) rfl rfl) ?_
  refine RW.v rfl (V.cmpInt rfl rfl rfl rfl) ?_
  refine RW.nil ?_
  refine CW.le [(1, I ((hdL hdEEntry a.entries k).getD (-1))), (10, Bo (decide (((hdL hdEEntry a.entries k).getD (-1)) < 0)))] rfl (Le.c rfl <| Le.c rfl <| Le.e) ?_
  refine CW.cond rfl (fun h3 => ?_) (fun h3 => ?_)
  · skip
    refine CW.seq ?_
    refine CW.region ?_
    refine RW.v rfl (V.as (d := I (-1)) rfl rfl) ?_
    refine RW.nil ?_
    refine CW.le [(4, I (-1))] rfl (Le.c rfl <| Le.e) ?_
    refine CW.ret ?_
    exact Post.one (RV.i rfl (by simp_all [hdVLog, hdN_ok, hdN_bad])) (AOs.a rfl (AOs.r AOs.e))
  · skip
    refine CW.skip ?_
    refine CW.le [(1, I ((hdL hdEEntry a.entries k).getD (-1)))] rfl (Le.c rfl <| Le.e) ?_
    refine CW.seq ?_
    refine CW.region ?_
    refine RW.v rfl (V.mv (d := I ((hdL hdEEntry a.entries k).getD (-1))) rfl rfl) ?_
    refine RW.v rfl (V.as (d := I ((hdL hdEEntry a.entries k).getD (-1))) rfl rfl) ?_
    refine RW.nil ?_
    refine CW.le [(4, I ((hdL hdEEntry a.entries k).getD (-1)))] rfl (Le.c rfl <| Le.e) ?_
    refine CW.ret ?_
    exact Post.one (RV.i rfl (by simp_all [hdVLog, hdN_ok, hdN_bad])) (AOs.a rfl (AOs.r AOs.e))
set_option maxHeartbeats 4000000 in
theorem laws_heldPeerS_fn (a : List Peer) (k : Int) (hk : k ≤ 9223372036854775807) : Eng.Fn E.P 80 [.one (.r (sl 4 Peer.c a)), .one (.r (.v (.int .i64 k)))] (.one (.one (.w (.v (.int .i64 ((hdL hdEPeer a k).getD (-1))))))) [.one (.r (sl 4 Peer.c a)), .one (.r (.v (.int .i64 k)))] := by
  refine Eng.Fn.intro (E := E) (rvs := [.tmp 4]) Try.func80 rfl rfl rfl (by simp [outSlots, moved, rvSlot, sl]) ?_
  intro B g bo
  refine CW.bound (x := .tmp 0) (n := a.length) (AsT.r) (fun hl0 => ?_)
  refine CW.le [(0, .r (sl 4 Peer.c a)), (1, I k)] rfl (Le.c rfl <| Le.c rfl <| Le.e) ?_
  refine CW.seq ?_
  refine CW.region ?_
  refine RW.v rfl (V.as (d := I 0) rfl rfl) ?_
  refine RW.nil ?_
  refine CW.le [(0, .r (sl 4 Peer.c a)), (1, I k)] rfl (Le.c rfl <| Le.c rfl <| Le.e) ?_
  refine CW.seq ?_
  refine CW.seq ?_
  refine CW.region ?_
  refine RW.v rfl (V.as (d := I 0) rfl rfl) ?_
  refine RW.nil ?_
  refine CW.le [(0, .r (sl 4 Peer.c a)), (1, I k), (5, I 0)] rfl (Le.c rfl <| Le.c rfl <| Le.c rfl <| Le.e) ?_
  refine CW.block ?_
  refine CW.loopI 49 (fun (x : Nat × Int) => match x with | (i, l) => [(0, .r (sl 4 Peer.c a)), (1, I l), (5, I (i : Int))]) (fun (x : Nat × Int) => match x with | (i, l) => i ≤ a.length ∧ l ≤ 9223372036854775807 ∧ hdL hdEPeer (a.drop i) l = hdL hdEPeer a k) (fun (x : Nat × Int) => match x with | (i, l) => a.length - i) (0, _) rfl (Le.c rfl <| Le.c rfl <| Le.c rfl <| Le.e) ⟨by omega, hk, by simp⟩ ?_
  rintro ⟨i, l⟩ ⟨hb, hlk, hr⟩
  refine CW.seq ?_
  refine CW.seq ?_
  refine CW.region ?_
  refine RW.v rfl (V.mv (d := I (i : Int)) rfl rfl) ?_
  refine RW.v rfl (V.mv (d := .r (sl 4 Peer.c a)) rfl rfl) ?_
  refine RW.v rfl (V.lenT (n := a.length) rfl rfl rfl .r) ?_
  refine RW.v rfl (V.cmpInt rfl rfl rfl rfl) ?_
  refine RW.nil ?_
  refine CW.le [(0, .r (sl 4 Peer.c a)), (1, I l), (5, I (i : Int)), (9, Bo (decide ((i : Int) < (a.length : Int))))] rfl (Le.c rfl <| Le.c rfl <| Le.c rfl <| Le.c rfl <| Le.e) ?_
  refine CW.cond rfl (fun h1 => ?_) (fun h1 => ?_)
  · skip
    have hii : i < a.length := by have := h1; simp at this; first | exact this | omega | (simp; done) | (simp; omega)
    obtain ⟨ei, hei⟩ : ∃ e, a[i]? = some e := ⟨_, List.getElem?_eq_getElem hii⟩
    have hdi := drop_get hei
    refine CW.skip ?_
    refine CW.le [(0, .r (sl 4 Peer.c a)), (1, I l), (5, I (i : Int))] rfl (Le.c rfl <| Le.c rfl <| Le.c rfl <| Le.e) ?_
    refine CW.seq ?_
    refine CW.block ?_
    refine CW.seq ?_
    refine CW.seq ?_
    refine CW.region ?_
    refine RW.v rfl (V.mv (d := .r (sl 4 Peer.c a)) rfl rfl) ?_
    refine RW.v rfl (V.mv (d := I (i : Int)) rfl rfl) ?_
    refine RW.v rfl (V.indexS rfl rfl rfl rfl rfl rfl Peer.len hei) ?_
    refine RW.v rfl (V.fieldR rfl rfl rfl rfl (by decide) rfl (Nat.le_of_ble_eq_true rfl)) ?_
    refine RW.v rfl (V.loadPrimR (t0 := .v (.int .i64 ei.id)) rfl rfl (.inl rfl) rfl rfl) ?_
    refine RW.v rfl (V.mv (d := I l) rfl rfl) ?_
    refine RW.v rfl (V.cmpInt rfl rfl rfl rfl) ?_
    refine RW.nil ?_
    refine CW.le [(0, .r (sl 4 Peer.c a)), (1, I l), (5, I (i : Int)), (18, Bo (ei.id != l))] rfl (Le.c rfl <| Le.c rfl <| Le.c rfl <| Le.c rfl <| Le.e) ?_
    refine CW.cond rfl (fun h2 => ?_) (fun h2 => ?_)
    · skip
      refine CW.seq ?_
      refine CW.region ?_
      refine RW.v rfl (V.as (d := I (-1)) rfl rfl) ?_
      refine RW.nil ?_
      refine CW.le [(4, I (-1))] rfl (Le.c rfl <| Le.e) ?_
      refine CW.ret ?_
      exact Post.one (RV.i rfl (by rw [← hr, hdi]; clear hr; first | rfl | (simp_all [hdL, hdEPeer, hdI, inc]; done) | grind [hdL, hdEPeer, hdI, inc])) (AOs.r (AOs.r AOs.e))
    · skip
      refine CW.skip ?_
      refine CW.le [(0, .r (sl 4 Peer.c a)), (1, I l), (5, I (i : Int))] rfl (Le.c rfl <| Le.c rfl <| Le.c rfl <| Le.e) ?_
      refine CW.seq ?_
      refine CW.region ?_
      refine RW.v rfl (V.mv (d := I l) rfl rfl) ?_
      refine RW.v rfl (V.arInt rfl rfl rfl rfl) ?_
      refine RW.v rfl (V.as (d := I (IntKind.i64.wrap (l + 1))) rfl rfl) ?_
      refine RW.nil ?_
      refine CW.le [(0, .r (sl 4 Peer.c a)), (1, I (IntKind.i64.wrap (l + 1))), (5, I (i : Int))] rfl (Le.c rfl <| Le.c rfl <| Le.c rfl <| Le.e) ?_
      refine CW.seq ?_
      refine CW.seq ?_
      refine CW.region ?_
      refine RW.v rfl (V.mv (d := .r (sl 4 Peer.c a)) rfl rfl) ?_
      refine RW.v rfl (V.mv (d := I (i : Int)) rfl rfl) ?_
      refine RW.v rfl (V.indexS rfl rfl rfl rfl rfl rfl Peer.len hei) ?_
      refine RW.v rfl (V.fieldR rfl rfl rfl rfl (by decide) rfl (Nat.le_of_ble_eq_true rfl)) ?_
      refine RW.v rfl (V.loadPrimR (t0 := .v (.int .i64 ei.next)) rfl rfl (.inl rfl) rfl rfl) ?_
      refine RW.v rfl (V.mv (d := I (IntKind.i64.wrap (l + 1))) rfl rfl) ?_
      refine RW.v rfl (V.cmpInt rfl rfl rfl rfl) ?_
      refine RW.nil ?_
      refine CW.le [(0, .r (sl 4 Peer.c a)), (1, I (IntKind.i64.wrap (l + 1))), (5, I (i : Int)), (27, Bo (ei.next != (IntKind.i64.wrap (l + 1))))] rfl (Le.c rfl <| Le.c rfl <| Le.c rfl <| Le.c rfl <| Le.e) ?_
      refine CW.cond rfl (fun h3 => ?_) (fun h3 => ?_)
      · skip
        refine CW.seq ?_
        refine CW.region ?_
        refine RW.v rfl (V.as (d := I (-1)) rfl rfl) ?_
        refine RW.nil ?_
        refine CW.le [(4, I (-1))] rfl (Le.c rfl <| Le.e) ?_
        refine CW.ret ?_
        exact Post.one (RV.i rfl (by rw [← hr, hdi]; clear hr; first | rfl | (simp_all [hdL, hdEPeer, hdI, inc]; done) | grind [hdL, hdEPeer, hdI, inc])) (AOs.r (AOs.r AOs.e))
      · skip
        refine CW.skip ?_
        refine CW.le [(0, .r (sl 4 Peer.c a)), (1, I (IntKind.i64.wrap (l + 1))), (5, I (i : Int))] rfl (Le.c rfl <| Le.c rfl <| Le.c rfl <| Le.e) ?_
        refine CW.seq ?_
        refine CW.region ?_
        refine RW.v rfl (V.mv (d := I (IntKind.i64.wrap (l + 1))) rfl rfl) ?_
        refine RW.v rfl (V.arInt rfl rfl rfl rfl) ?_
        refine RW.v rfl (V.as (d := I (IntKind.i64.wrap ((IntKind.i64.wrap (l + 1)) + 1))) rfl rfl) ?_
        refine RW.nil ?_
        refine CW.le [(0, .r (sl 4 Peer.c a)), (1, I (IntKind.i64.wrap ((IntKind.i64.wrap (l + 1)) + 1))), (5, I (i : Int))] rfl (Le.c rfl <| Le.c rfl <| Le.c rfl <| Le.e) ?_
        refine CW.seq ?_
        refine CW.seq ?_
        refine CW.region ?_
        refine RW.v rfl (V.mv (d := .r (sl 4 Peer.c a)) rfl rfl) ?_
        refine RW.v rfl (V.mv (d := I (i : Int)) rfl rfl) ?_
        refine RW.v rfl (V.indexS rfl rfl rfl rfl rfl rfl Peer.len hei) ?_
        refine RW.v rfl (V.fieldR rfl rfl rfl rfl (by decide) rfl (Nat.le_of_ble_eq_true rfl)) ?_
        refine RW.v rfl (V.loadPrimR (t0 := .v (.int .i64 ei.match_)) rfl rfl (.inl rfl) rfl rfl) ?_
        refine RW.v rfl (V.mv (d := I (IntKind.i64.wrap ((IntKind.i64.wrap (l + 1)) + 1))) rfl rfl) ?_
        refine RW.v rfl (V.cmpInt rfl rfl rfl rfl) ?_
        refine RW.nil ?_
        refine CW.le [(0, .r (sl 4 Peer.c a)), (1, I (IntKind.i64.wrap ((IntKind.i64.wrap (l + 1)) + 1))), (5, I (i : Int)), (36, Bo (ei.match_ != (IntKind.i64.wrap ((IntKind.i64.wrap (l + 1)) + 1))))] rfl (Le.c rfl <| Le.c rfl <| Le.c rfl <| Le.c rfl <| Le.e) ?_
        refine CW.cond rfl (fun h4 => ?_) (fun h4 => ?_)
        · skip
          refine CW.seq ?_
          refine CW.region ?_
          refine RW.v rfl (V.as (d := I (-1)) rfl rfl) ?_
          refine RW.nil ?_
          refine CW.le [(4, I (-1))] rfl (Le.c rfl <| Le.e) ?_
          refine CW.ret ?_
          exact Post.one (RV.i rfl (by rw [← hr, hdi]; clear hr; first | rfl | (simp_all [hdL, hdEPeer, hdI, inc]; done) | grind [hdL, hdEPeer, hdI, inc])) (AOs.r (AOs.r AOs.e))
        · skip
          refine CW.skip ?_
          refine CW.le [(0, .r (sl 4 Peer.c a)), (1, I (IntKind.i64.wrap ((IntKind.i64.wrap (l + 1)) + 1))), (5, I (i : Int))] rfl (Le.c rfl <| Le.c rfl <| Le.c rfl <| Le.e) ?_
          refine CW.seq ?_
          refine CW.region ?_
          refine RW.v rfl (V.mv (d := I (IntKind.i64.wrap ((IntKind.i64.wrap (l + 1)) + 1))) rfl rfl) ?_
          refine RW.v rfl (V.arInt rfl rfl rfl rfl) ?_
          refine RW.v rfl (V.as (d := I (IntKind.i64.wrap ((IntKind.i64.wrap ((IntKind.i64.wrap (l + 1)) + 1)) + 1))) rfl rfl) ?_
          refine RW.nil ?_
          refine CW.le [(0, .r (sl 4 Peer.c a)), (1, I (IntKind.i64.wrap ((IntKind.i64.wrap ((IntKind.i64.wrap (l + 1)) + 1)) + 1))), (5, I (i : Int))] rfl (Le.c rfl <| Le.c rfl <| Le.c rfl <| Le.e) ?_
          refine CW.seq ?_
          refine CW.seq ?_
          refine CW.region ?_
          refine RW.v rfl (V.mv (d := .r (sl 4 Peer.c a)) rfl rfl) ?_
          refine RW.v rfl (V.mv (d := I (i : Int)) rfl rfl) ?_
          refine RW.v rfl (V.indexS rfl rfl rfl rfl rfl rfl Peer.len hei) ?_
          refine RW.v rfl (V.fieldR rfl rfl rfl rfl (by decide) rfl (Nat.le_of_ble_eq_true rfl)) ?_
          refine RW.v rfl (V.loadPrimR (t0 := .v (.int .i64 ei.sent)) rfl rfl (.inl rfl) rfl rfl) ?_
          refine RW.v rfl (V.mv (d := I (IntKind.i64.wrap ((IntKind.i64.wrap ((IntKind.i64.wrap (l + 1)) + 1)) + 1))) rfl rfl) ?_
          refine RW.v rfl (V.cmpInt rfl rfl rfl rfl) ?_
          refine RW.nil ?_
          refine CW.le [(0, .r (sl 4 Peer.c a)), (1, I (IntKind.i64.wrap ((IntKind.i64.wrap ((IntKind.i64.wrap (l + 1)) + 1)) + 1))), (5, I (i : Int)), (45, Bo (ei.sent != (IntKind.i64.wrap ((IntKind.i64.wrap ((IntKind.i64.wrap (l + 1)) + 1)) + 1))))] rfl (Le.c rfl <| Le.c rfl <| Le.c rfl <| Le.c rfl <| Le.e) ?_
          refine CW.cond rfl (fun h5 => ?_) (fun h5 => ?_)
          · skip
            refine CW.seq ?_
            refine CW.region ?_
            refine RW.v rfl (V.as (d := I (-1)) rfl rfl) ?_
            refine RW.nil ?_
            refine CW.le [(4, I (-1))] rfl (Le.c rfl <| Le.e) ?_
            refine CW.ret ?_
            exact Post.one (RV.i rfl (by rw [← hr, hdi]; clear hr; first | rfl | (simp_all [hdL, hdEPeer, hdI, inc]; done) | grind [hdL, hdEPeer, hdI, inc])) (AOs.r (AOs.r AOs.e))
          · skip
            refine CW.skip ?_
            refine CW.le [(0, .r (sl 4 Peer.c a)), (1, I (IntKind.i64.wrap ((IntKind.i64.wrap ((IntKind.i64.wrap (l + 1)) + 1)) + 1))), (5, I (i : Int))] rfl (Le.c rfl <| Le.c rfl <| Le.c rfl <| Le.e) ?_
            refine CW.region ?_
            refine RW.v rfl (V.mv (d := I (IntKind.i64.wrap ((IntKind.i64.wrap ((IntKind.i64.wrap (l + 1)) + 1)) + 1))) rfl rfl) ?_
            refine RW.v rfl (V.arInt rfl rfl rfl rfl) ?_
            refine RW.v rfl (V.as (d := I (IntKind.i64.wrap ((IntKind.i64.wrap ((IntKind.i64.wrap ((IntKind.i64.wrap (l + 1)) + 1)) + 1)) + 1))) rfl rfl) ?_
            refine RW.nil ?_
            refine CW.le [(0, .r (sl 4 Peer.c a)), (1, I (IntKind.i64.wrap ((IntKind.i64.wrap ((IntKind.i64.wrap ((IntKind.i64.wrap (l + 1)) + 1)) + 1)) + 1))), (5, I (i : Int))] rfl (Le.c rfl <| Le.c rfl <| Le.c rfl <| Le.e) ?_
            refine CW.region ?_
            refine RW.v rfl (V.mv (d := I (i : Int)) rfl rfl) ?_
            refine RW.v rfl (V.inc rfl rfl rfl hii hl0) ?_
            refine RW.v rfl (V.as (d := I ((i + 1 : Nat) : Int)) rfl rfl) ?_
            refine RW.nil ?_
            exact ⟨(i + 1, _), by simp only []; omega, ⟨by omega, by first | exact wrap_le _ | omega, by rw [← hr, hdi]; clear hr; first | rfl | (simp_all [hdL, hdEPeer, hdI, inc]; done) | grind [hdL, hdEPeer, hdI, inc]⟩, rfl, Le.c rfl <| Le.c rfl <| Le.c rfl <| Le.e⟩
  · skip
    have hii : a.length ≤ i := by have := h1; simp at this; first | exact this | omega | (simp; done) | (simp; omega)
    have hdi : a.drop i = [] := List.drop_eq_nil_of_le hii
    refine CW.exit ?_
    refine CW.le [(1, I l)] rfl (Le.c rfl <| Le.e) ?_
    refine CW.seq ?_
    refine CW.region ?_
    refine RW.v rfl (V.mv (d := I l) rfl rfl) ?_
    refine RW.v rfl (V.as (d := I l) rfl rfl) ?_
    refine RW.nil ?_
    refine CW.le [(4, I l)] rfl (Le.c rfl <| Le.e) ?_
    refine CW.ret ?_
    exact Post.one (RV.i rfl (by rw [← hr, hdi]; clear hr; first | rfl | (simp_all [hdL, hdEPeer, hdI, inc]; done) | grind [hdL, hdEPeer, hdI, inc])) (AOs.r (AOs.r AOs.e))
set_option maxHeartbeats 4000000 in
theorem laws_heldNode_fn (a : Node) (k : Int) (hk : k ≤ 9223372036854775807) : Eng.Fn E.P 30 [.agg ((Node.c a).map .r), .one (.r (.v (.int .i64 k)))] (.one (.one (.w (.v (.int .i64 ((hdVNode a k).getD (-1))))))) [.agg ((Node.c a).map .r), .one (.r (.v (.int .i64 k)))] := by
  refine Eng.Fn.intro (E := E) (rvs := [.tmp 4]) Try.func30 rfl rfl rfl (by simp [outSlots, moved, rvSlot, sl]) ?_
  intro B g bo
  refine CW.le [(0, .agg ((Node.c a).map .r)), (1, I k)] rfl (Le.c rfl <| Le.c rfl <| Le.e) ?_
  refine CW.seq ?_
  refine CW.region ?_
  refine RW.box (ds := ((Node.c a).map .r)) rfl rfl rfl fun b1 => ?_
  refine RW.v rfl (V.as (d := I 0) rfl rfl) ?_
  refine RW.nil ?_
  refine CW.le [(1, I k), (2, .obj b1 ((Node.c a).map .r))] rfl (Le.c rfl <| Le.c rfl <| Le.e) ?_
  refine CW.seq ?_
  refine CW.region ?_
  refine RW.v rfl (V.field rfl rfl rfl rfl (by decide) rfl) ?_
  refine RW.v rfl (V.loadPrim (d := .r (sl 1 cI a.conf)) rfl rfl (.inr ⟨_, rfl⟩) rfl rfl rfl) ?_
  refine RW.v rfl (V.mv (d := I k) rfl rfl) ?_
  refine RW.call rfl (laws_heldIntS_fn a.conf k (by repeat (first | exact hk | apply leD | apply hdL_le | apply hdN_le | exact hdI_le | exact hdS_le | exact hdB_le | exact hdEEntry_le | exact hdEPeer_le | exact hdVLog_le | exact hdVNode_le))) rfl (.cons (.one (.r .r)) (.cons (.one (.r .r)) (.nil))) fun g2 => ?_
  refine RW.v rfl (V.as (d := I ((hdL hdI a.conf k).getD (-1))) rfl rfl) ?_
  refine RW.nil ?_
  refine CW.le [(1, I ((hdL hdI a.conf k).getD (-1))), (2, .obj b1 ((Node.c a).map .r))] rfl (Le.c rfl <| Le.c rfl <| Le.e) ?_
  refine CW.seq ?_
  refine CW.seq ?_
  refine CW.region ?_
  refine RW.v rfl (V.mv (d := I ((hdL hdI a.conf k).getD (-1))) rfl rfl) ?_
  refine RW.v rfl (V.cmpInt rfl rfl rfl rfl) ?_
  refine RW.nil ?_
  refine CW.le [(1, I ((hdL hdI a.conf k).getD (-1))), (2, .obj b1 ((Node.c a).map .r)), (10, Bo (decide (((hdL hdI a.conf k).getD (-1)) < 0)))] rfl (Le.c rfl <| Le.c rfl <| Le.c rfl <| Le.e) ?_
  refine CW.cond rfl (fun h3 => ?_) (fun h3 => ?_)
  · skip
    refine CW.seq ?_
    refine CW.region ?_
    refine RW.v rfl (V.as (d := I (-1)) rfl rfl) ?_
    refine RW.nil ?_
    refine CW.le [(4, I (-1))] rfl (Le.c rfl <| Le.e) ?_
    refine CW.ret ?_
    exact Post.one (RV.i rfl (by simp_all [hdVNode, hdN_ok, hdN_bad])) (AOs.a rfl (AOs.r AOs.e))
  · skip
    refine CW.skip ?_
    refine CW.le [(1, I ((hdL hdI a.conf k).getD (-1))), (2, .obj b1 ((Node.c a).map .r))] rfl (Le.c rfl <| Le.c rfl <| Le.e) ?_
    refine CW.seq ?_
    refine CW.region ?_
    refine RW.v rfl (V.field rfl rfl rfl rfl (by decide) rfl) ?_
    refine RW.v rfl (V.loadAgg rfl rfl rfl rfl rfl (Nat.le_of_ble_eq_true rfl)) ?_
    refine RW.v rfl (V.mv (d := I ((hdL hdI a.conf k).getD (-1))) rfl rfl) ?_
    refine RW.call rfl (laws_heldLog_fn a.log ((hdL hdI a.conf k).getD (-1)) (by repeat (first | exact hk | apply leD | apply hdL_le | apply hdN_le | exact hdI_le | exact hdS_le | exact hdB_le | exact hdEEntry_le | exact hdEPeer_le | exact hdVLog_le | exact hdVNode_le))) rfl (.cons (.agg (.cons (.r .r) (.cons (.r .r) (.cons (.r .r) (.nil))))) (.cons (.one (.r .r)) (.nil))) fun g4 => ?_
    refine RW.v rfl (V.as (d := I ((hdVLog a.log ((hdL hdI a.conf k).getD (-1))).getD (-1))) rfl rfl) ?_
    refine RW.nil ?_
    refine CW.le [(1, I ((hdVLog a.log ((hdL hdI a.conf k).getD (-1))).getD (-1))), (2, .obj b1 ((Node.c a).map .r))] rfl (Le.c rfl <| Le.c rfl <| Le.e) ?_
    refine CW.seq ?_
    refine CW.seq ?_
    refine CW.region ?_
    refine RW.v rfl (V.mv (d := I ((hdVLog a.log ((hdL hdI a.conf k).getD (-1))).getD (-1))) rfl rfl) ?_
    refine RW.v rfl (V.cmpInt rfl rfl rfl rfl) ?_
    refine RW.nil ?_
    refine CW.le [(1, I ((hdVLog a.log ((hdL hdI a.conf k).getD (-1))).getD (-1))), (2, .obj b1 ((Node.c a).map .r)), (16, Bo (decide (((hdVLog a.log ((hdL hdI a.conf k).getD (-1))).getD (-1)) < 0)))] rfl (Le.c rfl <| Le.c rfl <| Le.c rfl <| Le.e) ?_
    refine CW.cond rfl (fun h5 => ?_) (fun h5 => ?_)
    · skip
      refine CW.seq ?_
      refine CW.region ?_
      refine RW.v rfl (V.as (d := I (-1)) rfl rfl) ?_
      refine RW.nil ?_
      refine CW.le [(4, I (-1))] rfl (Le.c rfl <| Le.e) ?_
      refine CW.ret ?_
      exact Post.one (RV.i rfl (by simp_all [hdVNode, hdN_ok, hdN_bad])) (AOs.a rfl (AOs.r AOs.e))
    · skip
      refine CW.skip ?_
      refine CW.le [(1, I ((hdVLog a.log ((hdL hdI a.conf k).getD (-1))).getD (-1))), (2, .obj b1 ((Node.c a).map .r))] rfl (Le.c rfl <| Le.c rfl <| Le.e) ?_
      refine CW.seq ?_
      refine CW.region ?_
      refine RW.v rfl (V.field rfl rfl rfl rfl (by decide) rfl) ?_
      refine RW.v rfl (V.loadPrim (d := .r (sl 1 cI a.votes)) rfl rfl (.inr ⟨_, rfl⟩) rfl rfl rfl) ?_
      refine RW.v rfl (V.mv (d := I ((hdVLog a.log ((hdL hdI a.conf k).getD (-1))).getD (-1))) rfl rfl) ?_
      refine RW.call rfl (laws_heldIntS_fn a.votes ((hdVLog a.log ((hdL hdI a.conf k).getD (-1))).getD (-1)) (by repeat (first | exact hk | apply leD | apply hdL_le | apply hdN_le | exact hdI_le | exact hdS_le | exact hdB_le | exact hdEEntry_le | exact hdEPeer_le | exact hdVLog_le | exact hdVNode_le))) rfl (.cons (.one (.r .r)) (.cons (.one (.r .r)) (.nil))) fun g6 => ?_
      refine RW.v rfl (V.as (d := I ((hdL hdI a.votes ((hdVLog a.log ((hdL hdI a.conf k).getD (-1))).getD (-1))).getD (-1))) rfl rfl) ?_
      refine RW.nil ?_
      refine CW.le [(1, I ((hdL hdI a.votes ((hdVLog a.log ((hdL hdI a.conf k).getD (-1))).getD (-1))).getD (-1))), (2, .obj b1 ((Node.c a).map .r))] rfl (Le.c rfl <| Le.c rfl <| Le.e) ?_
      refine CW.seq ?_
      refine CW.seq ?_
      refine CW.region ?_
      refine RW.v rfl (V.mv (d := I ((hdL hdI a.votes ((hdVLog a.log ((hdL hdI a.conf k).getD (-1))).getD (-1))).getD (-1))) rfl rfl) ?_
      refine RW.v rfl (V.cmpInt rfl rfl rfl rfl) ?_
      refine RW.nil ?_
      refine CW.le [(1, I ((hdL hdI a.votes ((hdVLog a.log ((hdL hdI a.conf k).getD (-1))).getD (-1))).getD (-1))), (2, .obj b1 ((Node.c a).map .r)), (22, Bo (decide (((hdL hdI a.votes ((hdVLog a.log ((hdL hdI a.conf k).getD (-1))).getD (-1))).getD (-1)) < 0)))] rfl (Le.c rfl <| Le.c rfl <| Le.c rfl <| Le.e) ?_
      refine CW.cond rfl (fun h7 => ?_) (fun h7 => ?_)
      · skip
        refine CW.seq ?_
        refine CW.region ?_
        refine RW.v rfl (V.as (d := I (-1)) rfl rfl) ?_
        refine RW.nil ?_
        refine CW.le [(4, I (-1))] rfl (Le.c rfl <| Le.e) ?_
        refine CW.ret ?_
        exact Post.one (RV.i rfl (by simp_all [hdVNode, hdN_ok, hdN_bad])) (AOs.a rfl (AOs.r AOs.e))
      · skip
        refine CW.skip ?_
        refine CW.le [(1, I ((hdL hdI a.votes ((hdVLog a.log ((hdL hdI a.conf k).getD (-1))).getD (-1))).getD (-1))), (2, .obj b1 ((Node.c a).map .r))] rfl (Le.c rfl <| Le.c rfl <| Le.e) ?_
        refine CW.seq ?_
        refine CW.region ?_
        refine RW.v rfl (V.field rfl rfl rfl rfl (by decide) rfl) ?_
        refine RW.v rfl (V.loadPrim (d := .r (sl 4 Peer.c a.peers)) rfl rfl (.inr ⟨_, rfl⟩) rfl rfl rfl) ?_
        refine RW.v rfl (V.mv (d := I ((hdL hdI a.votes ((hdVLog a.log ((hdL hdI a.conf k).getD (-1))).getD (-1))).getD (-1))) rfl rfl) ?_
        refine RW.call rfl (laws_heldPeerS_fn a.peers ((hdL hdI a.votes ((hdVLog a.log ((hdL hdI a.conf k).getD (-1))).getD (-1))).getD (-1)) (by repeat (first | exact hk | apply leD | apply hdL_le | apply hdN_le | exact hdI_le | exact hdS_le | exact hdB_le | exact hdEEntry_le | exact hdEPeer_le | exact hdVLog_le | exact hdVNode_le))) rfl (.cons (.one (.r .r)) (.cons (.one (.r .r)) (.nil))) fun g8 => ?_
        refine RW.v rfl (V.as (d := I ((hdL hdEPeer a.peers ((hdL hdI a.votes ((hdVLog a.log ((hdL hdI a.conf k).getD (-1))).getD (-1))).getD (-1))).getD (-1))) rfl rfl) ?_
        refine RW.nil ?_
        refine CW.le [(1, I ((hdL hdEPeer a.peers ((hdL hdI a.votes ((hdVLog a.log ((hdL hdI a.conf k).getD (-1))).getD (-1))).getD (-1))).getD (-1)))] rfl (Le.c rfl <| Le.e) ?_
        refine CW.seq ?_
        refine CW.seq ?_
        refine CW.region ?_
        refine RW.v rfl (V.mv (d := I ((hdL hdEPeer a.peers ((hdL hdI a.votes ((hdVLog a.log ((hdL hdI a.conf k).getD (-1))).getD (-1))).getD (-1))).getD (-1))) rfl rfl) ?_
        refine RW.v rfl (V.cmpInt rfl rfl rfl rfl) ?_
        refine RW.nil ?_
        refine CW.le [(1, I ((hdL hdEPeer a.peers ((hdL hdI a.votes ((hdVLog a.log ((hdL hdI a.conf k).getD (-1))).getD (-1))).getD (-1))).getD (-1))), (28, Bo (decide (((hdL hdEPeer a.peers ((hdL hdI a.votes ((hdVLog a.log ((hdL hdI a.conf k).getD (-1))).getD (-1))).getD (-1))).getD (-1)) < 0)))] rfl (Le.c rfl <| Le.c rfl <| Le.e) ?_
        refine CW.cond rfl (fun h9 => ?_) (fun h9 => ?_)
        · skip
          refine CW.seq ?_
          refine CW.region ?_
          refine RW.v rfl (V.as (d := I (-1)) rfl rfl) ?_
          refine RW.nil ?_
          refine CW.le [(4, I (-1))] rfl (Le.c rfl <| Le.e) ?_
          refine CW.ret ?_
          exact Post.one (RV.i rfl (by simp_all [hdVNode, hdN_ok, hdN_bad])) (AOs.a rfl (AOs.r AOs.e))
        · skip
          refine CW.skip ?_
          refine CW.le [(1, I ((hdL hdEPeer a.peers ((hdL hdI a.votes ((hdVLog a.log ((hdL hdI a.conf k).getD (-1))).getD (-1))).getD (-1))).getD (-1)))] rfl (Le.c rfl <| Le.e) ?_
          refine CW.seq ?_
          refine CW.region ?_
          refine RW.v rfl (V.mv (d := I ((hdL hdEPeer a.peers ((hdL hdI a.votes ((hdVLog a.log ((hdL hdI a.conf k).getD (-1))).getD (-1))).getD (-1))).getD (-1))) rfl rfl) ?_
          refine RW.v rfl (V.as (d := I ((hdL hdEPeer a.peers ((hdL hdI a.votes ((hdVLog a.log ((hdL hdI a.conf k).getD (-1))).getD (-1))).getD (-1))).getD (-1))) rfl rfl) ?_
          refine RW.nil ?_
          refine CW.le [(4, I ((hdL hdEPeer a.peers ((hdL hdI a.votes ((hdVLog a.log ((hdL hdI a.conf k).getD (-1))).getD (-1))).getD (-1))).getD (-1)))] rfl (Le.c rfl <| Le.e) ?_
          refine CW.ret ?_
          exact Post.one (RV.i rfl (by simp_all [hdVNode, hdN_ok, hdN_bad])) (AOs.a rfl (AOs.r AOs.e))
set_option maxHeartbeats 4000000 in
theorem spec_NodeNew_fn (i : Int) (c : List Int) (hm : c.length ≤ 1048576) : Eng.Fn E.P 24 [.one (.r (.v (.int .i64 i))), .one (.r (sl 1 cI c))] (.tup [.agg ((Node.c ((nodeNew i c).1)).map .w), .one (.w (.v (.bool ((nodeNew i c).2))))]) [.one (.r (.v (.int .i64 i))), .one (.r (sl 1 cI c))] := by
  refine Eng.Fn.intro (E := E) (rvs := [.cell 4 47, .tmp 5]) Try.func24 rfl rfl rfl (by simp [outSlots, moved, rvSlot, sl]) ?_
  intro B g bo
  refine CW.bound (x := .tmp 1) (n := c.length) (AsT.r) (fun hl1 => ?_)
  refine CW.le [(0, I i), (1, .r (sl 1 cI c))] rfl (Le.c rfl <| Le.c rfl <| Le.e) ?_
  refine CW.seq ?_
  refine CW.region ?_
  refine RW.alloc (ds := [I 0, I 0, I 0, I 0, I 0, .r (.v (.slice none 0 0)), I 0, I 0, .r (.v (.slice none 0 0)), I 0, I 0, I 0, .r (.v (.slice none 0 0)), .r (.v (.slice none 0 0))]) rfl rfl rfl rfl fun b1 => ?_
  refine RW.v rfl (V.as (d := Bo false) rfl rfl) ?_
  refine RW.nil ?_
  refine CW.le [(0, I i), (1, .r (sl 1 cI c)), (4, .obj b1 [I 0, I 0, I 0, I 0, I 0, .r (.v (.slice none 0 0)), I 0, I 0, .r (.v (.slice none 0 0)), I 0, I 0, I 0, .r (.v (.slice none 0 0)), .r (.v (.slice none 0 0))])] rfl (Le.c rfl <| Le.c rfl <| Le.c rfl <| Le.e) ?_
  refine CW.seq ?_
  refine CW.region ?_
  refine RW.v rfl (V.mv (d := I i) rfl rfl) ?_
  refine RW.build0 cI rfl rfl rfl rfl rfl fun X2 => ?_
  refine RW.v rfl (V.mv (d := .r (sl 1 cI c)) rfl rfl) ?_
  refine RW.appendSR (c := cI) (l1 := ([] : List Int)) (l2 := c) rfl rfl rfl rfl rfl rfl rfl rfl .r (by decide) (Nat.le_of_ble_eq_true rfl) cI.len (fun _ => rfl) rfl (by simp only [maxLen, List.length_nil]; omega) (by simp only [maxLen, List.length_nil]; omega) fun X3 => ?_
  refine RW.v rfl (V.build (ds := [I i, I 0, I 0, I 0, I 0, .al 10 none 1 ((([] : List Int) ++ c).length) X3 0, I 0, I 0, .r (.v (.slice none 0 0)), I 0, I 0, I 20, .r (.v (.slice none 0 0)), .r (.v (.slice none 0 0))]) rfl rfl rfl rfl (.one rfl rfl rfl (Nat.le_of_ble_eq_true rfl) (.one rfl rfl rfl (Nat.le_of_ble_eq_true rfl) (.one rfl rfl rfl (Nat.le_of_ble_eq_true rfl) (.nil))))) ?_
  refine RW.alloc (ds := [I 0, I 0, I 0, I 0, I 0, .r (.v (.slice none 0 0)), I 0, I 0, .r (.v (.slice none 0 0)), I 0, I 0, I 0, .r (.v (.slice none 0 0)), .r (.v (.slice none 0 0))]) rfl rfl rfl rfl fun b4 => ?_
  refine RW.storeAgg (es := [I i, I 0, I 0, I 0, I 0, .al 10 none 1 ((([] : List Int) ++ c).length) X3 0, I 0, I 0, .r (.v (.slice none 0 0)), I 0, I 0, I 20, .r (.v (.slice none 0 0)), .r (.v (.slice none 0 0))]) rfl rfl rfl rfl rfl rfl rfl rfl (Nat.le_of_ble_eq_true rfl) rfl ?_
  refine RW.le [(4, .obj b1 [I 0, I 0, I 0, I 0, I 0, .r (.v (.slice none 0 0)), I 0, I 0, .r (.v (.slice none 0 0)), I 0, I 0, I 0, .r (.v (.slice none 0 0)), .r (.v (.slice none 0 0))]), (6, .obj b4 [I i, I 0, I 0, I 0, I 0, .al 10 none 1 ((([] : List Int) ++ c).length) X3 0, I 0, I 0, .r (.v (.slice none 0 0)), I 0, I 0, I 20, .r (.v (.slice none 0 0)), .r (.v (.slice none 0 0))]), (10, .w (sl 1 cI (([] : List Int) ++ c)) X3)] rfl (Le.c rfl <| Le.c rfl <| Le.c rfl <| Le.e) ?_
  refine RW.pullT (k := 6) (l := 10) (j := 5) 6 10 5 rfl rfl rfl (by decide) rfl rfl rfl ?_
  refine RW.le [(4, .obj b1 [I 0, I 0, I 0, I 0, I 0, .r (.v (.slice none 0 0)), I 0, I 0, .r (.v (.slice none 0 0)), I 0, I 0, I 0, .r (.v (.slice none 0 0)), .r (.v (.slice none 0 0))]), (6, .obj b4 [I i, I 0, I 0, I 0, I 0, .w (sl 1 cI (([] : List Int) ++ c)) X3, I 0, I 0, .r (.v (.slice none 0 0)), I 0, I 0, I 20, .r (.v (.slice none 0 0)), .r (.v (.slice none 0 0))])] rfl (Le.c rfl <| Le.c rfl <| Le.e) ?_
  refine RW.nil ?_
  refine CW.le [(4, .obj b1 [I 0, I 0, I 0, I 0, I 0, .r (.v (.slice none 0 0)), I 0, I 0, .r (.v (.slice none 0 0)), I 0, I 0, I 0, .r (.v (.slice none 0 0)), .r (.v (.slice none 0 0))]), (6, .obj b4 [I i, I 0, I 0, I 0, I 0, .w (sl 1 cI (([] : List Int) ++ c)) X3, I 0, I 0, .r (.v (.slice none 0 0)), I 0, I 0, I 20, .r (.v (.slice none 0 0)), .r (.v (.slice none 0 0))])] rfl (Le.c rfl <| Le.c rfl <| Le.e) ?_
  refine CW.seq ?_
  refine CW.seq ?_
  refine CW.region ?_
  refine RW.v rfl (V.loadAgg rfl rfl rfl rfl rfl (Nat.le_of_ble_eq_true rfl)) ?_
  refine RW.callOwn rfl (spec_NodeOk_fn (⟨i, 0, 0, 0, 0, (([] : List Int) ++ c), (⟨0, 0, []⟩ : Log), 0, 0, 20, [], []⟩ : Node) (okNodeOf hm)) rfl (.cons (.agg (.cons (.r .r) (.cons (.r .r) (.cons (.r .r) (.cons (.r .r) (.cons (.r .r) (.cons (.r (.alo (k := none) (i := 6) (j := 5) (sz := 1) (V := X3) rfl rfl rfl nofun)) (.cons (.r .r) (.cons (.r .r) (.cons (.r .nil) (.cons (.r .r) (.cons (.r .r) (.cons (.r .r) (.cons (.r .nil) (.cons (.r .nil) (.nil)))))))))))))))) (.nil)) rfl fun g5 => ?_
  refine RW.v rfl (V.not rfl rfl) ?_
  refine RW.nil ?_
  refine CW.le [(4, .obj b1 [I 0, I 0, I 0, I 0, I 0, .r (.v (.slice none 0 0)), I 0, I 0, .r (.v (.slice none 0 0)), I 0, I 0, I 0, .r (.v (.slice none 0 0)), .r (.v (.slice none 0 0))]), (6, .obj b4 [I i, I 0, I 0, I 0, I 0, .w (sl 1 cI (([] : List Int) ++ c)) X3, I 0, I 0, .r (.v (.slice none 0 0)), I 0, I 0, I 20, .r (.v (.slice none 0 0)), .r (.v (.slice none 0 0))]), (14, Bo (!(nodeOk (⟨i, 0, 0, 0, 0, (([] : List Int) ++ c), (⟨0, 0, []⟩ : Log), 0, 0, 20, [], []⟩ : Node))))] rfl (Le.c rfl <| Le.c rfl <| Le.c rfl <| Le.e) ?_
  refine CW.cond rfl (fun h6 => ?_) (fun h6 => ?_)
  · skip
    refine CW.seq ?_
    refine CW.region ?_
    refine RW.v rfl (V.build (ds := [I 0, I 0, I 0, I 0, I 0, .r (.v (.slice none 0 0)), I 0, I 0, .r (.v (.slice none 0 0)), I 0, I 0, I 0, .r (.v (.slice none 0 0)), .r (.v (.slice none 0 0))]) rfl rfl rfl rfl (.nil)) ?_
    refine RW.storeAgg (es := [I 0, I 0, I 0, I 0, I 0, .r (.v (.slice none 0 0)), I 0, I 0, .r (.v (.slice none 0 0)), I 0, I 0, I 0, .r (.v (.slice none 0 0)), .r (.v (.slice none 0 0))]) rfl rfl rfl rfl rfl rfl rfl rfl (Nat.le_of_ble_eq_true rfl) rfl ?_
    refine RW.v rfl (V.as (d := Bo false) rfl rfl) ?_
    refine RW.nil ?_
    refine CW.le [(4, .obj b1 [I 0, I 0, I 0, I 0, I 0, .r (.v (.slice none 0 0)), I 0, I 0, .r (.v (.slice none 0 0)), I 0, I 0, I 0, .r (.v (.slice none 0 0)), .r (.v (.slice none 0 0))]), (5, Bo false)] rfl (Le.c rfl <| Le.c rfl <| Le.e) ?_
    refine CW.ret ?_
    exact Post.tup (by decide) (RVs.c (RV.c (f := fun e => (Node.c e).map .w) (e' := (⟨0, 0, 0, 0, 0, [], (⟨0, 0, []⟩ : Log), 0, 0, 0, [], []⟩ : Node)) rfl rfl rfl rfl (DT.v (DT.v (DT.v (DT.v (DT.v (DT.n (DT.v (DT.v (DT.n (DT.v (DT.v (DT.v (DT.n (DT.n DT.e)))))))))))))) (by simp_all [nodeNew, nodeOf, Node.z, Log.z])) (RVs.c (RV.b rfl (by simp_all [nodeNew, nodeOf, Node.z, Log.z])) RVs.e)) (AOs.r (AOs.r AOs.e))
  · skip
    refine CW.skip ?_
    refine CW.le [(4, .obj b1 [I 0, I 0, I 0, I 0, I 0, .r (.v (.slice none 0 0)), I 0, I 0, .r (.v (.slice none 0 0)), I 0, I 0, I 0, .r (.v (.slice none 0 0)), .r (.v (.slice none 0 0))]), (6, .obj b4 [I i, I 0, I 0, I 0, I 0, .w (sl 1 cI (([] : List Int) ++ c)) X3, I 0, I 0, .r (.v (.slice none 0 0)), I 0, I 0, I 20, .r (.v (.slice none 0 0)), .r (.v (.slice none 0 0))])] rfl (Le.c rfl <| Le.c rfl <| Le.e) ?_
    refine CW.seq ?_
    refine CW.region ?_
    refine RW.v rfl (V.loadAgg rfl rfl rfl rfl rfl (Nat.le_of_ble_eq_true rfl)) ?_
    refine RW.storeAgg (es := [I i, I 0, I 0, I 0, I 0, .al 6 (some 5) 1 ((([] : List Int) ++ c).length) X3 0, I 0, I 0, .r (.v (.slice none 0 0)), I 0, I 0, I 20, .r (.v (.slice none 0 0)), .r (.v (.slice none 0 0))]) rfl rfl rfl rfl rfl rfl rfl rfl (Nat.le_of_ble_eq_true rfl) rfl ?_
    refine RW.le [(4, .obj b1 [I i, I 0, I 0, I 0, I 0, .al 6 (some 5) 1 ((([] : List Int) ++ c).length) X3 0, I 0, I 0, .r (.v (.slice none 0 0)), I 0, I 0, I 20, .r (.v (.slice none 0 0)), .r (.v (.slice none 0 0))]), (6, .obj b4 [I i, I 0, I 0, I 0, I 0, .w (sl 1 cI (([] : List Int) ++ c)) X3, I 0, I 0, .r (.v (.slice none 0 0)), I 0, I 0, I 20, .r (.v (.slice none 0 0)), .r (.v (.slice none 0 0))])] rfl (Le.c rfl <| Le.c rfl <| Le.e) ?_
    refine RW.pullO (k := 4) (l := 6) (j := 5) 4 6 5 rfl rfl rfl (by decide) rfl rfl rfl rfl ?_
    refine RW.le [(4, .obj b1 [I i, I 0, I 0, I 0, I 0, .w (sl 1 cI (([] : List Int) ++ c)) X3, I 0, I 0, .r (.v (.slice none 0 0)), I 0, I 0, I 20, .r (.v (.slice none 0 0)), .r (.v (.slice none 0 0))])] rfl (Le.c rfl <| Le.e) ?_
    refine RW.v rfl (V.as (d := Bo true) rfl rfl) ?_
    refine RW.nil ?_
    refine CW.le [(4, .obj b1 [I i, I 0, I 0, I 0, I 0, .w (sl 1 cI (([] : List Int) ++ c)) X3, I 0, I 0, .r (.v (.slice none 0 0)), I 0, I 0, I 20, .r (.v (.slice none 0 0)), .r (.v (.slice none 0 0))]), (5, Bo true)] rfl (Le.c rfl <| Le.c rfl <| Le.e) ?_
    refine CW.ret ?_
    exact Post.tup (by decide) (RVs.c (RV.c (f := fun e => (Node.c e).map .w) (e' := (⟨i, 0, 0, 0, 0, (([] : List Int) ++ c), (⟨0, 0, []⟩ : Log), 0, 0, 20, [], []⟩ : Node)) rfl rfl rfl rfl (DT.v (DT.v (DT.v (DT.v (DT.v (DT.w (DT.v (DT.v (DT.n (DT.v (DT.v (DT.v (DT.n (DT.n DT.e)))))))))))))) (by simp_all [nodeNew, nodeOf, Node.z, Log.z])) (RVs.c (RV.b rfl (by simp_all [nodeNew, nodeOf, Node.z, Log.z])) RVs.e)) (AOs.r (AOs.r AOs.e))
set_option maxHeartbeats 4000000 in
theorem impl_NodeNew_fn (i : Int) (c : List Int) (hm : c.length ≤ 1048576) : Eng.Fn E.P 26 [.one (.r (.v (.int .i64 i))), .one (.r (sl 1 cI c))] (.tup [.agg ((Node.c ((nodeNew i c).1)).map .w), .one (.w (.v (.bool ((nodeNew i c).2))))]) [.one (.r (.v (.int .i64 i))), .one (.r (sl 1 cI c))] := by
  refine Eng.Fn.intro (E := E) (rvs := [.cell 4 47, .tmp 5]) Try.func26 rfl rfl rfl (by simp [outSlots, moved, rvSlot, sl]) ?_
  intro B g bo
  refine CW.bound (x := .tmp 1) (n := c.length) (AsT.r) (fun hl1 => ?_)
  refine CW.le [(0, I i), (1, .r (sl 1 cI c))] rfl (Le.c rfl <| Le.c rfl <| Le.e) ?_
  refine CW.seq ?_
  refine CW.region ?_
  refine RW.alloc (ds := [I 0, I 0, I 0, I 0, I 0, .r (.v (.slice none 0 0)), I 0, I 0, .r (.v (.slice none 0 0)), I 0, I 0, I 0, .r (.v (.slice none 0 0)), .r (.v (.slice none 0 0))]) rfl rfl rfl rfl fun b1 => ?_
  refine RW.v rfl (V.as (d := Bo false) rfl rfl) ?_
  refine RW.nil ?_
  refine CW.le [(0, I i), (1, .r (sl 1 cI c)), (4, .obj b1 [I 0, I 0, I 0, I 0, I 0, .r (.v (.slice none 0 0)), I 0, I 0, .r (.v (.slice none 0 0)), I 0, I 0, I 0, .r (.v (.slice none 0 0)), .r (.v (.slice none 0 0))])] rfl (Le.c rfl <| Le.c rfl <| Le.c rfl <| Le.e) ?_
  refine CW.seq ?_
  refine CW.region ?_
  refine RW.v rfl (V.mv (d := I i) rfl rfl) ?_
  refine RW.v rfl (V.mv (d := .r (sl 1 cI c)) rfl rfl) ?_
  refine RW.call rfl (impl_copyInts_fn c hm) rfl (.cons (.one (.r .r)) (.nil)) fun g2 => ?_
  refine RW.v rfl (V.build (ds := [I i, I 0, I 0, I 0, I 0, .al 9 none 1 c.length (g2 0 0) 0, I 0, I 0, .r (.v (.slice none 0 0)), I 0, I 0, I 20, .r (.v (.slice none 0 0)), .r (.v (.slice none 0 0))]) rfl rfl rfl rfl (.one rfl rfl rfl (Nat.le_of_ble_eq_true rfl) (.one rfl rfl rfl (Nat.le_of_ble_eq_true rfl) (.one rfl rfl rfl (Nat.le_of_ble_eq_true rfl) (.nil))))) ?_
  refine RW.alloc (ds := [I 0, I 0, I 0, I 0, I 0, .r (.v (.slice none 0 0)), I 0, I 0, .r (.v (.slice none 0 0)), I 0, I 0, I 0, .r (.v (.slice none 0 0)), .r (.v (.slice none 0 0))]) rfl rfl rfl rfl fun b3 => ?_
  refine RW.storeAgg (es := [I i, I 0, I 0, I 0, I 0, .al 9 none 1 c.length (g2 0 0) 0, I 0, I 0, .r (.v (.slice none 0 0)), I 0, I 0, I 20, .r (.v (.slice none 0 0)), .r (.v (.slice none 0 0))]) rfl rfl rfl rfl rfl rfl rfl rfl (Nat.le_of_ble_eq_true rfl) rfl ?_
  refine RW.le [(4, .obj b1 [I 0, I 0, I 0, I 0, I 0, .r (.v (.slice none 0 0)), I 0, I 0, .r (.v (.slice none 0 0)), I 0, I 0, I 0, .r (.v (.slice none 0 0)), .r (.v (.slice none 0 0))]), (6, .obj b3 [I i, I 0, I 0, I 0, I 0, .al 9 none 1 c.length (g2 0 0) 0, I 0, I 0, .r (.v (.slice none 0 0)), I 0, I 0, I 20, .r (.v (.slice none 0 0)), .r (.v (.slice none 0 0))]), (9, .w (sl 1 cI c) (g2 0 0))] rfl (Le.c rfl <| Le.c rfl <| Le.c rfl <| Le.e) ?_
  refine RW.pullT (k := 6) (l := 9) (j := 5) 6 9 5 rfl rfl rfl (by decide) rfl rfl rfl ?_
  refine RW.le [(4, .obj b1 [I 0, I 0, I 0, I 0, I 0, .r (.v (.slice none 0 0)), I 0, I 0, .r (.v (.slice none 0 0)), I 0, I 0, I 0, .r (.v (.slice none 0 0)), .r (.v (.slice none 0 0))]), (6, .obj b3 [I i, I 0, I 0, I 0, I 0, .w (sl 1 cI c) (g2 0 0), I 0, I 0, .r (.v (.slice none 0 0)), I 0, I 0, I 20, .r (.v (.slice none 0 0)), .r (.v (.slice none 0 0))])] rfl (Le.c rfl <| Le.c rfl <| Le.e) ?_
  refine RW.nil ?_
  refine CW.le [(4, .obj b1 [I 0, I 0, I 0, I 0, I 0, .r (.v (.slice none 0 0)), I 0, I 0, .r (.v (.slice none 0 0)), I 0, I 0, I 0, .r (.v (.slice none 0 0)), .r (.v (.slice none 0 0))]), (6, .obj b3 [I i, I 0, I 0, I 0, I 0, .w (sl 1 cI c) (g2 0 0), I 0, I 0, .r (.v (.slice none 0 0)), I 0, I 0, I 20, .r (.v (.slice none 0 0)), .r (.v (.slice none 0 0))])] rfl (Le.c rfl <| Le.c rfl <| Le.e) ?_
  refine CW.seq ?_
  refine CW.seq ?_
  refine CW.region ?_
  refine RW.v rfl (V.loadAgg rfl rfl rfl rfl rfl (Nat.le_of_ble_eq_true rfl)) ?_
  refine RW.callOwn rfl (impl_NodeOk_fn (⟨i, 0, 0, 0, 0, c, (⟨0, 0, []⟩ : Log), 0, 0, 20, [], []⟩ : Node) (okNodeOf hm)) rfl (.cons (.agg (.cons (.r .r) (.cons (.r .r) (.cons (.r .r) (.cons (.r .r) (.cons (.r .r) (.cons (.r (.alo (k := none) (i := 6) (j := 5) (sz := 1) (V := (g2 0 0)) rfl rfl rfl nofun)) (.cons (.r .r) (.cons (.r .r) (.cons (.r .nil) (.cons (.r .r) (.cons (.r .r) (.cons (.r .r) (.cons (.r .nil) (.cons (.r .nil) (.nil)))))))))))))))) (.nil)) rfl fun g4 => ?_
  refine RW.v rfl (V.not rfl rfl) ?_
  refine RW.nil ?_
  refine CW.le [(4, .obj b1 [I 0, I 0, I 0, I 0, I 0, .r (.v (.slice none 0 0)), I 0, I 0, .r (.v (.slice none 0 0)), I 0, I 0, I 0, .r (.v (.slice none 0 0)), .r (.v (.slice none 0 0))]), (6, .obj b3 [I i, I 0, I 0, I 0, I 0, .w (sl 1 cI c) (g2 0 0), I 0, I 0, .r (.v (.slice none 0 0)), I 0, I 0, I 20, .r (.v (.slice none 0 0)), .r (.v (.slice none 0 0))]), (13, Bo (!(nodeOk (⟨i, 0, 0, 0, 0, c, (⟨0, 0, []⟩ : Log), 0, 0, 20, [], []⟩ : Node))))] rfl (Le.c rfl <| Le.c rfl <| Le.c rfl <| Le.e) ?_
  refine CW.cond rfl (fun h5 => ?_) (fun h5 => ?_)
  · skip
    refine CW.seq ?_
    refine CW.region ?_
    refine RW.v rfl (V.build (ds := [I 0, I 0, I 0, I 0, I 0, .r (.v (.slice none 0 0)), I 0, I 0, .r (.v (.slice none 0 0)), I 0, I 0, I 0, .r (.v (.slice none 0 0)), .r (.v (.slice none 0 0))]) rfl rfl rfl rfl (.nil)) ?_
    refine RW.storeAgg (es := [I 0, I 0, I 0, I 0, I 0, .r (.v (.slice none 0 0)), I 0, I 0, .r (.v (.slice none 0 0)), I 0, I 0, I 0, .r (.v (.slice none 0 0)), .r (.v (.slice none 0 0))]) rfl rfl rfl rfl rfl rfl rfl rfl (Nat.le_of_ble_eq_true rfl) rfl ?_
    refine RW.v rfl (V.as (d := Bo false) rfl rfl) ?_
    refine RW.nil ?_
    refine CW.le [(4, .obj b1 [I 0, I 0, I 0, I 0, I 0, .r (.v (.slice none 0 0)), I 0, I 0, .r (.v (.slice none 0 0)), I 0, I 0, I 0, .r (.v (.slice none 0 0)), .r (.v (.slice none 0 0))]), (5, Bo false)] rfl (Le.c rfl <| Le.c rfl <| Le.e) ?_
    refine CW.ret ?_
    exact Post.tup (by decide) (RVs.c (RV.c (f := fun e => (Node.c e).map .w) (e' := (⟨0, 0, 0, 0, 0, [], (⟨0, 0, []⟩ : Log), 0, 0, 0, [], []⟩ : Node)) rfl rfl rfl rfl (DT.v (DT.v (DT.v (DT.v (DT.v (DT.n (DT.v (DT.v (DT.n (DT.v (DT.v (DT.v (DT.n (DT.n DT.e)))))))))))))) (by simp_all [nodeNew, nodeOf, Node.z, Log.z])) (RVs.c (RV.b rfl (by simp_all [nodeNew, nodeOf, Node.z, Log.z])) RVs.e)) (AOs.r (AOs.r AOs.e))
  · skip
    refine CW.skip ?_
    refine CW.le [(4, .obj b1 [I 0, I 0, I 0, I 0, I 0, .r (.v (.slice none 0 0)), I 0, I 0, .r (.v (.slice none 0 0)), I 0, I 0, I 0, .r (.v (.slice none 0 0)), .r (.v (.slice none 0 0))]), (6, .obj b3 [I i, I 0, I 0, I 0, I 0, .w (sl 1 cI c) (g2 0 0), I 0, I 0, .r (.v (.slice none 0 0)), I 0, I 0, I 20, .r (.v (.slice none 0 0)), .r (.v (.slice none 0 0))])] rfl (Le.c rfl <| Le.c rfl <| Le.e) ?_
    refine CW.seq ?_
    refine CW.region ?_
    refine RW.v rfl (V.loadAgg rfl rfl rfl rfl rfl (Nat.le_of_ble_eq_true rfl)) ?_
    refine RW.storeAgg (es := [I i, I 0, I 0, I 0, I 0, .al 6 (some 5) 1 c.length (g2 0 0) 0, I 0, I 0, .r (.v (.slice none 0 0)), I 0, I 0, I 20, .r (.v (.slice none 0 0)), .r (.v (.slice none 0 0))]) rfl rfl rfl rfl rfl rfl rfl rfl (Nat.le_of_ble_eq_true rfl) rfl ?_
    refine RW.le [(4, .obj b1 [I i, I 0, I 0, I 0, I 0, .al 6 (some 5) 1 c.length (g2 0 0) 0, I 0, I 0, .r (.v (.slice none 0 0)), I 0, I 0, I 20, .r (.v (.slice none 0 0)), .r (.v (.slice none 0 0))]), (6, .obj b3 [I i, I 0, I 0, I 0, I 0, .w (sl 1 cI c) (g2 0 0), I 0, I 0, .r (.v (.slice none 0 0)), I 0, I 0, I 20, .r (.v (.slice none 0 0)), .r (.v (.slice none 0 0))])] rfl (Le.c rfl <| Le.c rfl <| Le.e) ?_
    refine RW.pullO (k := 4) (l := 6) (j := 5) 4 6 5 rfl rfl rfl (by decide) rfl rfl rfl rfl ?_
    refine RW.le [(4, .obj b1 [I i, I 0, I 0, I 0, I 0, .w (sl 1 cI c) (g2 0 0), I 0, I 0, .r (.v (.slice none 0 0)), I 0, I 0, I 20, .r (.v (.slice none 0 0)), .r (.v (.slice none 0 0))])] rfl (Le.c rfl <| Le.e) ?_
    refine RW.v rfl (V.as (d := Bo true) rfl rfl) ?_
    refine RW.nil ?_
    refine CW.le [(4, .obj b1 [I i, I 0, I 0, I 0, I 0, .w (sl 1 cI c) (g2 0 0), I 0, I 0, .r (.v (.slice none 0 0)), I 0, I 0, I 20, .r (.v (.slice none 0 0)), .r (.v (.slice none 0 0))]), (5, Bo true)] rfl (Le.c rfl <| Le.c rfl <| Le.e) ?_
    refine CW.ret ?_
    exact Post.tup (by decide) (RVs.c (RV.c (f := fun e => (Node.c e).map .w) (e' := (⟨i, 0, 0, 0, 0, c, (⟨0, 0, []⟩ : Log), 0, 0, 20, [], []⟩ : Node)) rfl rfl rfl rfl (DT.v (DT.v (DT.v (DT.v (DT.v (DT.w (DT.v (DT.v (DT.n (DT.v (DT.v (DT.v (DT.n (DT.n DT.e)))))))))))))) (by simp_all [nodeNew, nodeOf, Node.z, Log.z])) (RVs.c (RV.b rfl (by simp_all [nodeNew, nodeOf, Node.z, Log.z])) RVs.e)) (AOs.r (AOs.r AOs.e))
set_option maxHeartbeats 4000000 in
theorem laws_FnExactNodeNew_fn (i : Int) (c : List Int) : Eng.Fn E.P 5 [.one (.r (.v (.int .i64 i))), .one (.r (sl 1 cI c))] (.one (.one (.w (.v (.bool true))))) [.one (.r (.v (.int .i64 i))), .one (.r (sl 1 cI c))] := by
  refine Eng.Fn.intro (E := E) (rvs := [.tmp 4]) Try.func5 rfl rfl rfl (by simp [outSlots, moved, rvSlot, sl]) ?_
  intro B g bo
  refine CW.bound (x := .tmp 1) (n := c.length) (AsT.r) (fun hl1 => ?_)
  refine CW.le [(0, I i), (1, .r (sl 1 cI c))] rfl (Le.c rfl <| Le.c rfl <| Le.e) ?_
  refine CW.seq ?_
  refine CW.region ?_
  refine RW.v rfl (V.as (d := Bo false) rfl rfl) ?_
  refine RW.nil ?_
  refine CW.le [(0, I i), (1, .r (sl 1 cI c))] rfl (Le.c rfl <| Le.c rfl <| Le.e) ?_
  refine CW.seq ?_
  refine CW.seq ?_
  refine CW.region ?_
  refine RW.v rfl (V.mv (d := .r (sl 1 cI c)) rfl rfl) ?_
  refine RW.v rfl (V.lenT (n := c.length) rfl rfl rfl .r) ?_
  refine RW.v rfl (V.cmpInt rfl rfl rfl rfl) ?_
  refine RW.nil ?_
  refine CW.le [(0, I i), (1, .r (sl 1 cI c)), (17, Bo (decide ((c.length : Int) > 1048576)))] rfl (Le.c rfl <| Le.c rfl <| Le.c rfl <| Le.e) ?_
  refine CW.cond rfl (fun h1 => ?_) (fun h1 => ?_)
  · skip
    refine CW.seq ?_
    refine CW.region ?_
    refine RW.v rfl (V.as (d := Bo true) rfl rfl) ?_
    refine RW.nil ?_
    refine CW.le [(4, Bo true)] rfl (Le.c rfl <| Le.e) ?_
    refine CW.ret ?_
    exact Post.one (RV.b rfl (by first | rfl | (exfalso; have p1 := mkIS_pos hlc; have p2 := (mkVNode_facts (okNodeNew (id := i) hlc)).1; have p3 := (mkVNode_facts (okNodeNew (id := i) hlc)).2; simp_all [eqNode_refl, eqS_refl eqI_refl]; done) | (exfalso; have p1 := mkIS_pos hlc; have p2 := (mkVNode_facts (okNodeNew (id := i) hlc)).1; have p3 := (mkVNode_facts (okNodeNew (id := i) hlc)).2; simp_all [eqNode_refl, eqS_refl eqI_refl]; omega))) (AOs.r (AOs.r AOs.e))
  · skip
    have hlc : c.length ≤ 1048576 := by simp at h1; omega
    refine CW.skip ?_
    refine CW.le [(0, I i), (1, .r (sl 1 cI c))] rfl (Le.c rfl <| Le.c rfl <| Le.e) ?_
    refine CW.seq ?_
    refine CW.region ?_
    refine RW.v rfl (V.mv (d := I i) rfl rfl) ?_
    refine RW.v rfl (V.mv (d := .r (sl 1 cI c)) rfl rfl) ?_
    refine RW.call rfl (laws_toIntS_fn c hlc) rfl (.cons (.one (.r .r)) (.nil)) fun g2 => ?_
    refine RW.callOwn rfl (spec_NodeNew_fn i c hlc) rfl (.cons (.one (.r .r)) (.cons (.one (.r (.al (k := none) (i := 21) (sz := 1) (V := (g2 0 0)) rfl rfl nofun))) (.nil))) rfl fun g3 => ?_
    refine RW.moveMove rfl rfl rfl (by decide) (Nat.le_of_ble_eq_true rfl) (Nat.le_of_ble_eq_true rfl) ?_
    refine RW.extract (d := .agg [I (((nodeNew i c).1).id), I (((nodeNew i c).1).term_), I (((nodeNew i c).1).vote), I (((nodeNew i c).1).role), I (((nodeNew i c).1).lead), .w (sl 1 cI (((nodeNew i c).1).conf)) (g3 0 5), I ((((nodeNew i c).1).log).start), I ((((nodeNew i c).1).log).startTerm), .w (sl 3 Entry.c ((((nodeNew i c).1).log).entries)) (g3 0 8), I (((nodeNew i c).1).commit), I (((nodeNew i c).1).clock), I (((nodeNew i c).1).limit), .w (sl 1 cI (((nodeNew i c).1).votes)) (g3 0 12), .w (sl 4 Peer.c (((nodeNew i c).1).peers)) (g3 0 13)]) rfl rfl rfl (by decide) (Nat.le_of_ble_eq_true rfl) rfl rfl ?_
    refine RW.extract (d := Bo ((nodeNew i c).2)) rfl rfl rfl (by decide) (Nat.le_of_ble_eq_true rfl) rfl rfl ?_
    refine RW.alloc (ds := [I 0, I 0, I 0, I 0, I 0, .r (.v (.slice none 0 0)), I 0, I 0, .r (.v (.slice none 0 0)), I 0, I 0, I 0, .r (.v (.slice none 0 0)), .r (.v (.slice none 0 0))]) rfl rfl rfl rfl fun b4 => ?_
    refine RW.storeAgg (es := [I (((nodeNew i c).1).id), I (((nodeNew i c).1).term_), I (((nodeNew i c).1).vote), I (((nodeNew i c).1).role), I (((nodeNew i c).1).lead), .al 23 (some 5) 1 ((((nodeNew i c).1).conf).length) (g3 0 5) 0, I ((((nodeNew i c).1).log).start), I ((((nodeNew i c).1).log).startTerm), .al 23 (some 8) 3 (((((nodeNew i c).1).log).entries).length) (g3 0 8) 0, I (((nodeNew i c).1).commit), I (((nodeNew i c).1).clock), I (((nodeNew i c).1).limit), .al 23 (some 12) 1 ((((nodeNew i c).1).votes).length) (g3 0 12) 0, .al 23 (some 13) 4 ((((nodeNew i c).1).peers).length) (g3 0 13) 0]) rfl rfl rfl rfl rfl rfl rfl rfl (Nat.le_of_ble_eq_true rfl) rfl ?_
    refine RW.le [(0, I i), (1, .r (sl 1 cI c)), (5, .obj b4 [I (((nodeNew i c).1).id), I (((nodeNew i c).1).term_), I (((nodeNew i c).1).vote), I (((nodeNew i c).1).role), I (((nodeNew i c).1).lead), .al 23 (some 5) 1 ((((nodeNew i c).1).conf).length) (g3 0 5) 0, I ((((nodeNew i c).1).log).start), I ((((nodeNew i c).1).log).startTerm), .al 23 (some 8) 3 (((((nodeNew i c).1).log).entries).length) (g3 0 8) 0, I (((nodeNew i c).1).commit), I (((nodeNew i c).1).clock), I (((nodeNew i c).1).limit), .al 23 (some 12) 1 ((((nodeNew i c).1).votes).length) (g3 0 12) 0, .al 23 (some 13) 4 ((((nodeNew i c).1).peers).length) (g3 0 13) 0]), (23, .agg [I (((nodeNew i c).1).id), I (((nodeNew i c).1).term_), I (((nodeNew i c).1).vote), I (((nodeNew i c).1).role), I (((nodeNew i c).1).lead), .w (sl 1 cI (((nodeNew i c).1).conf)) (g3 0 5), I ((((nodeNew i c).1).log).start), I ((((nodeNew i c).1).log).startTerm), .w (sl 3 Entry.c ((((nodeNew i c).1).log).entries)) (g3 0 8), I (((nodeNew i c).1).commit), I (((nodeNew i c).1).clock), I (((nodeNew i c).1).limit), .w (sl 1 cI (((nodeNew i c).1).votes)) (g3 0 12), .w (sl 4 Peer.c (((nodeNew i c).1).peers)) (g3 0 13)]), (24, Bo ((nodeNew i c).2))] rfl (Le.c rfl <| Le.c rfl <| Le.c rfl <| Le.c rfl <| Le.c rfl <| Le.e) ?_
    refine RW.pullA (k := 5) (l := 23) (j := 5) 5 23 5 rfl rfl rfl (by decide) rfl rfl rfl rfl ?_
    refine RW.le [(0, I i), (1, .r (sl 1 cI c)), (5, .obj b4 [I (((nodeNew i c).1).id), I (((nodeNew i c).1).term_), I (((nodeNew i c).1).vote), I (((nodeNew i c).1).role), I (((nodeNew i c).1).lead), .w (sl 1 cI (((nodeNew i c).1).conf)) (g3 0 5), I ((((nodeNew i c).1).log).start), I ((((nodeNew i c).1).log).startTerm), .al 23 (some 8) 3 (((((nodeNew i c).1).log).entries).length) (g3 0 8) 0, I (((nodeNew i c).1).commit), I (((nodeNew i c).1).clock), I (((nodeNew i c).1).limit), .al 23 (some 12) 1 ((((nodeNew i c).1).votes).length) (g3 0 12) 0, .al 23 (some 13) 4 ((((nodeNew i c).1).peers).length) (g3 0 13) 0]), (23, .agg [I (((nodeNew i c).1).id), I (((nodeNew i c).1).term_), I (((nodeNew i c).1).vote), I (((nodeNew i c).1).role), I (((nodeNew i c).1).lead), .u, I ((((nodeNew i c).1).log).start), I ((((nodeNew i c).1).log).startTerm), .w (sl 3 Entry.c ((((nodeNew i c).1).log).entries)) (g3 0 8), I (((nodeNew i c).1).commit), I (((nodeNew i c).1).clock), I (((nodeNew i c).1).limit), .w (sl 1 cI (((nodeNew i c).1).votes)) (g3 0 12), .w (sl 4 Peer.c (((nodeNew i c).1).peers)) (g3 0 13)]), (24, Bo ((nodeNew i c).2))] rfl (Le.c rfl <| Le.c rfl <| Le.c rfl <| Le.c rfl <| Le.c rfl <| Le.e) ?_
    refine RW.pullA (k := 5) (l := 23) (j := 8) 5 23 8 rfl rfl rfl (by decide) rfl rfl rfl rfl ?_
    refine RW.le [(0, I i), (1, .r (sl 1 cI c)), (5, .obj b4 [I (((nodeNew i c).1).id), I (((nodeNew i c).1).term_), I (((nodeNew i c).1).vote), I (((nodeNew i c).1).role), I (((nodeNew i c).1).lead), .w (sl 1 cI (((nodeNew i c).1).conf)) (g3 0 5), I ((((nodeNew i c).1).log).start), I ((((nodeNew i c).1).log).startTerm), .w (sl 3 Entry.c ((((nodeNew i c).1).log).entries)) (g3 0 8), I (((nodeNew i c).1).commit), I (((nodeNew i c).1).clock), I (((nodeNew i c).1).limit), .al 23 (some 12) 1 ((((nodeNew i c).1).votes).length) (g3 0 12) 0, .al 23 (some 13) 4 ((((nodeNew i c).1).peers).length) (g3 0 13) 0]), (23, .agg [I (((nodeNew i c).1).id), I (((nodeNew i c).1).term_), I (((nodeNew i c).1).vote), I (((nodeNew i c).1).role), I (((nodeNew i c).1).lead), .u, I ((((nodeNew i c).1).log).start), I ((((nodeNew i c).1).log).startTerm), .u, I (((nodeNew i c).1).commit), I (((nodeNew i c).1).clock), I (((nodeNew i c).1).limit), .w (sl 1 cI (((nodeNew i c).1).votes)) (g3 0 12), .w (sl 4 Peer.c (((nodeNew i c).1).peers)) (g3 0 13)]), (24, Bo ((nodeNew i c).2))] rfl (Le.c rfl <| Le.c rfl <| Le.c rfl <| Le.c rfl <| Le.c rfl <| Le.e) ?_
    refine RW.pullA (k := 5) (l := 23) (j := 12) 5 23 12 rfl rfl rfl (by decide) rfl rfl rfl rfl ?_
    refine RW.le [(0, I i), (1, .r (sl 1 cI c)), (5, .obj b4 [I (((nodeNew i c).1).id), I (((nodeNew i c).1).term_), I (((nodeNew i c).1).vote), I (((nodeNew i c).1).role), I (((nodeNew i c).1).lead), .w (sl 1 cI (((nodeNew i c).1).conf)) (g3 0 5), I ((((nodeNew i c).1).log).start), I ((((nodeNew i c).1).log).startTerm), .w (sl 3 Entry.c ((((nodeNew i c).1).log).entries)) (g3 0 8), I (((nodeNew i c).1).commit), I (((nodeNew i c).1).clock), I (((nodeNew i c).1).limit), .w (sl 1 cI (((nodeNew i c).1).votes)) (g3 0 12), .al 23 (some 13) 4 ((((nodeNew i c).1).peers).length) (g3 0 13) 0]), (23, .agg [I (((nodeNew i c).1).id), I (((nodeNew i c).1).term_), I (((nodeNew i c).1).vote), I (((nodeNew i c).1).role), I (((nodeNew i c).1).lead), .u, I ((((nodeNew i c).1).log).start), I ((((nodeNew i c).1).log).startTerm), .u, I (((nodeNew i c).1).commit), I (((nodeNew i c).1).clock), I (((nodeNew i c).1).limit), .u, .w (sl 4 Peer.c (((nodeNew i c).1).peers)) (g3 0 13)]), (24, Bo ((nodeNew i c).2))] rfl (Le.c rfl <| Le.c rfl <| Le.c rfl <| Le.c rfl <| Le.c rfl <| Le.e) ?_
    refine RW.pullA (k := 5) (l := 23) (j := 13) 5 23 13 rfl rfl rfl (by decide) rfl rfl rfl rfl ?_
    refine RW.le [(0, I i), (1, .r (sl 1 cI c)), (5, .obj b4 [I (((nodeNew i c).1).id), I (((nodeNew i c).1).term_), I (((nodeNew i c).1).vote), I (((nodeNew i c).1).role), I (((nodeNew i c).1).lead), .w (sl 1 cI (((nodeNew i c).1).conf)) (g3 0 5), I ((((nodeNew i c).1).log).start), I ((((nodeNew i c).1).log).startTerm), .w (sl 3 Entry.c ((((nodeNew i c).1).log).entries)) (g3 0 8), I (((nodeNew i c).1).commit), I (((nodeNew i c).1).clock), I (((nodeNew i c).1).limit), .w (sl 1 cI (((nodeNew i c).1).votes)) (g3 0 12), .w (sl 4 Peer.c (((nodeNew i c).1).peers)) (g3 0 13)]), (24, Bo ((nodeNew i c).2))] rfl (Le.c rfl <| Le.c rfl <| Le.c rfl <| Le.c rfl <| Le.e) ?_
    refine RW.v rfl (V.as (d := Bo ((nodeNew i c).2)) rfl rfl) ?_
    refine RW.nil ?_
    refine CW.le [(0, I i), (1, .r (sl 1 cI c)), (5, .obj b4 [I (((nodeNew i c).1).id), I (((nodeNew i c).1).term_), I (((nodeNew i c).1).vote), I (((nodeNew i c).1).role), I (((nodeNew i c).1).lead), .w (sl 1 cI (((nodeNew i c).1).conf)) (g3 0 5), I ((((nodeNew i c).1).log).start), I ((((nodeNew i c).1).log).startTerm), .w (sl 3 Entry.c ((((nodeNew i c).1).log).entries)) (g3 0 8), I (((nodeNew i c).1).commit), I (((nodeNew i c).1).clock), I (((nodeNew i c).1).limit), .w (sl 1 cI (((nodeNew i c).1).votes)) (g3 0 12), .w (sl 4 Peer.c (((nodeNew i c).1).peers)) (g3 0 13)]), (6, Bo ((nodeNew i c).2))] rfl (Le.c rfl <| Le.c rfl <| Le.c rfl <| Le.c rfl <| Le.e) ?_
    refine CW.seq ?_
    refine CW.region ?_
    refine RW.v rfl (V.mv (d := .r (sl 1 cI c)) rfl rfl) ?_
    refine RW.call rfl (laws_toIntS_fn c hlc) rfl (.cons (.one (.r .r)) (.nil)) fun g5 => ?_
    refine RW.assignMove rfl rfl rfl (by decide) (Nat.le_of_ble_eq_true rfl) (Nat.le_of_ble_eq_true rfl) ?_
    refine RW.nil ?_
    refine CW.le [(0, I i), (1, .r (sl 1 cI c)), (5, .obj b4 [I (((nodeNew i c).1).id), I (((nodeNew i c).1).term_), I (((nodeNew i c).1).vote), I (((nodeNew i c).1).role), I (((nodeNew i c).1).lead), .w (sl 1 cI (((nodeNew i c).1).conf)) (g3 0 5), I ((((nodeNew i c).1).log).start), I ((((nodeNew i c).1).log).startTerm), .w (sl 3 Entry.c ((((nodeNew i c).1).log).entries)) (g3 0 8), I (((nodeNew i c).1).commit), I (((nodeNew i c).1).clock), I (((nodeNew i c).1).limit), .w (sl 1 cI (((nodeNew i c).1).votes)) (g3 0 12), .w (sl 4 Peer.c (((nodeNew i c).1).peers)) (g3 0 13)]), (6, Bo ((nodeNew i c).2)), (7, .w (sl 1 cI c) (g5 0 0))] rfl (Le.c rfl <| Le.c rfl <| Le.c rfl <| Le.c rfl <| Le.c rfl <| Le.e) ?_
    refine CW.seq ?_
    refine CW.region ?_
    refine RW.v rfl (V.mv (d := I i) rfl rfl) ?_
    refine RW.v rfl (V.mv (d := .al 7 none 1 c.length (g5 0 0) 0) rfl rfl) ?_
    refine RW.callOwn rfl (impl_NodeNew_fn i c hlc) rfl (.cons (.one (.r .r)) (.cons (.one (.r (.al (k := none) (i := 7) (sz := 1) (V := (g5 0 0)) rfl rfl nofun))) (.nil))) rfl fun g6 => ?_
    refine RW.moveMove rfl rfl rfl (by decide) (Nat.le_of_ble_eq_true rfl) (Nat.le_of_ble_eq_true rfl) ?_
    refine RW.extract (d := .agg [I (((nodeNew i c).1).id), I (((nodeNew i c).1).term_), I (((nodeNew i c).1).vote), I (((nodeNew i c).1).role), I (((nodeNew i c).1).lead), .w (sl 1 cI (((nodeNew i c).1).conf)) (g6 0 5), I ((((nodeNew i c).1).log).start), I ((((nodeNew i c).1).log).startTerm), .w (sl 3 Entry.c ((((nodeNew i c).1).log).entries)) (g6 0 8), I (((nodeNew i c).1).commit), I (((nodeNew i c).1).clock), I (((nodeNew i c).1).limit), .w (sl 1 cI (((nodeNew i c).1).votes)) (g6 0 12), .w (sl 4 Peer.c (((nodeNew i c).1).peers)) (g6 0 13)]) rfl rfl rfl (by decide) (Nat.le_of_ble_eq_true rfl) rfl rfl ?_
    refine RW.extract (d := Bo ((nodeNew i c).2)) rfl rfl rfl (by decide) (Nat.le_of_ble_eq_true rfl) rfl rfl ?_
    refine RW.alloc (ds := [I 0, I 0, I 0, I 0, I 0, .r (.v (.slice none 0 0)), I 0, I 0, .r (.v (.slice none 0 0)), I 0, I 0, I 0, .r (.v (.slice none 0 0)), .r (.v (.slice none 0 0))]) rfl rfl rfl rfl fun b7 => ?_
    refine RW.storeAgg (es := [I (((nodeNew i c).1).id), I (((nodeNew i c).1).term_), I (((nodeNew i c).1).vote), I (((nodeNew i c).1).role), I (((nodeNew i c).1).lead), .al 31 (some 5) 1 ((((nodeNew i c).1).conf).length) (g6 0 5) 0, I ((((nodeNew i c).1).log).start), I ((((nodeNew i c).1).log).startTerm), .al 31 (some 8) 3 (((((nodeNew i c).1).log).entries).length) (g6 0 8) 0, I (((nodeNew i c).1).commit), I (((nodeNew i c).1).clock), I (((nodeNew i c).1).limit), .al 31 (some 12) 1 ((((nodeNew i c).1).votes).length) (g6 0 12) 0, .al 31 (some 13) 4 ((((nodeNew i c).1).peers).length) (g6 0 13) 0]) rfl rfl rfl rfl rfl rfl rfl rfl (Nat.le_of_ble_eq_true rfl) rfl ?_
    refine RW.le [(0, I i), (1, .r (sl 1 cI c)), (5, .obj b4 [I (((nodeNew i c).1).id), I (((nodeNew i c).1).term_), I (((nodeNew i c).1).vote), I (((nodeNew i c).1).role), I (((nodeNew i c).1).lead), .w (sl 1 cI (((nodeNew i c).1).conf)) (g3 0 5), I ((((nodeNew i c).1).log).start), I ((((nodeNew i c).1).log).startTerm), .w (sl 3 Entry.c ((((nodeNew i c).1).log).entries)) (g3 0 8), I (((nodeNew i c).1).commit), I (((nodeNew i c).1).clock), I (((nodeNew i c).1).limit), .w (sl 1 cI (((nodeNew i c).1).votes)) (g3 0 12), .w (sl 4 Peer.c (((nodeNew i c).1).peers)) (g3 0 13)]), (6, Bo ((nodeNew i c).2)), (7, .w (sl 1 cI c) (g5 0 0)), (8, .obj b7 [I (((nodeNew i c).1).id), I (((nodeNew i c).1).term_), I (((nodeNew i c).1).vote), I (((nodeNew i c).1).role), I (((nodeNew i c).1).lead), .al 31 (some 5) 1 ((((nodeNew i c).1).conf).length) (g6 0 5) 0, I ((((nodeNew i c).1).log).start), I ((((nodeNew i c).1).log).startTerm), .al 31 (some 8) 3 (((((nodeNew i c).1).log).entries).length) (g6 0 8) 0, I (((nodeNew i c).1).commit), I (((nodeNew i c).1).clock), I (((nodeNew i c).1).limit), .al 31 (some 12) 1 ((((nodeNew i c).1).votes).length) (g6 0 12) 0, .al 31 (some 13) 4 ((((nodeNew i c).1).peers).length) (g6 0 13) 0]), (31, .agg [I (((nodeNew i c).1).id), I (((nodeNew i c).1).term_), I (((nodeNew i c).1).vote), I (((nodeNew i c).1).role), I (((nodeNew i c).1).lead), .w (sl 1 cI (((nodeNew i c).1).conf)) (g6 0 5), I ((((nodeNew i c).1).log).start), I ((((nodeNew i c).1).log).startTerm), .w (sl 3 Entry.c ((((nodeNew i c).1).log).entries)) (g6 0 8), I (((nodeNew i c).1).commit), I (((nodeNew i c).1).clock), I (((nodeNew i c).1).limit), .w (sl 1 cI (((nodeNew i c).1).votes)) (g6 0 12), .w (sl 4 Peer.c (((nodeNew i c).1).peers)) (g6 0 13)]), (32, Bo ((nodeNew i c).2))] rfl (Le.c rfl <| Le.c rfl <| Le.c rfl <| Le.c rfl <| Le.c rfl <| Le.c rfl <| Le.c rfl <| Le.c rfl <| Le.e) ?_
    refine RW.pullA (k := 8) (l := 31) (j := 5) 8 31 5 rfl rfl rfl (by decide) rfl rfl rfl rfl ?_
    refine RW.le [(0, I i), (1, .r (sl 1 cI c)), (5, .obj b4 [I (((nodeNew i c).1).id), I (((nodeNew i c).1).term_), I (((nodeNew i c).1).vote), I (((nodeNew i c).1).role), I (((nodeNew i c).1).lead), .w (sl 1 cI (((nodeNew i c).1).conf)) (g3 0 5), I ((((nodeNew i c).1).log).start), I ((((nodeNew i c).1).log).startTerm), .w (sl 3 Entry.c ((((nodeNew i c).1).log).entries)) (g3 0 8), I (((nodeNew i c).1).commit), I (((nodeNew i c).1).clock), I (((nodeNew i c).1).limit), .w (sl 1 cI (((nodeNew i c).1).votes)) (g3 0 12), .w (sl 4 Peer.c (((nodeNew i c).1).peers)) (g3 0 13)]), (6, Bo ((nodeNew i c).2)), (7, .w (sl 1 cI c) (g5 0 0)), (8, .obj b7 [I (((nodeNew i c).1).id), I (((nodeNew i c).1).term_), I (((nodeNew i c).1).vote), I (((nodeNew i c).1).role), I (((nodeNew i c).1).lead), .w (sl 1 cI (((nodeNew i c).1).conf)) (g6 0 5), I ((((nodeNew i c).1).log).start), I ((((nodeNew i c).1).log).startTerm), .al 31 (some 8) 3 (((((nodeNew i c).1).log).entries).length) (g6 0 8) 0, I (((nodeNew i c).1).commit), I (((nodeNew i c).1).clock), I (((nodeNew i c).1).limit), .al 31 (some 12) 1 ((((nodeNew i c).1).votes).length) (g6 0 12) 0, .al 31 (some 13) 4 ((((nodeNew i c).1).peers).length) (g6 0 13) 0]), (31, .agg [I (((nodeNew i c).1).id), I (((nodeNew i c).1).term_), I (((nodeNew i c).1).vote), I (((nodeNew i c).1).role), I (((nodeNew i c).1).lead), .u, I ((((nodeNew i c).1).log).start), I ((((nodeNew i c).1).log).startTerm), .w (sl 3 Entry.c ((((nodeNew i c).1).log).entries)) (g6 0 8), I (((nodeNew i c).1).commit), I (((nodeNew i c).1).clock), I (((nodeNew i c).1).limit), .w (sl 1 cI (((nodeNew i c).1).votes)) (g6 0 12), .w (sl 4 Peer.c (((nodeNew i c).1).peers)) (g6 0 13)]), (32, Bo ((nodeNew i c).2))] rfl (Le.c rfl <| Le.c rfl <| Le.c rfl <| Le.c rfl <| Le.c rfl <| Le.c rfl <| Le.c rfl <| Le.c rfl <| Le.e) ?_
    refine RW.pullA (k := 8) (l := 31) (j := 8) 8 31 8 rfl rfl rfl (by decide) rfl rfl rfl rfl ?_
    refine RW.le [(0, I i), (1, .r (sl 1 cI c)), (5, .obj b4 [I (((nodeNew i c).1).id), I (((nodeNew i c).1).term_), I (((nodeNew i c).1).vote), I (((nodeNew i c).1).role), I (((nodeNew i c).1).lead), .w (sl 1 cI (((nodeNew i c).1).conf)) (g3 0 5), I ((((nodeNew i c).1).log).start), I ((((nodeNew i c).1).log).startTerm), .w (sl 3 Entry.c ((((nodeNew i c).1).log).entries)) (g3 0 8), I (((nodeNew i c).1).commit), I (((nodeNew i c).1).clock), I (((nodeNew i c).1).limit), .w (sl 1 cI (((nodeNew i c).1).votes)) (g3 0 12), .w (sl 4 Peer.c (((nodeNew i c).1).peers)) (g3 0 13)]), (6, Bo ((nodeNew i c).2)), (7, .w (sl 1 cI c) (g5 0 0)), (8, .obj b7 [I (((nodeNew i c).1).id), I (((nodeNew i c).1).term_), I (((nodeNew i c).1).vote), I (((nodeNew i c).1).role), I (((nodeNew i c).1).lead), .w (sl 1 cI (((nodeNew i c).1).conf)) (g6 0 5), I ((((nodeNew i c).1).log).start), I ((((nodeNew i c).1).log).startTerm), .w (sl 3 Entry.c ((((nodeNew i c).1).log).entries)) (g6 0 8), I (((nodeNew i c).1).commit), I (((nodeNew i c).1).clock), I (((nodeNew i c).1).limit), .al 31 (some 12) 1 ((((nodeNew i c).1).votes).length) (g6 0 12) 0, .al 31 (some 13) 4 ((((nodeNew i c).1).peers).length) (g6 0 13) 0]), (31, .agg [I (((nodeNew i c).1).id), I (((nodeNew i c).1).term_), I (((nodeNew i c).1).vote), I (((nodeNew i c).1).role), I (((nodeNew i c).1).lead), .u, I ((((nodeNew i c).1).log).start), I ((((nodeNew i c).1).log).startTerm), .u, I (((nodeNew i c).1).commit), I (((nodeNew i c).1).clock), I (((nodeNew i c).1).limit), .w (sl 1 cI (((nodeNew i c).1).votes)) (g6 0 12), .w (sl 4 Peer.c (((nodeNew i c).1).peers)) (g6 0 13)]), (32, Bo ((nodeNew i c).2))] rfl (Le.c rfl <| Le.c rfl <| Le.c rfl <| Le.c rfl <| Le.c rfl <| Le.c rfl <| Le.c rfl <| Le.c rfl <| Le.e) ?_
    refine RW.pullA (k := 8) (l := 31) (j := 12) 8 31 12 rfl rfl rfl (by decide) rfl rfl rfl rfl ?_
    refine RW.le [(0, I i), (1, .r (sl 1 cI c)), (5, .obj b4 [I (((nodeNew i c).1).id), I (((nodeNew i c).1).term_), I (((nodeNew i c).1).vote), I (((nodeNew i c).1).role), I (((nodeNew i c).1).lead), .w (sl 1 cI (((nodeNew i c).1).conf)) (g3 0 5), I ((((nodeNew i c).1).log).start), I ((((nodeNew i c).1).log).startTerm), .w (sl 3 Entry.c ((((nodeNew i c).1).log).entries)) (g3 0 8), I (((nodeNew i c).1).commit), I (((nodeNew i c).1).clock), I (((nodeNew i c).1).limit), .w (sl 1 cI (((nodeNew i c).1).votes)) (g3 0 12), .w (sl 4 Peer.c (((nodeNew i c).1).peers)) (g3 0 13)]), (6, Bo ((nodeNew i c).2)), (7, .w (sl 1 cI c) (g5 0 0)), (8, .obj b7 [I (((nodeNew i c).1).id), I (((nodeNew i c).1).term_), I (((nodeNew i c).1).vote), I (((nodeNew i c).1).role), I (((nodeNew i c).1).lead), .w (sl 1 cI (((nodeNew i c).1).conf)) (g6 0 5), I ((((nodeNew i c).1).log).start), I ((((nodeNew i c).1).log).startTerm), .w (sl 3 Entry.c ((((nodeNew i c).1).log).entries)) (g6 0 8), I (((nodeNew i c).1).commit), I (((nodeNew i c).1).clock), I (((nodeNew i c).1).limit), .w (sl 1 cI (((nodeNew i c).1).votes)) (g6 0 12), .al 31 (some 13) 4 ((((nodeNew i c).1).peers).length) (g6 0 13) 0]), (31, .agg [I (((nodeNew i c).1).id), I (((nodeNew i c).1).term_), I (((nodeNew i c).1).vote), I (((nodeNew i c).1).role), I (((nodeNew i c).1).lead), .u, I ((((nodeNew i c).1).log).start), I ((((nodeNew i c).1).log).startTerm), .u, I (((nodeNew i c).1).commit), I (((nodeNew i c).1).clock), I (((nodeNew i c).1).limit), .u, .w (sl 4 Peer.c (((nodeNew i c).1).peers)) (g6 0 13)]), (32, Bo ((nodeNew i c).2))] rfl (Le.c rfl <| Le.c rfl <| Le.c rfl <| Le.c rfl <| Le.c rfl <| Le.c rfl <| Le.c rfl <| Le.c rfl <| Le.e) ?_
    refine RW.pullA (k := 8) (l := 31) (j := 13) 8 31 13 rfl rfl rfl (by decide) rfl rfl rfl rfl ?_
    refine RW.le [(0, I i), (1, .r (sl 1 cI c)), (5, .obj b4 [I (((nodeNew i c).1).id), I (((nodeNew i c).1).term_), I (((nodeNew i c).1).vote), I (((nodeNew i c).1).role), I (((nodeNew i c).1).lead), .w (sl 1 cI (((nodeNew i c).1).conf)) (g3 0 5), I ((((nodeNew i c).1).log).start), I ((((nodeNew i c).1).log).startTerm), .w (sl 3 Entry.c ((((nodeNew i c).1).log).entries)) (g3 0 8), I (((nodeNew i c).1).commit), I (((nodeNew i c).1).clock), I (((nodeNew i c).1).limit), .w (sl 1 cI (((nodeNew i c).1).votes)) (g3 0 12), .w (sl 4 Peer.c (((nodeNew i c).1).peers)) (g3 0 13)]), (6, Bo ((nodeNew i c).2)), (7, .w (sl 1 cI c) (g5 0 0)), (8, .obj b7 [I (((nodeNew i c).1).id), I (((nodeNew i c).1).term_), I (((nodeNew i c).1).vote), I (((nodeNew i c).1).role), I (((nodeNew i c).1).lead), .w (sl 1 cI (((nodeNew i c).1).conf)) (g6 0 5), I ((((nodeNew i c).1).log).start), I ((((nodeNew i c).1).log).startTerm), .w (sl 3 Entry.c ((((nodeNew i c).1).log).entries)) (g6 0 8), I (((nodeNew i c).1).commit), I (((nodeNew i c).1).clock), I (((nodeNew i c).1).limit), .w (sl 1 cI (((nodeNew i c).1).votes)) (g6 0 12), .w (sl 4 Peer.c (((nodeNew i c).1).peers)) (g6 0 13)]), (32, Bo ((nodeNew i c).2))] rfl (Le.c rfl <| Le.c rfl <| Le.c rfl <| Le.c rfl <| Le.c rfl <| Le.c rfl <| Le.c rfl <| Le.e) ?_
    refine RW.v rfl (V.as (d := Bo ((nodeNew i c).2)) rfl rfl) ?_
    refine RW.nil ?_
    refine CW.le [(0, I i), (1, .r (sl 1 cI c)), (5, .obj b4 [I (((nodeNew i c).1).id), I (((nodeNew i c).1).term_), I (((nodeNew i c).1).vote), I (((nodeNew i c).1).role), I (((nodeNew i c).1).lead), .w (sl 1 cI (((nodeNew i c).1).conf)) (g3 0 5), I ((((nodeNew i c).1).log).start), I ((((nodeNew i c).1).log).startTerm), .w (sl 3 Entry.c ((((nodeNew i c).1).log).entries)) (g3 0 8), I (((nodeNew i c).1).commit), I (((nodeNew i c).1).clock), I (((nodeNew i c).1).limit), .w (sl 1 cI (((nodeNew i c).1).votes)) (g3 0 12), .w (sl 4 Peer.c (((nodeNew i c).1).peers)) (g3 0 13)]), (6, Bo ((nodeNew i c).2)), (7, .w (sl 1 cI c) (g5 0 0)), (8, .obj b7 [I (((nodeNew i c).1).id), I (((nodeNew i c).1).term_), I (((nodeNew i c).1).vote), I (((nodeNew i c).1).role), I (((nodeNew i c).1).lead), .w (sl 1 cI (((nodeNew i c).1).conf)) (g6 0 5), I ((((nodeNew i c).1).log).start), I ((((nodeNew i c).1).log).startTerm), .w (sl 3 Entry.c ((((nodeNew i c).1).log).entries)) (g6 0 8), I (((nodeNew i c).1).commit), I (((nodeNew i c).1).clock), I (((nodeNew i c).1).limit), .w (sl 1 cI (((nodeNew i c).1).votes)) (g6 0 12), .w (sl 4 Peer.c (((nodeNew i c).1).peers)) (g6 0 13)]), (9, Bo ((nodeNew i c).2))] rfl (Le.c rfl <| Le.c rfl <| Le.c rfl <| Le.c rfl <| Le.c rfl <| Le.c rfl <| Le.c rfl <| Le.e) ?_
    refine CW.seq ?_
    refine CW.seqJ 98 (fun (v8 : Bool) => [(0, I i), (1, .r (sl 1 cI c)), (5, .obj b4 [I (((nodeNew i c).1).id), I (((nodeNew i c).1).term_), I (((nodeNew i c).1).vote), I (((nodeNew i c).1).role), I (((nodeNew i c).1).lead), .w (sl 1 cI (((nodeNew i c).1).conf)) (g3 0 5), I ((((nodeNew i c).1).log).start), I ((((nodeNew i c).1).log).startTerm), .w (sl 3 Entry.c ((((nodeNew i c).1).log).entries)) (g3 0 8), I (((nodeNew i c).1).commit), I (((nodeNew i c).1).clock), I (((nodeNew i c).1).limit), .w (sl 1 cI (((nodeNew i c).1).votes)) (g3 0 12), .w (sl 4 Peer.c (((nodeNew i c).1).peers)) (g3 0 13)]), (6, Bo ((nodeNew i c).2)), (7, .w (sl 1 cI c) (g5 0 0)), (8, .obj b7 [I (((nodeNew i c).1).id), I (((nodeNew i c).1).term_), I (((nodeNew i c).1).vote), I (((nodeNew i c).1).role), I (((nodeNew i c).1).lead), .w (sl 1 cI (((nodeNew i c).1).conf)) (g6 0 5), I ((((nodeNew i c).1).log).start), I ((((nodeNew i c).1).log).startTerm), .w (sl 3 Entry.c ((((nodeNew i c).1).log).entries)) (g6 0 8), I (((nodeNew i c).1).commit), I (((nodeNew i c).1).clock), I (((nodeNew i c).1).limit), .w (sl 1 cI (((nodeNew i c).1).votes)) (g6 0 12), .w (sl 4 Peer.c (((nodeNew i c).1).peers)) (g6 0 13)]), (9, Bo ((nodeNew i c).2)), (41, Bo v8)]) (fun v8 => v8 = ((!(eqNode ((nodeNew i c).1) ((nodeNew i c).1))) || (!(((nodeNew i c).2) == ((nodeNew i c).2))))) ?_ ?_
    · refine CW.region ?_
      refine RW.v rfl (V.loadAgg rfl rfl rfl rfl rfl (Nat.le_of_ble_eq_true rfl)) ?_
      refine RW.v rfl (V.loadAgg rfl rfl rfl rfl rfl (Nat.le_of_ble_eq_true rfl)) ?_
      refine RW.callOwn rfl (laws_eqNode_fn ((nodeNew i c).1) ((nodeNew i c).1)) rfl (.cons (.agg (.cons (.r .r) (.cons (.r .r) (.cons (.r .r) (.cons (.r .r) (.cons (.r .r) (.cons (.r (.alo (k := none) (i := 8) (j := 5) (sz := 1) (V := (g6 0 5)) rfl rfl rfl nofun)) (.cons (.r .r) (.cons (.r .r) (.cons (.r (.alo (k := none) (i := 8) (j := 8) (sz := 3) (V := (g6 0 8)) rfl rfl rfl nofun)) (.cons (.r .r) (.cons (.r .r) (.cons (.r .r) (.cons (.r (.alo (k := none) (i := 8) (j := 12) (sz := 1) (V := (g6 0 12)) rfl rfl rfl nofun)) (.cons (.r (.alo (k := none) (i := 8) (j := 13) (sz := 4) (V := (g6 0 13)) rfl rfl rfl nofun)) (.nil)))))))))))))))) (.cons (.agg (.cons (.r .r) (.cons (.r .r) (.cons (.r .r) (.cons (.r .r) (.cons (.r .r) (.cons (.r (.alo (k := none) (i := 5) (j := 5) (sz := 1) (V := (g3 0 5)) rfl rfl rfl nofun)) (.cons (.r .r) (.cons (.r .r) (.cons (.r (.alo (k := none) (i := 5) (j := 8) (sz := 3) (V := (g3 0 8)) rfl rfl rfl nofun)) (.cons (.r .r) (.cons (.r .r) (.cons (.r .r) (.cons (.r (.alo (k := none) (i := 5) (j := 12) (sz := 1) (V := (g3 0 12)) rfl rfl rfl nofun)) (.cons (.r (.alo (k := none) (i := 5) (j := 13) (sz := 4) (V := (g3 0 13)) rfl rfl rfl nofun)) (.nil)))))))))))))))) (.nil))) rfl fun g9 => ?_
      refine RW.v rfl (V.not rfl rfl) ?_
      refine RW.v rfl (V.mv (d := Bo (!(eqNode ((nodeNew i c).1) ((nodeNew i c).1)))) rfl rfl) ?_
      refine RW.gv rfl rfl rfl rfl (fun h10 => V.mv (d := Bo ((nodeNew i c).2)) rfl rfl) (fun h10 => ?_) (fun h10 => ?_)
      · skip
        refine RW.gt rfl rfl rfl rfl (V.mv (d := Bo ((nodeNew i c).2)) rfl rfl) ?_
        refine RW.gt rfl rfl rfl rfl (V.eqBool rfl rfl rfl (by kernel_rfl) (.inr ⟨rfl, rfl⟩)) ?_
        refine RW.v rfl (V.pickF (d := Bo (!(((nodeNew i c).2) == ((nodeNew i c).2)))) rfl rfl rfl) ?_
        refine RW.nil ?_
        exact ⟨_, by first | rfl | (simp_all; done) | (simp_all; omega) | grind, rfl, Le.c rfl <| Le.c rfl <| Le.c rfl <| Le.c rfl <| Le.c rfl <| Le.c rfl <| Le.c rfl <| Le.c rfl <| Le.e⟩
      · skip
        refine RW.guardF rfl rfl rfl rfl ?_
        refine RW.guardF rfl rfl rfl rfl ?_
        refine RW.v rfl (V.pickT (d := Bo true) rfl rfl rfl) ?_
        refine RW.nil ?_
        exact ⟨_, by first | rfl | (simp_all; done) | (simp_all; omega) | grind, rfl, Le.c rfl <| Le.c rfl <| Le.c rfl <| Le.c rfl <| Le.c rfl <| Le.c rfl <| Le.c rfl <| Le.c rfl <| Le.e⟩
    · intro v8 hv11
      refine CW.cond rfl (fun h12 => ?_) (fun h12 => ?_)
      · skip
        refine CW.seq ?_
        refine CW.region ?_
        refine RW.v rfl (V.as (d := Bo false) rfl rfl) ?_
        refine RW.nil ?_
        refine CW.le [(4, Bo false)] rfl (Le.c rfl <| Le.e) ?_
        refine CW.ret ?_
        exact Post.one (RV.b rfl (by first | rfl | (exfalso; have p1 := mkIS_pos hlc; have p2 := (mkVNode_facts (okNodeNew (id := i) hlc)).1; have p3 := (mkVNode_facts (okNodeNew (id := i) hlc)).2; simp_all [eqNode_refl, eqS_refl eqI_refl]; done) | (exfalso; have p1 := mkIS_pos hlc; have p2 := (mkVNode_facts (okNodeNew (id := i) hlc)).1; have p3 := (mkVNode_facts (okNodeNew (id := i) hlc)).2; simp_all [eqNode_refl, eqS_refl eqI_refl]; omega))) (AOs.r (AOs.r AOs.e))
      · skip
        refine CW.skip ?_
        refine CW.le [(0, I i), (1, .r (sl 1 cI c)), (5, .obj b4 [I (((nodeNew i c).1).id), I (((nodeNew i c).1).term_), I (((nodeNew i c).1).vote), I (((nodeNew i c).1).role), I (((nodeNew i c).1).lead), .w (sl 1 cI (((nodeNew i c).1).conf)) (g3 0 5), I ((((nodeNew i c).1).log).start), I ((((nodeNew i c).1).log).startTerm), .w (sl 3 Entry.c ((((nodeNew i c).1).log).entries)) (g3 0 8), I (((nodeNew i c).1).commit), I (((nodeNew i c).1).clock), I (((nodeNew i c).1).limit), .w (sl 1 cI (((nodeNew i c).1).votes)) (g3 0 12), .w (sl 4 Peer.c (((nodeNew i c).1).peers)) (g3 0 13)]), (6, Bo ((nodeNew i c).2)), (7, .w (sl 1 cI c) (g5 0 0)), (8, .obj b7 [I (((nodeNew i c).1).id), I (((nodeNew i c).1).term_), I (((nodeNew i c).1).vote), I (((nodeNew i c).1).role), I (((nodeNew i c).1).lead), .w (sl 1 cI (((nodeNew i c).1).conf)) (g6 0 5), I ((((nodeNew i c).1).log).start), I ((((nodeNew i c).1).log).startTerm), .w (sl 3 Entry.c ((((nodeNew i c).1).log).entries)) (g6 0 8), I (((nodeNew i c).1).commit), I (((nodeNew i c).1).clock), I (((nodeNew i c).1).limit), .w (sl 1 cI (((nodeNew i c).1).votes)) (g6 0 12), .w (sl 4 Peer.c (((nodeNew i c).1).peers)) (g6 0 13)]), (9, Bo ((nodeNew i c).2))] rfl (Le.c rfl <| Le.c rfl <| Le.c rfl <| Le.c rfl <| Le.c rfl <| Le.c rfl <| Le.c rfl <| Le.e) ?_
        refine CW.seq ?_
        refine CW.seq ?_
        refine CW.region ?_
        refine RW.v rfl (V.mv (d := .al 7 none 1 c.length (g5 0 0) 0) rfl rfl) ?_
        refine RW.v rfl (V.mv (d := .r (sl 1 cI c)) rfl rfl) ?_
        refine RW.call rfl (laws_toIntS_fn c hlc) rfl (.cons (.one (.r .r)) (.nil)) fun g13 => ?_
        refine RW.callOwn rfl (laws_eqIntS_fn c c) rfl (.cons (.one (.r (.al (k := none) (i := 7) (sz := 1) (V := (g5 0 0)) rfl rfl nofun))) (.cons (.one (.r (.al (k := none) (i := 44) (sz := 1) (V := (g13 0 0)) rfl rfl nofun))) (.nil))) rfl fun g14 => ?_
        refine RW.v rfl (V.not rfl rfl) ?_
        refine RW.nil ?_
        refine CW.le [(0, I i), (1, .r (sl 1 cI c)), (5, .obj b4 [I (((nodeNew i c).1).id), I (((nodeNew i c).1).term_), I (((nodeNew i c).1).vote), I (((nodeNew i c).1).role), I (((nodeNew i c).1).lead), .w (sl 1 cI (((nodeNew i c).1).conf)) (g3 0 5), I ((((nodeNew i c).1).log).start), I ((((nodeNew i c).1).log).startTerm), .w (sl 3 Entry.c ((((nodeNew i c).1).log).entries)) (g3 0 8), I (((nodeNew i c).1).commit), I (((nodeNew i c).1).clock), I (((nodeNew i c).1).limit), .w (sl 1 cI (((nodeNew i c).1).votes)) (g3 0 12), .w (sl 4 Peer.c (((nodeNew i c).1).peers)) (g3 0 13)]), (6, Bo ((nodeNew i c).2)), (7, .w (sl 1 cI c) (g5 0 0)), (8, .obj b7 [I (((nodeNew i c).1).id), I (((nodeNew i c).1).term_), I (((nodeNew i c).1).vote), I (((nodeNew i c).1).role), I (((nodeNew i c).1).lead), .w (sl 1 cI (((nodeNew i c).1).conf)) (g6 0 5), I ((((nodeNew i c).1).log).start), I ((((nodeNew i c).1).log).startTerm), .w (sl 3 Entry.c ((((nodeNew i c).1).log).entries)) (g6 0 8), I (((nodeNew i c).1).commit), I (((nodeNew i c).1).clock), I (((nodeNew i c).1).limit), .w (sl 1 cI (((nodeNew i c).1).votes)) (g6 0 12), .w (sl 4 Peer.c (((nodeNew i c).1).peers)) (g6 0 13)]), (9, Bo ((nodeNew i c).2)), (46, Bo (!(eqS eqI c c)))] rfl (Le.c rfl <| Le.c rfl <| Le.c rfl <| Le.c rfl <| Le.c rfl <| Le.c rfl <| Le.c rfl <| Le.c rfl <| Le.e) ?_
        refine CW.cond rfl (fun h15 => ?_) (fun h15 => ?_)
        · skip
          refine CW.seq ?_
          refine CW.region ?_
          refine RW.v rfl (V.as (d := Bo false) rfl rfl) ?_
          refine RW.nil ?_
          refine CW.le [(4, Bo false)] rfl (Le.c rfl <| Le.e) ?_
          refine CW.ret ?_
          exact Post.one (RV.b rfl (by first | rfl | (exfalso; have p1 := mkIS_pos hlc; have p2 := (mkVNode_facts (okNodeNew (id := i) hlc)).1; have p3 := (mkVNode_facts (okNodeNew (id := i) hlc)).2; simp_all [eqNode_refl, eqS_refl eqI_refl]; done) | (exfalso; have p1 := mkIS_pos hlc; have p2 := (mkVNode_facts (okNodeNew (id := i) hlc)).1; have p3 := (mkVNode_facts (okNodeNew (id := i) hlc)).2; simp_all [eqNode_refl, eqS_refl eqI_refl]; omega))) (AOs.r (AOs.r AOs.e))
        · skip
          refine CW.skip ?_
          refine CW.le [(0, I i), (1, .r (sl 1 cI c)), (5, .obj b4 [I (((nodeNew i c).1).id), I (((nodeNew i c).1).term_), I (((nodeNew i c).1).vote), I (((nodeNew i c).1).role), I (((nodeNew i c).1).lead), .w (sl 1 cI (((nodeNew i c).1).conf)) (g3 0 5), I ((((nodeNew i c).1).log).start), I ((((nodeNew i c).1).log).startTerm), .w (sl 3 Entry.c ((((nodeNew i c).1).log).entries)) (g3 0 8), I (((nodeNew i c).1).commit), I (((nodeNew i c).1).clock), I (((nodeNew i c).1).limit), .w (sl 1 cI (((nodeNew i c).1).votes)) (g3 0 12), .w (sl 4 Peer.c (((nodeNew i c).1).peers)) (g3 0 13)]), (6, Bo ((nodeNew i c).2)), (7, .w (sl 1 cI c) (g5 0 0)), (8, .obj b7 [I (((nodeNew i c).1).id), I (((nodeNew i c).1).term_), I (((nodeNew i c).1).vote), I (((nodeNew i c).1).role), I (((nodeNew i c).1).lead), .w (sl 1 cI (((nodeNew i c).1).conf)) (g6 0 5), I ((((nodeNew i c).1).log).start), I ((((nodeNew i c).1).log).startTerm), .w (sl 3 Entry.c ((((nodeNew i c).1).log).entries)) (g6 0 8), I (((nodeNew i c).1).commit), I (((nodeNew i c).1).clock), I (((nodeNew i c).1).limit), .w (sl 1 cI (((nodeNew i c).1).votes)) (g6 0 12), .w (sl 4 Peer.c (((nodeNew i c).1).peers)) (g6 0 13)]), (9, Bo ((nodeNew i c).2))] rfl (Le.c rfl <| Le.c rfl <| Le.c rfl <| Le.c rfl <| Le.c rfl <| Le.c rfl <| Le.c rfl <| Le.e) ?_
          refine CW.seq ?_
          refine CW.region ?_
          refine RW.v rfl (V.as (d := I 1) rfl rfl) ?_
          refine RW.nil ?_
          refine CW.le [(0, I i), (1, .r (sl 1 cI c)), (5, .obj b4 [I (((nodeNew i c).1).id), I (((nodeNew i c).1).term_), I (((nodeNew i c).1).vote), I (((nodeNew i c).1).role), I (((nodeNew i c).1).lead), .w (sl 1 cI (((nodeNew i c).1).conf)) (g3 0 5), I ((((nodeNew i c).1).log).start), I ((((nodeNew i c).1).log).startTerm), .w (sl 3 Entry.c ((((nodeNew i c).1).log).entries)) (g3 0 8), I (((nodeNew i c).1).commit), I (((nodeNew i c).1).clock), I (((nodeNew i c).1).limit), .w (sl 1 cI (((nodeNew i c).1).votes)) (g3 0 12), .w (sl 4 Peer.c (((nodeNew i c).1).peers)) (g3 0 13)]), (6, Bo ((nodeNew i c).2)), (7, .w (sl 1 cI c) (g5 0 0)), (8, .obj b7 [I (((nodeNew i c).1).id), I (((nodeNew i c).1).term_), I (((nodeNew i c).1).vote), I (((nodeNew i c).1).role), I (((nodeNew i c).1).lead), .w (sl 1 cI (((nodeNew i c).1).conf)) (g6 0 5), I ((((nodeNew i c).1).log).start), I ((((nodeNew i c).1).log).startTerm), .w (sl 3 Entry.c ((((nodeNew i c).1).log).entries)) (g6 0 8), I (((nodeNew i c).1).commit), I (((nodeNew i c).1).clock), I (((nodeNew i c).1).limit), .w (sl 1 cI (((nodeNew i c).1).votes)) (g6 0 12), .w (sl 4 Peer.c (((nodeNew i c).1).peers)) (g6 0 13)]), (9, Bo ((nodeNew i c).2)), (10, I 1)] rfl (Le.c rfl <| Le.c rfl <| Le.c rfl <| Le.c rfl <| Le.c rfl <| Le.c rfl <| Le.c rfl <| Le.c rfl <| Le.e) ?_
          refine CW.seq ?_
          refine CW.region ?_
          refine RW.v rfl (V.mv (d := .al 7 none 1 c.length (g5 0 0) 0) rfl rfl) ?_
          refine RW.v rfl (V.mv (d := I 1) rfl rfl) ?_
          refine RW.callW (k := 7) (laws_markIntS_fn c 1 (by decide)) rfl rfl (Nat.le_of_ble_eq_true rfl) (by decide) (.here (AsW.own) (.cons (.one (.r .r)) (.nil))) rfl fun g16 q17 => ?_
          refine RW.v rfl (V.as (d := I ((mkL mkI c 1).2)) rfl rfl) ?_
          refine RW.nil ?_
          refine CW.le [(0, I i), (1, .r (sl 1 cI c)), (5, .obj b4 [I (((nodeNew i c).1).id), I (((nodeNew i c).1).term_), I (((nodeNew i c).1).vote), I (((nodeNew i c).1).role), I (((nodeNew i c).1).lead), .w (sl 1 cI (((nodeNew i c).1).conf)) (g3 0 5), I ((((nodeNew i c).1).log).start), I ((((nodeNew i c).1).log).startTerm), .w (sl 3 Entry.c ((((nodeNew i c).1).log).entries)) (g3 0 8), I (((nodeNew i c).1).commit), I (((nodeNew i c).1).clock), I (((nodeNew i c).1).limit), .w (sl 1 cI (((nodeNew i c).1).votes)) (g3 0 12), .w (sl 4 Peer.c (((nodeNew i c).1).peers)) (g3 0 13)]), (6, Bo ((nodeNew i c).2)), (8, .obj b7 [I (((nodeNew i c).1).id), I (((nodeNew i c).1).term_), I (((nodeNew i c).1).vote), I (((nodeNew i c).1).role), I (((nodeNew i c).1).lead), .w (sl 1 cI (((nodeNew i c).1).conf)) (g6 0 5), I ((((nodeNew i c).1).log).start), I ((((nodeNew i c).1).log).startTerm), .w (sl 3 Entry.c ((((nodeNew i c).1).log).entries)) (g6 0 8), I (((nodeNew i c).1).commit), I (((nodeNew i c).1).clock), I (((nodeNew i c).1).limit), .w (sl 1 cI (((nodeNew i c).1).votes)) (g6 0 12), .w (sl 4 Peer.c (((nodeNew i c).1).peers)) (g6 0 13)]), (9, Bo ((nodeNew i c).2)), (10, I ((mkL mkI c 1).2))] rfl (Le.c rfl <| Le.c rfl <| Le.c rfl <| Le.c rfl <| Le.c rfl <| Le.c rfl <| Le.c rfl <| Le.e) ?_
          refine CW.seq ?_
          refine CW.seqJ 98 (fun (v18 : Bool) => [(0, I i), (1, .r (sl 1 cI c)), (5, .obj b4 [I (((nodeNew i c).1).id), I (((nodeNew i c).1).term_), I (((nodeNew i c).1).vote), I (((nodeNew i c).1).role), I (((nodeNew i c).1).lead), .w (sl 1 cI (((nodeNew i c).1).conf)) (g3 0 5), I ((((nodeNew i c).1).log).start), I ((((nodeNew i c).1).log).startTerm), .w (sl 3 Entry.c ((((nodeNew i c).1).log).entries)) (g3 0 8), I (((nodeNew i c).1).commit), I (((nodeNew i c).1).clock), I (((nodeNew i c).1).limit), .w (sl 1 cI (((nodeNew i c).1).votes)) (g3 0 12), .w (sl 4 Peer.c (((nodeNew i c).1).peers)) (g3 0 13)]), (6, Bo ((nodeNew i c).2)), (8, .obj b7 [I (((nodeNew i c).1).id), I (((nodeNew i c).1).term_), I (((nodeNew i c).1).vote), I (((nodeNew i c).1).role), I (((nodeNew i c).1).lead), .w (sl 1 cI (((nodeNew i c).1).conf)) (g6 0 5), I ((((nodeNew i c).1).log).start), I ((((nodeNew i c).1).log).startTerm), .w (sl 3 Entry.c ((((nodeNew i c).1).log).entries)) (g6 0 8), I (((nodeNew i c).1).commit), I (((nodeNew i c).1).clock), I (((nodeNew i c).1).limit), .w (sl 1 cI (((nodeNew i c).1).votes)) (g6 0 12), .w (sl 4 Peer.c (((nodeNew i c).1).peers)) (g6 0 13)]), (62, Bo v18)]) (fun v18 => v18 = ((decide (((mkL mkI c 1).2) < 0) || (!(eqNode ((nodeNew i c).1) ((nodeNew i c).1)))) || (!(((nodeNew i c).2) == ((nodeNew i c).2))))) ?_ ?_
          · refine CW.region ?_
            refine RW.v rfl (V.mv (d := I ((mkL mkI c 1).2)) rfl rfl) ?_
            refine RW.v rfl (V.cmpInt rfl rfl rfl rfl) ?_
            refine RW.v rfl (V.mv (d := Bo (decide (((mkL mkI c 1).2) < 0))) rfl rfl) ?_
            refine RW.gv rfl rfl rfl rfl (fun h19 => V.loadAgg rfl rfl rfl rfl rfl (Nat.le_of_ble_eq_true rfl)) (fun h19 => ?_) (fun h19 => ?_)
            · skip
              refine RW.gt rfl rfl rfl rfl (V.loadAgg rfl rfl rfl rfl rfl (Nat.le_of_ble_eq_true rfl)) ?_
              refine RW.gcallOwn rfl rfl rfl rfl (laws_eqNode_fn ((nodeNew i c).1) ((nodeNew i c).1)) rfl (.cons (.agg (.cons (.r .r) (.cons (.r .r) (.cons (.r .r) (.cons (.r .r) (.cons (.r .r) (.cons (.r (.alo (k := none) (i := 8) (j := 5) (sz := 1) (V := (g6 0 5)) rfl rfl rfl nofun)) (.cons (.r .r) (.cons (.r .r) (.cons (.r (.alo (k := none) (i := 8) (j := 8) (sz := 3) (V := (g6 0 8)) rfl rfl rfl nofun)) (.cons (.r .r) (.cons (.r .r) (.cons (.r .r) (.cons (.r (.alo (k := none) (i := 8) (j := 12) (sz := 1) (V := (g6 0 12)) rfl rfl rfl nofun)) (.cons (.r (.alo (k := none) (i := 8) (j := 13) (sz := 4) (V := (g6 0 13)) rfl rfl rfl nofun)) (.nil)))))))))))))))) (.cons (.agg (.cons (.r .r) (.cons (.r .r) (.cons (.r .r) (.cons (.r .r) (.cons (.r .r) (.cons (.r (.alo (k := none) (i := 5) (j := 5) (sz := 1) (V := (g3 0 5)) rfl rfl rfl nofun)) (.cons (.r .r) (.cons (.r .r) (.cons (.r (.alo (k := none) (i := 5) (j := 8) (sz := 3) (V := (g3 0 8)) rfl rfl rfl nofun)) (.cons (.r .r) (.cons (.r .r) (.cons (.r .r) (.cons (.r (.alo (k := none) (i := 5) (j := 12) (sz := 1) (V := (g3 0 12)) rfl rfl rfl nofun)) (.cons (.r (.alo (k := none) (i := 5) (j := 13) (sz := 4) (V := (g3 0 13)) rfl rfl rfl nofun)) (.nil)))))))))))))))) (.nil))) rfl fun g20 => ?_
              refine RW.gt rfl rfl rfl rfl (V.not rfl rfl) ?_
              refine RW.v rfl (V.pickF (d := Bo (!(eqNode ((nodeNew i c).1) ((nodeNew i c).1)))) rfl rfl rfl) ?_
              refine RW.v rfl (V.mv (d := Bo (!(eqNode ((nodeNew i c).1) ((nodeNew i c).1)))) rfl rfl) ?_
              refine RW.gv rfl rfl rfl rfl (fun h21 => V.mv (d := Bo ((nodeNew i c).2)) rfl rfl) (fun h21 => ?_) (fun h21 => ?_)
              · skip
                refine RW.gt rfl rfl rfl rfl (V.mv (d := Bo ((nodeNew i c).2)) rfl rfl) ?_
                refine RW.gt rfl rfl rfl rfl (V.eqBool rfl rfl rfl (by kernel_rfl) (.inr ⟨rfl, rfl⟩)) ?_
                refine RW.v rfl (V.pickF (d := Bo (!(((nodeNew i c).2) == ((nodeNew i c).2)))) rfl rfl rfl) ?_
                refine RW.nil ?_
                exact ⟨_, by first | rfl | (simp_all; done) | (simp_all; omega) | grind, rfl, Le.c rfl <| Le.c rfl <| Le.c rfl <| Le.c rfl <| Le.c rfl <| Le.c rfl <| Le.e⟩
              · skip
                refine RW.guardF rfl rfl rfl rfl ?_
                refine RW.guardF rfl rfl rfl rfl ?_
                refine RW.v rfl (V.pickT (d := Bo true) rfl rfl rfl) ?_
                refine RW.nil ?_
                exact ⟨_, by first | rfl | (simp_all; done) | (simp_all; omega) | grind, rfl, Le.c rfl <| Le.c rfl <| Le.c rfl <| Le.c rfl <| Le.c rfl <| Le.c rfl <| Le.e⟩
            · skip
              refine RW.guardF rfl rfl rfl rfl ?_
              refine RW.guardF rfl rfl rfl rfl ?_
              refine RW.guardF rfl rfl rfl rfl ?_
              refine RW.v rfl (V.pickT (d := Bo true) rfl rfl rfl) ?_
              refine RW.v rfl (V.mv (d := Bo true) rfl rfl) ?_
              refine RW.guardF rfl rfl rfl rfl ?_
              refine RW.guardF rfl rfl rfl rfl ?_
              refine RW.guardF rfl rfl rfl rfl ?_
              refine RW.v rfl (V.pickT (d := Bo true) rfl rfl rfl) ?_
              refine RW.nil ?_
              exact ⟨_, by first | rfl | (simp_all; done) | (simp_all; omega) | grind, rfl, Le.c rfl <| Le.c rfl <| Le.c rfl <| Le.c rfl <| Le.c rfl <| Le.c rfl <| Le.e⟩
          · intro v18 hv22
            refine CW.cond rfl (fun h23 => ?_) (fun h23 => ?_)
            · skip
              refine CW.seq ?_
              refine CW.region ?_
              refine RW.v rfl (V.as (d := Bo false) rfl rfl) ?_
              refine RW.nil ?_
              refine CW.le [(4, Bo false)] rfl (Le.c rfl <| Le.e) ?_
              refine CW.ret ?_
              exact Post.one (RV.b rfl (by first | rfl | (exfalso; have p1 := mkIS_pos hlc; have p2 := (mkVNode_facts (okNodeNew (id := i) hlc)).1; have p3 := (mkVNode_facts (okNodeNew (id := i) hlc)).2; simp_all [eqNode_refl, eqS_refl eqI_refl]; done) | (exfalso; have p1 := mkIS_pos hlc; have p2 := (mkVNode_facts (okNodeNew (id := i) hlc)).1; have p3 := (mkVNode_facts (okNodeNew (id := i) hlc)).2; simp_all [eqNode_refl, eqS_refl eqI_refl]; omega))) (AOs.r (AOs.r AOs.e))
            · skip
              refine CW.skip ?_
              refine CW.le [(0, I i), (1, .r (sl 1 cI c)), (5, .obj b4 [I (((nodeNew i c).1).id), I (((nodeNew i c).1).term_), I (((nodeNew i c).1).vote), I (((nodeNew i c).1).role), I (((nodeNew i c).1).lead), .w (sl 1 cI (((nodeNew i c).1).conf)) (g3 0 5), I ((((nodeNew i c).1).log).start), I ((((nodeNew i c).1).log).startTerm), .w (sl 3 Entry.c ((((nodeNew i c).1).log).entries)) (g3 0 8), I (((nodeNew i c).1).commit), I (((nodeNew i c).1).clock), I (((nodeNew i c).1).limit), .w (sl 1 cI (((nodeNew i c).1).votes)) (g3 0 12), .w (sl 4 Peer.c (((nodeNew i c).1).peers)) (g3 0 13)]), (6, Bo ((nodeNew i c).2)), (8, .obj b7 [I (((nodeNew i c).1).id), I (((nodeNew i c).1).term_), I (((nodeNew i c).1).vote), I (((nodeNew i c).1).role), I (((nodeNew i c).1).lead), .w (sl 1 cI (((nodeNew i c).1).conf)) (g6 0 5), I ((((nodeNew i c).1).log).start), I ((((nodeNew i c).1).log).startTerm), .w (sl 3 Entry.c ((((nodeNew i c).1).log).entries)) (g6 0 8), I (((nodeNew i c).1).commit), I (((nodeNew i c).1).clock), I (((nodeNew i c).1).limit), .w (sl 1 cI (((nodeNew i c).1).votes)) (g6 0 12), .w (sl 4 Peer.c (((nodeNew i c).1).peers)) (g6 0 13)])] rfl (Le.c rfl <| Le.c rfl <| Le.c rfl <| Le.c rfl <| Le.c rfl <| Le.e) ?_
              refine CW.seq ?_
              refine CW.region ?_
              refine RW.v rfl (V.as (d := I 1) rfl rfl) ?_
              refine RW.nil ?_
              refine CW.le [(0, I i), (1, .r (sl 1 cI c)), (5, .obj b4 [I (((nodeNew i c).1).id), I (((nodeNew i c).1).term_), I (((nodeNew i c).1).vote), I (((nodeNew i c).1).role), I (((nodeNew i c).1).lead), .w (sl 1 cI (((nodeNew i c).1).conf)) (g3 0 5), I ((((nodeNew i c).1).log).start), I ((((nodeNew i c).1).log).startTerm), .w (sl 3 Entry.c ((((nodeNew i c).1).log).entries)) (g3 0 8), I (((nodeNew i c).1).commit), I (((nodeNew i c).1).clock), I (((nodeNew i c).1).limit), .w (sl 1 cI (((nodeNew i c).1).votes)) (g3 0 12), .w (sl 4 Peer.c (((nodeNew i c).1).peers)) (g3 0 13)]), (6, Bo ((nodeNew i c).2)), (8, .obj b7 [I (((nodeNew i c).1).id), I (((nodeNew i c).1).term_), I (((nodeNew i c).1).vote), I (((nodeNew i c).1).role), I (((nodeNew i c).1).lead), .w (sl 1 cI (((nodeNew i c).1).conf)) (g6 0 5), I ((((nodeNew i c).1).log).start), I ((((nodeNew i c).1).log).startTerm), .w (sl 3 Entry.c ((((nodeNew i c).1).log).entries)) (g6 0 8), I (((nodeNew i c).1).commit), I (((nodeNew i c).1).clock), I (((nodeNew i c).1).limit), .w (sl 1 cI (((nodeNew i c).1).votes)) (g6 0 12), .w (sl 4 Peer.c (((nodeNew i c).1).peers)) (g6 0 13)]), (11, I 1)] rfl (Le.c rfl <| Le.c rfl <| Le.c rfl <| Le.c rfl <| Le.c rfl <| Le.c rfl <| Le.e) ?_
              refine CW.seq ?_
              refine CW.region ?_
              refine RW.v rfl (V.loadAgg rfl rfl rfl rfl rfl (Nat.le_of_ble_eq_true rfl)) ?_
              refine RW.v rfl (V.mv (d := I 1) rfl rfl) ?_
              refine RW.callW (k := 8) (laws_markNode_fn ((nodeNew i c).1) 1 (by decide)) rfl rfl (Nat.le_of_ble_eq_true rfl) (by decide) (.here (AsW.aggO (Hand.v (Hand.v (Hand.v (Hand.v (Hand.v (Hand.w (Hand.v (Hand.v (Hand.w (Hand.v (Hand.v (Hand.v (Hand.w (Hand.w Hand.e))))))))))))))) (.cons (.one (.r .r)) (.nil))) rfl fun g24 q25 => ?_
              refine RW.v rfl (V.as (d := I ((mkVNode ((nodeNew i c).1) 1).2)) rfl rfl) ?_
              refine RW.nil ?_
              refine CW.le [(0, I i), (1, .r (sl 1 cI c)), (5, .obj b4 [I (((nodeNew i c).1).id), I (((nodeNew i c).1).term_), I (((nodeNew i c).1).vote), I (((nodeNew i c).1).role), I (((nodeNew i c).1).lead), .w (sl 1 cI (((nodeNew i c).1).conf)) (g3 0 5), I ((((nodeNew i c).1).log).start), I ((((nodeNew i c).1).log).startTerm), .w (sl 3 Entry.c ((((nodeNew i c).1).log).entries)) (g3 0 8), I (((nodeNew i c).1).commit), I (((nodeNew i c).1).clock), I (((nodeNew i c).1).limit), .w (sl 1 cI (((nodeNew i c).1).votes)) (g3 0 12), .w (sl 4 Peer.c (((nodeNew i c).1).peers)) (g3 0 13)]), (6, Bo ((nodeNew i c).2)), (8, .obj b7 [I (((mkVNode ((nodeNew i c).1) 1).1).id), I (((mkVNode ((nodeNew i c).1) 1).1).term_), I (((mkVNode ((nodeNew i c).1) 1).1).vote), I (((mkVNode ((nodeNew i c).1) 1).1).role), I (((mkVNode ((nodeNew i c).1) 1).1).lead), .w (sl 1 cI (((mkVNode ((nodeNew i c).1) 1).1).conf)) (g6 0 5), I ((((mkVNode ((nodeNew i c).1) 1).1).log).start), I ((((mkVNode ((nodeNew i c).1) 1).1).log).startTerm), .w (sl 3 Entry.c ((((mkVNode ((nodeNew i c).1) 1).1).log).entries)) (g6 0 8), I (((mkVNode ((nodeNew i c).1) 1).1).commit), I (((mkVNode ((nodeNew i c).1) 1).1).clock), I (((mkVNode ((nodeNew i c).1) 1).1).limit), .w (sl 1 cI (((mkVNode ((nodeNew i c).1) 1).1).votes)) (g6 0 12), .w (sl 4 Peer.c (((mkVNode ((nodeNew i c).1) 1).1).peers)) (g6 0 13)]), (11, I ((mkVNode ((nodeNew i c).1) 1).2))] rfl (Le.c rfl <| Le.c rfl <| Le.c rfl <| Le.c rfl <| Le.c rfl <| Le.c rfl <| Le.e) ?_
              refine CW.seq ?_
              refine CW.region ?_
              refine RW.v rfl (V.as (d := I 1) rfl rfl) ?_
              refine RW.nil ?_
              refine CW.le [(0, I i), (1, .r (sl 1 cI c)), (5, .obj b4 [I (((nodeNew i c).1).id), I (((nodeNew i c).1).term_), I (((nodeNew i c).1).vote), I (((nodeNew i c).1).role), I (((nodeNew i c).1).lead), .w (sl 1 cI (((nodeNew i c).1).conf)) (g3 0 5), I ((((nodeNew i c).1).log).start), I ((((nodeNew i c).1).log).startTerm), .w (sl 3 Entry.c ((((nodeNew i c).1).log).entries)) (g3 0 8), I (((nodeNew i c).1).commit), I (((nodeNew i c).1).clock), I (((nodeNew i c).1).limit), .w (sl 1 cI (((nodeNew i c).1).votes)) (g3 0 12), .w (sl 4 Peer.c (((nodeNew i c).1).peers)) (g3 0 13)]), (6, Bo ((nodeNew i c).2)), (8, .obj b7 [I (((mkVNode ((nodeNew i c).1) 1).1).id), I (((mkVNode ((nodeNew i c).1) 1).1).term_), I (((mkVNode ((nodeNew i c).1) 1).1).vote), I (((mkVNode ((nodeNew i c).1) 1).1).role), I (((mkVNode ((nodeNew i c).1) 1).1).lead), .w (sl 1 cI (((mkVNode ((nodeNew i c).1) 1).1).conf)) (g6 0 5), I ((((mkVNode ((nodeNew i c).1) 1).1).log).start), I ((((mkVNode ((nodeNew i c).1) 1).1).log).startTerm), .w (sl 3 Entry.c ((((mkVNode ((nodeNew i c).1) 1).1).log).entries)) (g6 0 8), I (((mkVNode ((nodeNew i c).1) 1).1).commit), I (((mkVNode ((nodeNew i c).1) 1).1).clock), I (((mkVNode ((nodeNew i c).1) 1).1).limit), .w (sl 1 cI (((mkVNode ((nodeNew i c).1) 1).1).votes)) (g6 0 12), .w (sl 4 Peer.c (((mkVNode ((nodeNew i c).1) 1).1).peers)) (g6 0 13)]), (11, I ((mkVNode ((nodeNew i c).1) 1).2)), (12, I 1)] rfl (Le.c rfl <| Le.c rfl <| Le.c rfl <| Le.c rfl <| Le.c rfl <| Le.c rfl <| Le.c rfl <| Le.e) ?_
              refine CW.seq ?_
              refine CW.region ?_
              refine RW.v rfl (V.loadAgg rfl rfl rfl rfl rfl (Nat.le_of_ble_eq_true rfl)) ?_
              refine RW.v rfl (V.mv (d := I 1) rfl rfl) ?_
              refine RW.callOwn rfl (laws_heldNode_fn ((mkVNode ((nodeNew i c).1) 1).1) 1 (by decide)) rfl (.cons (.agg (.cons (.r .r) (.cons (.r .r) (.cons (.r .r) (.cons (.r .r) (.cons (.r .r) (.cons (.r (.alo (k := none) (i := 8) (j := 5) (sz := 1) (V := (g6 0 5)) rfl rfl rfl nofun)) (.cons (.r .r) (.cons (.r .r) (.cons (.r (.alo (k := none) (i := 8) (j := 8) (sz := 3) (V := (g6 0 8)) rfl rfl rfl nofun)) (.cons (.r .r) (.cons (.r .r) (.cons (.r .r) (.cons (.r (.alo (k := none) (i := 8) (j := 12) (sz := 1) (V := (g6 0 12)) rfl rfl rfl nofun)) (.cons (.r (.alo (k := none) (i := 8) (j := 13) (sz := 4) (V := (g6 0 13)) rfl rfl rfl nofun)) (.nil)))))))))))))))) (.cons (.one (.r .r)) (.nil))) rfl fun g26 => ?_
              refine RW.v rfl (V.as (d := I ((hdVNode ((mkVNode ((nodeNew i c).1) 1).1) 1).getD (-1))) rfl rfl) ?_
              refine RW.nil ?_
              refine CW.le [(0, I i), (1, .r (sl 1 cI c)), (5, .obj b4 [I (((nodeNew i c).1).id), I (((nodeNew i c).1).term_), I (((nodeNew i c).1).vote), I (((nodeNew i c).1).role), I (((nodeNew i c).1).lead), .w (sl 1 cI (((nodeNew i c).1).conf)) (g3 0 5), I ((((nodeNew i c).1).log).start), I ((((nodeNew i c).1).log).startTerm), .w (sl 3 Entry.c ((((nodeNew i c).1).log).entries)) (g3 0 8), I (((nodeNew i c).1).commit), I (((nodeNew i c).1).clock), I (((nodeNew i c).1).limit), .w (sl 1 cI (((nodeNew i c).1).votes)) (g3 0 12), .w (sl 4 Peer.c (((nodeNew i c).1).peers)) (g3 0 13)]), (6, Bo ((nodeNew i c).2)), (8, .obj b7 [I (((mkVNode ((nodeNew i c).1) 1).1).id), I (((mkVNode ((nodeNew i c).1) 1).1).term_), I (((mkVNode ((nodeNew i c).1) 1).1).vote), I (((mkVNode ((nodeNew i c).1) 1).1).role), I (((mkVNode ((nodeNew i c).1) 1).1).lead), .w (sl 1 cI (((mkVNode ((nodeNew i c).1) 1).1).conf)) (g6 0 5), I ((((mkVNode ((nodeNew i c).1) 1).1).log).start), I ((((mkVNode ((nodeNew i c).1) 1).1).log).startTerm), .w (sl 3 Entry.c ((((mkVNode ((nodeNew i c).1) 1).1).log).entries)) (g6 0 8), I (((mkVNode ((nodeNew i c).1) 1).1).commit), I (((mkVNode ((nodeNew i c).1) 1).1).clock), I (((mkVNode ((nodeNew i c).1) 1).1).limit), .w (sl 1 cI (((mkVNode ((nodeNew i c).1) 1).1).votes)) (g6 0 12), .w (sl 4 Peer.c (((mkVNode ((nodeNew i c).1) 1).1).peers)) (g6 0 13)]), (11, I ((mkVNode ((nodeNew i c).1) 1).2)), (12, I ((hdVNode ((mkVNode ((nodeNew i c).1) 1).1) 1).getD (-1)))] rfl (Le.c rfl <| Le.c rfl <| Le.c rfl <| Le.c rfl <| Le.c rfl <| Le.c rfl <| Le.c rfl <| Le.e) ?_
              refine CW.seq ?_
              refine CW.seq ?_
              refine CW.region ?_
              refine RW.v rfl (V.mv (d := I ((hdVNode ((mkVNode ((nodeNew i c).1) 1).1) 1).getD (-1))) rfl rfl) ?_
              refine RW.v rfl (V.cmpInt rfl rfl rfl rfl) ?_
              refine RW.nil ?_
              refine CW.le [(0, I i), (1, .r (sl 1 cI c)), (5, .obj b4 [I (((nodeNew i c).1).id), I (((nodeNew i c).1).term_), I (((nodeNew i c).1).vote), I (((nodeNew i c).1).role), I (((nodeNew i c).1).lead), .w (sl 1 cI (((nodeNew i c).1).conf)) (g3 0 5), I ((((nodeNew i c).1).log).start), I ((((nodeNew i c).1).log).startTerm), .w (sl 3 Entry.c ((((nodeNew i c).1).log).entries)) (g3 0 8), I (((nodeNew i c).1).commit), I (((nodeNew i c).1).clock), I (((nodeNew i c).1).limit), .w (sl 1 cI (((nodeNew i c).1).votes)) (g3 0 12), .w (sl 4 Peer.c (((nodeNew i c).1).peers)) (g3 0 13)]), (6, Bo ((nodeNew i c).2)), (8, .obj b7 [I (((mkVNode ((nodeNew i c).1) 1).1).id), I (((mkVNode ((nodeNew i c).1) 1).1).term_), I (((mkVNode ((nodeNew i c).1) 1).1).vote), I (((mkVNode ((nodeNew i c).1) 1).1).role), I (((mkVNode ((nodeNew i c).1) 1).1).lead), .w (sl 1 cI (((mkVNode ((nodeNew i c).1) 1).1).conf)) (g6 0 5), I ((((mkVNode ((nodeNew i c).1) 1).1).log).start), I ((((mkVNode ((nodeNew i c).1) 1).1).log).startTerm), .w (sl 3 Entry.c ((((mkVNode ((nodeNew i c).1) 1).1).log).entries)) (g6 0 8), I (((mkVNode ((nodeNew i c).1) 1).1).commit), I (((mkVNode ((nodeNew i c).1) 1).1).clock), I (((mkVNode ((nodeNew i c).1) 1).1).limit), .w (sl 1 cI (((mkVNode ((nodeNew i c).1) 1).1).votes)) (g6 0 12), .w (sl 4 Peer.c (((mkVNode ((nodeNew i c).1) 1).1).peers)) (g6 0 13)]), (11, I ((mkVNode ((nodeNew i c).1) 1).2)), (12, I ((hdVNode ((mkVNode ((nodeNew i c).1) 1).1) 1).getD (-1))), (70, Bo (decide (((hdVNode ((mkVNode ((nodeNew i c).1) 1).1) 1).getD (-1)) < 0)))] rfl (Le.c rfl <| Le.c rfl <| Le.c rfl <| Le.c rfl <| Le.c rfl <| Le.c rfl <| Le.c rfl <| Le.c rfl <| Le.e) ?_
              refine CW.cond rfl (fun h27 => ?_) (fun h27 => ?_)
              · skip
                refine CW.seq ?_
                refine CW.region ?_
                refine RW.v rfl (V.as (d := Bo false) rfl rfl) ?_
                refine RW.nil ?_
                refine CW.le [(4, Bo false)] rfl (Le.c rfl <| Le.e) ?_
                refine CW.ret ?_
                exact Post.one (RV.b rfl (by first | rfl | (exfalso; have p1 := mkIS_pos hlc; have p2 := (mkVNode_facts (okNodeNew (id := i) hlc)).1; have p3 := (mkVNode_facts (okNodeNew (id := i) hlc)).2; simp_all [eqNode_refl, eqS_refl eqI_refl]; done) | (exfalso; have p1 := mkIS_pos hlc; have p2 := (mkVNode_facts (okNodeNew (id := i) hlc)).1; have p3 := (mkVNode_facts (okNodeNew (id := i) hlc)).2; simp_all [eqNode_refl, eqS_refl eqI_refl]; omega))) (AOs.r (AOs.r AOs.e))
              · skip
                refine CW.skip ?_
                refine CW.le [(0, I i), (1, .r (sl 1 cI c)), (5, .obj b4 [I (((nodeNew i c).1).id), I (((nodeNew i c).1).term_), I (((nodeNew i c).1).vote), I (((nodeNew i c).1).role), I (((nodeNew i c).1).lead), .w (sl 1 cI (((nodeNew i c).1).conf)) (g3 0 5), I ((((nodeNew i c).1).log).start), I ((((nodeNew i c).1).log).startTerm), .w (sl 3 Entry.c ((((nodeNew i c).1).log).entries)) (g3 0 8), I (((nodeNew i c).1).commit), I (((nodeNew i c).1).clock), I (((nodeNew i c).1).limit), .w (sl 1 cI (((nodeNew i c).1).votes)) (g3 0 12), .w (sl 4 Peer.c (((nodeNew i c).1).peers)) (g3 0 13)]), (6, Bo ((nodeNew i c).2)), (8, .obj b7 [I (((mkVNode ((nodeNew i c).1) 1).1).id), I (((mkVNode ((nodeNew i c).1) 1).1).term_), I (((mkVNode ((nodeNew i c).1) 1).1).vote), I (((mkVNode ((nodeNew i c).1) 1).1).role), I (((mkVNode ((nodeNew i c).1) 1).1).lead), .w (sl 1 cI (((mkVNode ((nodeNew i c).1) 1).1).conf)) (g6 0 5), I ((((mkVNode ((nodeNew i c).1) 1).1).log).start), I ((((mkVNode ((nodeNew i c).1) 1).1).log).startTerm), .w (sl 3 Entry.c ((((mkVNode ((nodeNew i c).1) 1).1).log).entries)) (g6 0 8), I (((mkVNode ((nodeNew i c).1) 1).1).commit), I (((mkVNode ((nodeNew i c).1) 1).1).clock), I (((mkVNode ((nodeNew i c).1) 1).1).limit), .w (sl 1 cI (((mkVNode ((nodeNew i c).1) 1).1).votes)) (g6 0 12), .w (sl 4 Peer.c (((mkVNode ((nodeNew i c).1) 1).1).peers)) (g6 0 13)]), (11, I ((mkVNode ((nodeNew i c).1) 1).2)), (12, I ((hdVNode ((mkVNode ((nodeNew i c).1) 1).1) 1).getD (-1)))] rfl (Le.c rfl <| Le.c rfl <| Le.c rfl <| Le.c rfl <| Le.c rfl <| Le.c rfl <| Le.c rfl <| Le.e) ?_
                refine CW.seq ?_
                refine CW.seq ?_
                refine CW.region ?_
                refine RW.v rfl (V.mv (d := I ((hdVNode ((mkVNode ((nodeNew i c).1) 1).1) 1).getD (-1))) rfl rfl) ?_
                refine RW.v rfl (V.mv (d := I ((mkVNode ((nodeNew i c).1) 1).2)) rfl rfl) ?_
                refine RW.v rfl (V.cmpInt rfl rfl rfl rfl) ?_
                refine RW.nil ?_
                refine CW.le [(0, I i), (1, .r (sl 1 cI c)), (5, .obj b4 [I (((nodeNew i c).1).id), I (((nodeNew i c).1).term_), I (((nodeNew i c).1).vote), I (((nodeNew i c).1).role), I (((nodeNew i c).1).lead), .w (sl 1 cI (((nodeNew i c).1).conf)) (g3 0 5), I ((((nodeNew i c).1).log).start), I ((((nodeNew i c).1).log).startTerm), .w (sl 3 Entry.c ((((nodeNew i c).1).log).entries)) (g3 0 8), I (((nodeNew i c).1).commit), I (((nodeNew i c).1).clock), I (((nodeNew i c).1).limit), .w (sl 1 cI (((nodeNew i c).1).votes)) (g3 0 12), .w (sl 4 Peer.c (((nodeNew i c).1).peers)) (g3 0 13)]), (6, Bo ((nodeNew i c).2)), (8, .obj b7 [I (((mkVNode ((nodeNew i c).1) 1).1).id), I (((mkVNode ((nodeNew i c).1) 1).1).term_), I (((mkVNode ((nodeNew i c).1) 1).1).vote), I (((mkVNode ((nodeNew i c).1) 1).1).role), I (((mkVNode ((nodeNew i c).1) 1).1).lead), .w (sl 1 cI (((mkVNode ((nodeNew i c).1) 1).1).conf)) (g6 0 5), I ((((mkVNode ((nodeNew i c).1) 1).1).log).start), I ((((mkVNode ((nodeNew i c).1) 1).1).log).startTerm), .w (sl 3 Entry.c ((((mkVNode ((nodeNew i c).1) 1).1).log).entries)) (g6 0 8), I (((mkVNode ((nodeNew i c).1) 1).1).commit), I (((mkVNode ((nodeNew i c).1) 1).1).clock), I (((mkVNode ((nodeNew i c).1) 1).1).limit), .w (sl 1 cI (((mkVNode ((nodeNew i c).1) 1).1).votes)) (g6 0 12), .w (sl 4 Peer.c (((mkVNode ((nodeNew i c).1) 1).1).peers)) (g6 0 13)]), (11, I ((mkVNode ((nodeNew i c).1) 1).2)), (73, Bo (((hdVNode ((mkVNode ((nodeNew i c).1) 1).1) 1).getD (-1)) != ((mkVNode ((nodeNew i c).1) 1).2)))] rfl (Le.c rfl <| Le.c rfl <| Le.c rfl <| Le.c rfl <| Le.c rfl <| Le.c rfl <| Le.c rfl <| Le.e) ?_
                refine CW.cond rfl (fun h28 => ?_) (fun h28 => ?_)
                · skip
                  refine CW.seq ?_
                  refine CW.region ?_
                  refine RW.v rfl (V.as (d := Bo false) rfl rfl) ?_
                  refine RW.nil ?_
                  refine CW.le [(4, Bo false)] rfl (Le.c rfl <| Le.e) ?_
                  refine CW.ret ?_
                  exact Post.one (RV.b rfl (by first | rfl | (exfalso; have p1 := mkIS_pos hlc; have p2 := (mkVNode_facts (okNodeNew (id := i) hlc)).1; have p3 := (mkVNode_facts (okNodeNew (id := i) hlc)).2; simp_all [eqNode_refl, eqS_refl eqI_refl]; done) | (exfalso; have p1 := mkIS_pos hlc; have p2 := (mkVNode_facts (okNodeNew (id := i) hlc)).1; have p3 := (mkVNode_facts (okNodeNew (id := i) hlc)).2; simp_all [eqNode_refl, eqS_refl eqI_refl]; omega))) (AOs.r (AOs.r AOs.e))
                · skip
                  refine CW.skip ?_
                  refine CW.le [(0, I i), (1, .r (sl 1 cI c)), (5, .obj b4 [I (((nodeNew i c).1).id), I (((nodeNew i c).1).term_), I (((nodeNew i c).1).vote), I (((nodeNew i c).1).role), I (((nodeNew i c).1).lead), .w (sl 1 cI (((nodeNew i c).1).conf)) (g3 0 5), I ((((nodeNew i c).1).log).start), I ((((nodeNew i c).1).log).startTerm), .w (sl 3 Entry.c ((((nodeNew i c).1).log).entries)) (g3 0 8), I (((nodeNew i c).1).commit), I (((nodeNew i c).1).clock), I (((nodeNew i c).1).limit), .w (sl 1 cI (((nodeNew i c).1).votes)) (g3 0 12), .w (sl 4 Peer.c (((nodeNew i c).1).peers)) (g3 0 13)]), (6, Bo ((nodeNew i c).2)), (8, .obj b7 [I (((mkVNode ((nodeNew i c).1) 1).1).id), I (((mkVNode ((nodeNew i c).1) 1).1).term_), I (((mkVNode ((nodeNew i c).1) 1).1).vote), I (((mkVNode ((nodeNew i c).1) 1).1).role), I (((mkVNode ((nodeNew i c).1) 1).1).lead), .w (sl 1 cI (((mkVNode ((nodeNew i c).1) 1).1).conf)) (g6 0 5), I ((((mkVNode ((nodeNew i c).1) 1).1).log).start), I ((((mkVNode ((nodeNew i c).1) 1).1).log).startTerm), .w (sl 3 Entry.c ((((mkVNode ((nodeNew i c).1) 1).1).log).entries)) (g6 0 8), I (((mkVNode ((nodeNew i c).1) 1).1).commit), I (((mkVNode ((nodeNew i c).1) 1).1).clock), I (((mkVNode ((nodeNew i c).1) 1).1).limit), .w (sl 1 cI (((mkVNode ((nodeNew i c).1) 1).1).votes)) (g6 0 12), .w (sl 4 Peer.c (((mkVNode ((nodeNew i c).1) 1).1).peers)) (g6 0 13)]), (11, I ((mkVNode ((nodeNew i c).1) 1).2))] rfl (Le.c rfl <| Le.c rfl <| Le.c rfl <| Le.c rfl <| Le.c rfl <| Le.c rfl <| Le.e) ?_
                  refine CW.seq ?_
                  refine CW.region ?_
                  refine RW.v rfl (V.mv (d := I i) rfl rfl) ?_
                  refine RW.v rfl (V.mv (d := .r (sl 1 cI c)) rfl rfl) ?_
                  refine RW.call rfl (laws_toIntS_fn c hlc) rfl (.cons (.one (.r .r)) (.nil)) fun g29 => ?_
                  refine RW.callOwn rfl (impl_NodeNew_fn i c hlc) rfl (.cons (.one (.r .r)) (.cons (.one (.r (.al (k := none) (i := 77) (sz := 1) (V := (g29 0 0)) rfl rfl nofun))) (.nil))) rfl fun g30 => ?_
                  refine RW.moveMove rfl rfl rfl (by decide) (Nat.le_of_ble_eq_true rfl) (Nat.le_of_ble_eq_true rfl) ?_
                  refine RW.extract (d := .agg [I (((nodeNew i c).1).id), I (((nodeNew i c).1).term_), I (((nodeNew i c).1).vote), I (((nodeNew i c).1).role), I (((nodeNew i c).1).lead), .w (sl 1 cI (((nodeNew i c).1).conf)) (g30 0 5), I ((((nodeNew i c).1).log).start), I ((((nodeNew i c).1).log).startTerm), .w (sl 3 Entry.c ((((nodeNew i c).1).log).entries)) (g30 0 8), I (((nodeNew i c).1).commit), I (((nodeNew i c).1).clock), I (((nodeNew i c).1).limit), .w (sl 1 cI (((nodeNew i c).1).votes)) (g30 0 12), .w (sl 4 Peer.c (((nodeNew i c).1).peers)) (g30 0 13)]) rfl rfl rfl (by decide) (Nat.le_of_ble_eq_true rfl) rfl rfl ?_
                  refine RW.extract (d := Bo ((nodeNew i c).2)) rfl rfl rfl (by decide) (Nat.le_of_ble_eq_true rfl) rfl rfl ?_
                  refine RW.alloc (ds := [I 0, I 0, I 0, I 0, I 0, .r (.v (.slice none 0 0)), I 0, I 0, .r (.v (.slice none 0 0)), I 0, I 0, I 0, .r (.v (.slice none 0 0)), .r (.v (.slice none 0 0))]) rfl rfl rfl rfl fun b31 => ?_
                  refine RW.storeAgg (es := [I (((nodeNew i c).1).id), I (((nodeNew i c).1).term_), I (((nodeNew i c).1).vote), I (((nodeNew i c).1).role), I (((nodeNew i c).1).lead), .al 79 (some 5) 1 ((((nodeNew i c).1).conf).length) (g30 0 5) 0, I ((((nodeNew i c).1).log).start), I ((((nodeNew i c).1).log).startTerm), .al 79 (some 8) 3 (((((nodeNew i c).1).log).entries).length) (g30 0 8) 0, I (((nodeNew i c).1).commit), I (((nodeNew i c).1).clock), I (((nodeNew i c).1).limit), .al 79 (some 12) 1 ((((nodeNew i c).1).votes).length) (g30 0 12) 0, .al 79 (some 13) 4 ((((nodeNew i c).1).peers).length) (g30 0 13) 0]) rfl rfl rfl rfl rfl rfl rfl rfl (Nat.le_of_ble_eq_true rfl) rfl ?_
                  refine RW.le [(5, .obj b4 [I (((nodeNew i c).1).id), I (((nodeNew i c).1).term_), I (((nodeNew i c).1).vote), I (((nodeNew i c).1).role), I (((nodeNew i c).1).lead), .w (sl 1 cI (((nodeNew i c).1).conf)) (g3 0 5), I ((((nodeNew i c).1).log).start), I ((((nodeNew i c).1).log).startTerm), .w (sl 3 Entry.c ((((nodeNew i c).1).log).entries)) (g3 0 8), I (((nodeNew i c).1).commit), I (((nodeNew i c).1).clock), I (((nodeNew i c).1).limit), .w (sl 1 cI (((nodeNew i c).1).votes)) (g3 0 12), .w (sl 4 Peer.c (((nodeNew i c).1).peers)) (g3 0 13)]), (6, Bo ((nodeNew i c).2)), (8, .obj b7 [I (((mkVNode ((nodeNew i c).1) 1).1).id), I (((mkVNode ((nodeNew i c).1) 1).1).term_), I (((mkVNode ((nodeNew i c).1) 1).1).vote), I (((mkVNode ((nodeNew i c).1) 1).1).role), I (((mkVNode ((nodeNew i c).1) 1).1).lead), .w (sl 1 cI (((mkVNode ((nodeNew i c).1) 1).1).conf)) (g6 0 5), I ((((mkVNode ((nodeNew i c).1) 1).1).log).start), I ((((mkVNode ((nodeNew i c).1) 1).1).log).startTerm), .w (sl 3 Entry.c ((((mkVNode ((nodeNew i c).1) 1).1).log).entries)) (g6 0 8), I (((mkVNode ((nodeNew i c).1) 1).1).commit), I (((mkVNode ((nodeNew i c).1) 1).1).clock), I (((mkVNode ((nodeNew i c).1) 1).1).limit), .w (sl 1 cI (((mkVNode ((nodeNew i c).1) 1).1).votes)) (g6 0 12), .w (sl 4 Peer.c (((mkVNode ((nodeNew i c).1) 1).1).peers)) (g6 0 13)]), (11, I ((mkVNode ((nodeNew i c).1) 1).2)), (13, .obj b31 [I (((nodeNew i c).1).id), I (((nodeNew i c).1).term_), I (((nodeNew i c).1).vote), I (((nodeNew i c).1).role), I (((nodeNew i c).1).lead), .al 79 (some 5) 1 ((((nodeNew i c).1).conf).length) (g30 0 5) 0, I ((((nodeNew i c).1).log).start), I ((((nodeNew i c).1).log).startTerm), .al 79 (some 8) 3 (((((nodeNew i c).1).log).entries).length) (g30 0 8) 0, I (((nodeNew i c).1).commit), I (((nodeNew i c).1).clock), I (((nodeNew i c).1).limit), .al 79 (some 12) 1 ((((nodeNew i c).1).votes).length) (g30 0 12) 0, .al 79 (some 13) 4 ((((nodeNew i c).1).peers).length) (g30 0 13) 0]), (79, .agg [I (((nodeNew i c).1).id), I (((nodeNew i c).1).term_), I (((nodeNew i c).1).vote), I (((nodeNew i c).1).role), I (((nodeNew i c).1).lead), .w (sl 1 cI (((nodeNew i c).1).conf)) (g30 0 5), I ((((nodeNew i c).1).log).start), I ((((nodeNew i c).1).log).startTerm), .w (sl 3 Entry.c ((((nodeNew i c).1).log).entries)) (g30 0 8), I (((nodeNew i c).1).commit), I (((nodeNew i c).1).clock), I (((nodeNew i c).1).limit), .w (sl 1 cI (((nodeNew i c).1).votes)) (g30 0 12), .w (sl 4 Peer.c (((nodeNew i c).1).peers)) (g30 0 13)]), (80, Bo ((nodeNew i c).2))] rfl (Le.c rfl <| Le.c rfl <| Le.c rfl <| Le.c rfl <| Le.c rfl <| Le.c rfl <| Le.c rfl <| Le.e) ?_
                  refine RW.pullA (k := 13) (l := 79) (j := 5) 13 79 5 rfl rfl rfl (by decide) rfl rfl rfl rfl ?_
                  refine RW.le [(5, .obj b4 [I (((nodeNew i c).1).id), I (((nodeNew i c).1).term_), I (((nodeNew i c).1).vote), I (((nodeNew i c).1).role), I (((nodeNew i c).1).lead), .w (sl 1 cI (((nodeNew i c).1).conf)) (g3 0 5), I ((((nodeNew i c).1).log).start), I ((((nodeNew i c).1).log).startTerm), .w (sl 3 Entry.c ((((nodeNew i c).1).log).entries)) (g3 0 8), I (((nodeNew i c).1).commit), I (((nodeNew i c).1).clock), I (((nodeNew i c).1).limit), .w (sl 1 cI (((nodeNew i c).1).votes)) (g3 0 12), .w (sl 4 Peer.c (((nodeNew i c).1).peers)) (g3 0 13)]), (6, Bo ((nodeNew i c).2)), (8, .obj b7 [I (((mkVNode ((nodeNew i c).1) 1).1).id), I (((mkVNode ((nodeNew i c).1) 1).1).term_), I (((mkVNode ((nodeNew i c).1) 1).1).vote), I (((mkVNode ((nodeNew i c).1) 1).1).role), I (((mkVNode ((nodeNew i c).1) 1).1).lead), .w (sl 1 cI (((mkVNode ((nodeNew i c).1) 1).1).conf)) (g6 0 5), I ((((mkVNode ((nodeNew i c).1) 1).1).log).start), I ((((mkVNode ((nodeNew i c).1) 1).1).log).startTerm), .w (sl 3 Entry.c ((((mkVNode ((nodeNew i c).1) 1).1).log).entries)) (g6 0 8), I (((mkVNode ((nodeNew i c).1) 1).1).commit), I (((mkVNode ((nodeNew i c).1) 1).1).clock), I (((mkVNode ((nodeNew i c).1) 1).1).limit), .w (sl 1 cI (((mkVNode ((nodeNew i c).1) 1).1).votes)) (g6 0 12), .w (sl 4 Peer.c (((mkVNode ((nodeNew i c).1) 1).1).peers)) (g6 0 13)]), (11, I ((mkVNode ((nodeNew i c).1) 1).2)), (13, .obj b31 [I (((nodeNew i c).1).id), I (((nodeNew i c).1).term_), I (((nodeNew i c).1).vote), I (((nodeNew i c).1).role), I (((nodeNew i c).1).lead), .w (sl 1 cI (((nodeNew i c).1).conf)) (g30 0 5), I ((((nodeNew i c).1).log).start), I ((((nodeNew i c).1).log).startTerm), .al 79 (some 8) 3 (((((nodeNew i c).1).log).entries).length) (g30 0 8) 0, I (((nodeNew i c).1).commit), I (((nodeNew i c).1).clock), I (((nodeNew i c).1).limit), .al 79 (some 12) 1 ((((nodeNew i c).1).votes).length) (g30 0 12) 0, .al 79 (some 13) 4 ((((nodeNew i c).1).peers).length) (g30 0 13) 0]), (79, .agg [I (((nodeNew i c).1).id), I (((nodeNew i c).1).term_), I (((nodeNew i c).1).vote), I (((nodeNew i c).1).role), I (((nodeNew i c).1).lead), .u, I ((((nodeNew i c).1).log).start), I ((((nodeNew i c).1).log).startTerm), .w (sl 3 Entry.c ((((nodeNew i c).1).log).entries)) (g30 0 8), I (((nodeNew i c).1).commit), I (((nodeNew i c).1).clock), I (((nodeNew i c).1).limit), .w (sl 1 cI (((nodeNew i c).1).votes)) (g30 0 12), .w (sl 4 Peer.c (((nodeNew i c).1).peers)) (g30 0 13)]), (80, Bo ((nodeNew i c).2))] rfl (Le.c rfl <| Le.c rfl <| Le.c rfl <| Le.c rfl <| Le.c rfl <| Le.c rfl <| Le.c rfl <| Le.e) ?_
                  refine RW.pullA (k := 13) (l := 79) (j := 8) 13 79 8 rfl rfl rfl (by decide) rfl rfl rfl rfl ?_
                  refine RW.le [(5, .obj b4 [I (((nodeNew i c).1).id), I (((nodeNew i c).1).term_), I (((nodeNew i c).1).vote), I (((nodeNew i c).1).role), I (((nodeNew i c).1).lead), .w (sl 1 cI (((nodeNew i c).1).conf)) (g3 0 5), I ((((nodeNew i c).1).log).start), I ((((nodeNew i c).1).log).startTerm), .w (sl 3 Entry.c ((((nodeNew i c).1).log).entries)) (g3 0 8), I (((nodeNew i c).1).commit), I (((nodeNew i c).1).clock), I (((nodeNew i c).1).limit), .w (sl 1 cI (((nodeNew i c).1).votes)) (g3 0 12), .w (sl 4 Peer.c (((nodeNew i c).1).peers)) (g3 0 13)]), (6, Bo ((nodeNew i c).2)), (8, .obj b7 [I (((mkVNode ((nodeNew i c).1) 1).1).id), I (((mkVNode ((nodeNew i c).1) 1).1).term_), I (((mkVNode ((nodeNew i c).1) 1).1).vote), I (((mkVNode ((nodeNew i c).1) 1).1).role), I (((mkVNode ((nodeNew i c).1) 1).1).lead), .w (sl 1 cI (((mkVNode ((nodeNew i c).1) 1).1).conf)) (g6 0 5), I ((((mkVNode ((nodeNew i c).1) 1).1).log).start), I ((((mkVNode ((nodeNew i c).1) 1).1).log).startTerm), .w (sl 3 Entry.c ((((mkVNode ((nodeNew i c).1) 1).1).log).entries)) (g6 0 8), I (((mkVNode ((nodeNew i c).1) 1).1).commit), I (((mkVNode ((nodeNew i c).1) 1).1).clock), I (((mkVNode ((nodeNew i c).1) 1).1).limit), .w (sl 1 cI (((mkVNode ((nodeNew i c).1) 1).1).votes)) (g6 0 12), .w (sl 4 Peer.c (((mkVNode ((nodeNew i c).1) 1).1).peers)) (g6 0 13)]), (11, I ((mkVNode ((nodeNew i c).1) 1).2)), (13, .obj b31 [I (((nodeNew i c).1).id), I (((nodeNew i c).1).term_), I (((nodeNew i c).1).vote), I (((nodeNew i c).1).role), I (((nodeNew i c).1).lead), .w (sl 1 cI (((nodeNew i c).1).conf)) (g30 0 5), I ((((nodeNew i c).1).log).start), I ((((nodeNew i c).1).log).startTerm), .w (sl 3 Entry.c ((((nodeNew i c).1).log).entries)) (g30 0 8), I (((nodeNew i c).1).commit), I (((nodeNew i c).1).clock), I (((nodeNew i c).1).limit), .al 79 (some 12) 1 ((((nodeNew i c).1).votes).length) (g30 0 12) 0, .al 79 (some 13) 4 ((((nodeNew i c).1).peers).length) (g30 0 13) 0]), (79, .agg [I (((nodeNew i c).1).id), I (((nodeNew i c).1).term_), I (((nodeNew i c).1).vote), I (((nodeNew i c).1).role), I (((nodeNew i c).1).lead), .u, I ((((nodeNew i c).1).log).start), I ((((nodeNew i c).1).log).startTerm), .u, I (((nodeNew i c).1).commit), I (((nodeNew i c).1).clock), I (((nodeNew i c).1).limit), .w (sl 1 cI (((nodeNew i c).1).votes)) (g30 0 12), .w (sl 4 Peer.c (((nodeNew i c).1).peers)) (g30 0 13)]), (80, Bo ((nodeNew i c).2))] rfl (Le.c rfl <| Le.c rfl <| Le.c rfl <| Le.c rfl <| Le.c rfl <| Le.c rfl <| Le.c rfl <| Le.e) ?_
                  refine RW.pullA (k := 13) (l := 79) (j := 12) 13 79 12 rfl rfl rfl (by decide) rfl rfl rfl rfl ?_
                  refine RW.le [(5, .obj b4 [I (((nodeNew i c).1).id), I (((nodeNew i c).1).term_), I (((nodeNew i c).1).vote), I (((nodeNew i c).1).role), I (((nodeNew i c).1).lead), .w (sl 1 cI (((nodeNew i c).1).conf)) (g3 0 5), I ((((nodeNew i c).1).log).start), I ((((nodeNew i c).1).log).startTerm), .w (sl 3 Entry.c ((((nodeNew i c).1).log).entries)) (g3 0 8), I (((nodeNew i c).1).commit), I (((nodeNew i c).1).clock), I (((nodeNew i c).1).limit), .w (sl 1 cI (((nodeNew i c).1).votes)) (g3 0 12), .w (sl 4 Peer.c (((nodeNew i c).1).peers)) (g3 0 13)]), (6, Bo ((nodeNew i c).2)), (8, .obj b7 [I (((mkVNode ((nodeNew i c).1) 1).1).id), I (((mkVNode ((nodeNew i c).1) 1).1).term_), I (((mkVNode ((nodeNew i c).1) 1).1).vote), I (((mkVNode ((nodeNew i c).1) 1).1).role), I (((mkVNode ((nodeNew i c).1) 1).1).lead), .w (sl 1 cI (((mkVNode ((nodeNew i c).1) 1).1).conf)) (g6 0 5), I ((((mkVNode ((nodeNew i c).1) 1).1).log).start), I ((((mkVNode ((nodeNew i c).1) 1).1).log).startTerm), .w (sl 3 Entry.c ((((mkVNode ((nodeNew i c).1) 1).1).log).entries)) (g6 0 8), I (((mkVNode ((nodeNew i c).1) 1).1).commit), I (((mkVNode ((nodeNew i c).1) 1).1).clock), I (((mkVNode ((nodeNew i c).1) 1).1).limit), .w (sl 1 cI (((mkVNode ((nodeNew i c).1) 1).1).votes)) (g6 0 12), .w (sl 4 Peer.c (((mkVNode ((nodeNew i c).1) 1).1).peers)) (g6 0 13)]), (11, I ((mkVNode ((nodeNew i c).1) 1).2)), (13, .obj b31 [I (((nodeNew i c).1).id), I (((nodeNew i c).1).term_), I (((nodeNew i c).1).vote), I (((nodeNew i c).1).role), I (((nodeNew i c).1).lead), .w (sl 1 cI (((nodeNew i c).1).conf)) (g30 0 5), I ((((nodeNew i c).1).log).start), I ((((nodeNew i c).1).log).startTerm), .w (sl 3 Entry.c ((((nodeNew i c).1).log).entries)) (g30 0 8), I (((nodeNew i c).1).commit), I (((nodeNew i c).1).clock), I (((nodeNew i c).1).limit), .w (sl 1 cI (((nodeNew i c).1).votes)) (g30 0 12), .al 79 (some 13) 4 ((((nodeNew i c).1).peers).length) (g30 0 13) 0]), (79, .agg [I (((nodeNew i c).1).id), I (((nodeNew i c).1).term_), I (((nodeNew i c).1).vote), I (((nodeNew i c).1).role), I (((nodeNew i c).1).lead), .u, I ((((nodeNew i c).1).log).start), I ((((nodeNew i c).1).log).startTerm), .u, I (((nodeNew i c).1).commit), I (((nodeNew i c).1).clock), I (((nodeNew i c).1).limit), .u, .w (sl 4 Peer.c (((nodeNew i c).1).peers)) (g30 0 13)]), (80, Bo ((nodeNew i c).2))] rfl (Le.c rfl <| Le.c rfl <| Le.c rfl <| Le.c rfl <| Le.c rfl <| Le.c rfl <| Le.c rfl <| Le.e) ?_
                  refine RW.pullA (k := 13) (l := 79) (j := 13) 13 79 13 rfl rfl rfl (by decide) rfl rfl rfl rfl ?_
                  refine RW.le [(5, .obj b4 [I (((nodeNew i c).1).id), I (((nodeNew i c).1).term_), I (((nodeNew i c).1).vote), I (((nodeNew i c).1).role), I (((nodeNew i c).1).lead), .w (sl 1 cI (((nodeNew i c).1).conf)) (g3 0 5), I ((((nodeNew i c).1).log).start), I ((((nodeNew i c).1).log).startTerm), .w (sl 3 Entry.c ((((nodeNew i c).1).log).entries)) (g3 0 8), I (((nodeNew i c).1).commit), I (((nodeNew i c).1).clock), I (((nodeNew i c).1).limit), .w (sl 1 cI (((nodeNew i c).1).votes)) (g3 0 12), .w (sl 4 Peer.c (((nodeNew i c).1).peers)) (g3 0 13)]), (6, Bo ((nodeNew i c).2)), (8, .obj b7 [I (((mkVNode ((nodeNew i c).1) 1).1).id), I (((mkVNode ((nodeNew i c).1) 1).1).term_), I (((mkVNode ((nodeNew i c).1) 1).1).vote), I (((mkVNode ((nodeNew i c).1) 1).1).role), I (((mkVNode ((nodeNew i c).1) 1).1).lead), .w (sl 1 cI (((mkVNode ((nodeNew i c).1) 1).1).conf)) (g6 0 5), I ((((mkVNode ((nodeNew i c).1) 1).1).log).start), I ((((mkVNode ((nodeNew i c).1) 1).1).log).startTerm), .w (sl 3 Entry.c ((((mkVNode ((nodeNew i c).1) 1).1).log).entries)) (g6 0 8), I (((mkVNode ((nodeNew i c).1) 1).1).commit), I (((mkVNode ((nodeNew i c).1) 1).1).clock), I (((mkVNode ((nodeNew i c).1) 1).1).limit), .w (sl 1 cI (((mkVNode ((nodeNew i c).1) 1).1).votes)) (g6 0 12), .w (sl 4 Peer.c (((mkVNode ((nodeNew i c).1) 1).1).peers)) (g6 0 13)]), (11, I ((mkVNode ((nodeNew i c).1) 1).2)), (13, .obj b31 [I (((nodeNew i c).1).id), I (((nodeNew i c).1).term_), I (((nodeNew i c).1).vote), I (((nodeNew i c).1).role), I (((nodeNew i c).1).lead), .w (sl 1 cI (((nodeNew i c).1).conf)) (g30 0 5), I ((((nodeNew i c).1).log).start), I ((((nodeNew i c).1).log).startTerm), .w (sl 3 Entry.c ((((nodeNew i c).1).log).entries)) (g30 0 8), I (((nodeNew i c).1).commit), I (((nodeNew i c).1).clock), I (((nodeNew i c).1).limit), .w (sl 1 cI (((nodeNew i c).1).votes)) (g30 0 12), .w (sl 4 Peer.c (((nodeNew i c).1).peers)) (g30 0 13)]), (80, Bo ((nodeNew i c).2))] rfl (Le.c rfl <| Le.c rfl <| Le.c rfl <| Le.c rfl <| Le.c rfl <| Le.c rfl <| Le.e) ?_
                  refine RW.v rfl (V.as (d := Bo ((nodeNew i c).2)) rfl rfl) ?_
                  refine RW.nil ?_
                  refine CW.le [(5, .obj b4 [I (((nodeNew i c).1).id), I (((nodeNew i c).1).term_), I (((nodeNew i c).1).vote), I (((nodeNew i c).1).role), I (((nodeNew i c).1).lead), .w (sl 1 cI (((nodeNew i c).1).conf)) (g3 0 5), I ((((nodeNew i c).1).log).start), I ((((nodeNew i c).1).log).startTerm), .w (sl 3 Entry.c ((((nodeNew i c).1).log).entries)) (g3 0 8), I (((nodeNew i c).1).commit), I (((nodeNew i c).1).clock), I (((nodeNew i c).1).limit), .w (sl 1 cI (((nodeNew i c).1).votes)) (g3 0 12), .w (sl 4 Peer.c (((nodeNew i c).1).peers)) (g3 0 13)]), (6, Bo ((nodeNew i c).2)), (8, .obj b7 [I (((mkVNode ((nodeNew i c).1) 1).1).id), I (((mkVNode ((nodeNew i c).1) 1).1).term_), I (((mkVNode ((nodeNew i c).1) 1).1).vote), I (((mkVNode ((nodeNew i c).1) 1).1).role), I (((mkVNode ((nodeNew i c).1) 1).1).lead), .w (sl 1 cI (((mkVNode ((nodeNew i c).1) 1).1).conf)) (g6 0 5), I ((((mkVNode ((nodeNew i c).1) 1).1).log).start), I ((((mkVNode ((nodeNew i c).1) 1).1).log).startTerm), .w (sl 3 Entry.c ((((mkVNode ((nodeNew i c).1) 1).1).log).entries)) (g6 0 8), I (((mkVNode ((nodeNew i c).1) 1).1).commit), I (((mkVNode ((nodeNew i c).1) 1).1).clock), I (((mkVNode ((nodeNew i c).1) 1).1).limit), .w (sl 1 cI (((mkVNode ((nodeNew i c).1) 1).1).votes)) (g6 0 12), .w (sl 4 Peer.c (((mkVNode ((nodeNew i c).1) 1).1).peers)) (g6 0 13)]), (11, I ((mkVNode ((nodeNew i c).1) 1).2)), (13, .obj b31 [I (((nodeNew i c).1).id), I (((nodeNew i c).1).term_), I (((nodeNew i c).1).vote), I (((nodeNew i c).1).role), I (((nodeNew i c).1).lead), .w (sl 1 cI (((nodeNew i c).1).conf)) (g30 0 5), I ((((nodeNew i c).1).log).start), I ((((nodeNew i c).1).log).startTerm), .w (sl 3 Entry.c ((((nodeNew i c).1).log).entries)) (g30 0 8), I (((nodeNew i c).1).commit), I (((nodeNew i c).1).clock), I (((nodeNew i c).1).limit), .w (sl 1 cI (((nodeNew i c).1).votes)) (g30 0 12), .w (sl 4 Peer.c (((nodeNew i c).1).peers)) (g30 0 13)]), (14, Bo ((nodeNew i c).2))] rfl (Le.c rfl <| Le.c rfl <| Le.c rfl <| Le.c rfl <| Le.c rfl <| Le.c rfl <| Le.e) ?_
                  refine CW.seq ?_
                  refine CW.seqJ 98 (fun (v32 : Bool) => [(8, .obj b7 [I (((mkVNode ((nodeNew i c).1) 1).1).id), I (((mkVNode ((nodeNew i c).1) 1).1).term_), I (((mkVNode ((nodeNew i c).1) 1).1).vote), I (((mkVNode ((nodeNew i c).1) 1).1).role), I (((mkVNode ((nodeNew i c).1) 1).1).lead), .w (sl 1 cI (((mkVNode ((nodeNew i c).1) 1).1).conf)) (g6 0 5), I ((((mkVNode ((nodeNew i c).1) 1).1).log).start), I ((((mkVNode ((nodeNew i c).1) 1).1).log).startTerm), .w (sl 3 Entry.c ((((mkVNode ((nodeNew i c).1) 1).1).log).entries)) (g6 0 8), I (((mkVNode ((nodeNew i c).1) 1).1).commit), I (((mkVNode ((nodeNew i c).1) 1).1).clock), I (((mkVNode ((nodeNew i c).1) 1).1).limit), .w (sl 1 cI (((mkVNode ((nodeNew i c).1) 1).1).votes)) (g6 0 12), .w (sl 4 Peer.c (((mkVNode ((nodeNew i c).1) 1).1).peers)) (g6 0 13)]), (11, I ((mkVNode ((nodeNew i c).1) 1).2)), (89, Bo v32)]) (fun v32 => v32 = ((!(eqNode ((nodeNew i c).1) ((nodeNew i c).1))) || (!(((nodeNew i c).2) == ((nodeNew i c).2))))) ?_ ?_
                  · refine CW.region ?_
                    refine RW.v rfl (V.loadAgg rfl rfl rfl rfl rfl (Nat.le_of_ble_eq_true rfl)) ?_
                    refine RW.v rfl (V.loadAgg rfl rfl rfl rfl rfl (Nat.le_of_ble_eq_true rfl)) ?_
                    refine RW.callOwn rfl (laws_eqNode_fn ((nodeNew i c).1) ((nodeNew i c).1)) rfl (.cons (.agg (.cons (.r .r) (.cons (.r .r) (.cons (.r .r) (.cons (.r .r) (.cons (.r .r) (.cons (.r (.alo (k := none) (i := 13) (j := 5) (sz := 1) (V := (g30 0 5)) rfl rfl rfl nofun)) (.cons (.r .r) (.cons (.r .r) (.cons (.r (.alo (k := none) (i := 13) (j := 8) (sz := 3) (V := (g30 0 8)) rfl rfl rfl nofun)) (.cons (.r .r) (.cons (.r .r) (.cons (.r .r) (.cons (.r (.alo (k := none) (i := 13) (j := 12) (sz := 1) (V := (g30 0 12)) rfl rfl rfl nofun)) (.cons (.r (.alo (k := none) (i := 13) (j := 13) (sz := 4) (V := (g30 0 13)) rfl rfl rfl nofun)) (.nil)))))))))))))))) (.cons (.agg (.cons (.r .r) (.cons (.r .r) (.cons (.r .r) (.cons (.r .r) (.cons (.r .r) (.cons (.r (.alo (k := none) (i := 5) (j := 5) (sz := 1) (V := (g3 0 5)) rfl rfl rfl nofun)) (.cons (.r .r) (.cons (.r .r) (.cons (.r (.alo (k := none) (i := 5) (j := 8) (sz := 3) (V := (g3 0 8)) rfl rfl rfl nofun)) (.cons (.r .r) (.cons (.r .r) (.cons (.r .r) (.cons (.r (.alo (k := none) (i := 5) (j := 12) (sz := 1) (V := (g3 0 12)) rfl rfl rfl nofun)) (.cons (.r (.alo (k := none) (i := 5) (j := 13) (sz := 4) (V := (g3 0 13)) rfl rfl rfl nofun)) (.nil)))))))))))))))) (.nil))) rfl fun g33 => ?_
                    refine RW.v rfl (V.not rfl rfl) ?_
                    refine RW.v rfl (V.mv (d := Bo (!(eqNode ((nodeNew i c).1) ((nodeNew i c).1)))) rfl rfl) ?_
                    refine RW.gv rfl rfl rfl rfl (fun h34 => V.mv (d := Bo ((nodeNew i c).2)) rfl rfl) (fun h34 => ?_) (fun h34 => ?_)
                    · skip
                      refine RW.gt rfl rfl rfl rfl (V.mv (d := Bo ((nodeNew i c).2)) rfl rfl) ?_
                      refine RW.gt rfl rfl rfl rfl (V.eqBool rfl rfl rfl (by kernel_rfl) (.inr ⟨rfl, rfl⟩)) ?_
                      refine RW.v rfl (V.pickF (d := Bo (!(((nodeNew i c).2) == ((nodeNew i c).2)))) rfl rfl rfl) ?_
                      refine RW.nil ?_
                      exact ⟨_, by first | rfl | (simp_all; done) | (simp_all; omega) | grind, rfl, Le.c rfl <| Le.c rfl <| Le.c rfl <| Le.e⟩
                    · skip
                      refine RW.guardF rfl rfl rfl rfl ?_
                      refine RW.guardF rfl rfl rfl rfl ?_
                      refine RW.v rfl (V.pickT (d := Bo true) rfl rfl rfl) ?_
                      refine RW.nil ?_
                      exact ⟨_, by first | rfl | (simp_all; done) | (simp_all; omega) | grind, rfl, Le.c rfl <| Le.c rfl <| Le.c rfl <| Le.e⟩
                  · intro v32 hv35
                    refine CW.cond rfl (fun h36 => ?_) (fun h36 => ?_)
                    · skip
                      refine CW.seq ?_
                      refine CW.region ?_
                      refine RW.v rfl (V.as (d := Bo false) rfl rfl) ?_
                      refine RW.nil ?_
                      refine CW.le [(4, Bo false)] rfl (Le.c rfl <| Le.e) ?_
                      refine CW.ret ?_
                      exact Post.one (RV.b rfl (by first | rfl | (exfalso; have p1 := mkIS_pos hlc; have p2 := (mkVNode_facts (okNodeNew (id := i) hlc)).1; have p3 := (mkVNode_facts (okNodeNew (id := i) hlc)).2; simp_all [eqNode_refl, eqS_refl eqI_refl]; done) | (exfalso; have p1 := mkIS_pos hlc; have p2 := (mkVNode_facts (okNodeNew (id := i) hlc)).1; have p3 := (mkVNode_facts (okNodeNew (id := i) hlc)).2; simp_all [eqNode_refl, eqS_refl eqI_refl]; omega))) (AOs.r (AOs.r AOs.e))
                    · skip
                      refine CW.skip ?_
                      refine CW.le [(8, .obj b7 [I (((mkVNode ((nodeNew i c).1) 1).1).id), I (((mkVNode ((nodeNew i c).1) 1).1).term_), I (((mkVNode ((nodeNew i c).1) 1).1).vote), I (((mkVNode ((nodeNew i c).1) 1).1).role), I (((mkVNode ((nodeNew i c).1) 1).1).lead), .w (sl 1 cI (((mkVNode ((nodeNew i c).1) 1).1).conf)) (g6 0 5), I ((((mkVNode ((nodeNew i c).1) 1).1).log).start), I ((((mkVNode ((nodeNew i c).1) 1).1).log).startTerm), .w (sl 3 Entry.c ((((mkVNode ((nodeNew i c).1) 1).1).log).entries)) (g6 0 8), I (((mkVNode ((nodeNew i c).1) 1).1).commit), I (((mkVNode ((nodeNew i c).1) 1).1).clock), I (((mkVNode ((nodeNew i c).1) 1).1).limit), .w (sl 1 cI (((mkVNode ((nodeNew i c).1) 1).1).votes)) (g6 0 12), .w (sl 4 Peer.c (((mkVNode ((nodeNew i c).1) 1).1).peers)) (g6 0 13)]), (11, I ((mkVNode ((nodeNew i c).1) 1).2))] rfl (Le.c rfl <| Le.c rfl <| Le.e) ?_
                      refine CW.seq ?_
                      refine CW.region ?_
                      refine RW.v rfl (V.as (d := I 1) rfl rfl) ?_
                      refine RW.nil ?_
                      refine CW.le [(8, .obj b7 [I (((mkVNode ((nodeNew i c).1) 1).1).id), I (((mkVNode ((nodeNew i c).1) 1).1).term_), I (((mkVNode ((nodeNew i c).1) 1).1).vote), I (((mkVNode ((nodeNew i c).1) 1).1).role), I (((mkVNode ((nodeNew i c).1) 1).1).lead), .w (sl 1 cI (((mkVNode ((nodeNew i c).1) 1).1).conf)) (g6 0 5), I ((((mkVNode ((nodeNew i c).1) 1).1).log).start), I ((((mkVNode ((nodeNew i c).1) 1).1).log).startTerm), .w (sl 3 Entry.c ((((mkVNode ((nodeNew i c).1) 1).1).log).entries)) (g6 0 8), I (((mkVNode ((nodeNew i c).1) 1).1).commit), I (((mkVNode ((nodeNew i c).1) 1).1).clock), I (((mkVNode ((nodeNew i c).1) 1).1).limit), .w (sl 1 cI (((mkVNode ((nodeNew i c).1) 1).1).votes)) (g6 0 12), .w (sl 4 Peer.c (((mkVNode ((nodeNew i c).1) 1).1).peers)) (g6 0 13)]), (11, I ((mkVNode ((nodeNew i c).1) 1).2)), (12, I 1)] rfl (Le.c rfl <| Le.c rfl <| Le.c rfl <| Le.e) ?_
                      refine CW.seq ?_
                      refine CW.region ?_
                      refine RW.v rfl (V.loadAgg rfl rfl rfl rfl rfl (Nat.le_of_ble_eq_true rfl)) ?_
                      refine RW.v rfl (V.mv (d := I 1) rfl rfl) ?_
                      refine RW.callOwn rfl (laws_heldNode_fn ((mkVNode ((nodeNew i c).1) 1).1) 1 (by decide)) rfl (.cons (.agg (.cons (.r .r) (.cons (.r .r) (.cons (.r .r) (.cons (.r .r) (.cons (.r .r) (.cons (.r (.alo (k := none) (i := 8) (j := 5) (sz := 1) (V := (g6 0 5)) rfl rfl rfl nofun)) (.cons (.r .r) (.cons (.r .r) (.cons (.r (.alo (k := none) (i := 8) (j := 8) (sz := 3) (V := (g6 0 8)) rfl rfl rfl nofun)) (.cons (.r .r) (.cons (.r .r) (.cons (.r .r) (.cons (.r (.alo (k := none) (i := 8) (j := 12) (sz := 1) (V := (g6 0 12)) rfl rfl rfl nofun)) (.cons (.r (.alo (k := none) (i := 8) (j := 13) (sz := 4) (V := (g6 0 13)) rfl rfl rfl nofun)) (.nil)))))))))))))))) (.cons (.one (.r .r)) (.nil))) rfl fun g37 => ?_
                      refine RW.v rfl (V.as (d := I ((hdVNode ((mkVNode ((nodeNew i c).1) 1).1) 1).getD (-1))) rfl rfl) ?_
                      refine RW.nil ?_
                      refine CW.le [(11, I ((mkVNode ((nodeNew i c).1) 1).2)), (12, I ((hdVNode ((mkVNode ((nodeNew i c).1) 1).1) 1).getD (-1)))] rfl (Le.c rfl <| Le.c rfl <| Le.e) ?_
                      refine CW.seq ?_
                      refine CW.seq ?_
                      refine CW.region ?_
                      refine RW.v rfl (V.mv (d := I ((hdVNode ((mkVNode ((nodeNew i c).1) 1).1) 1).getD (-1))) rfl rfl) ?_
                      refine RW.v rfl (V.cmpInt rfl rfl rfl rfl) ?_
                      refine RW.nil ?_
                      refine CW.le [(11, I ((mkVNode ((nodeNew i c).1) 1).2)), (12, I ((hdVNode ((mkVNode ((nodeNew i c).1) 1).1) 1).getD (-1))), (94, Bo (decide (((hdVNode ((mkVNode ((nodeNew i c).1) 1).1) 1).getD (-1)) < 0)))] rfl (Le.c rfl <| Le.c rfl <| Le.c rfl <| Le.e) ?_
                      refine CW.cond rfl (fun h38 => ?_) (fun h38 => ?_)
                      · skip
                        refine CW.seq ?_
                        refine CW.region ?_
                        refine RW.v rfl (V.as (d := Bo false) rfl rfl) ?_
                        refine RW.nil ?_
                        refine CW.le [(4, Bo false)] rfl (Le.c rfl <| Le.e) ?_
                        refine CW.ret ?_
                        exact Post.one (RV.b rfl (by first | rfl | (exfalso; have p1 := mkIS_pos hlc; have p2 := (mkVNode_facts (okNodeNew (id := i) hlc)).1; have p3 := (mkVNode_facts (okNodeNew (id := i) hlc)).2; simp_all [eqNode_refl, eqS_refl eqI_refl]; done) | (exfalso; have p1 := mkIS_pos hlc; have p2 := (mkVNode_facts (okNodeNew (id := i) hlc)).1; have p3 := (mkVNode_facts (okNodeNew (id := i) hlc)).2; simp_all [eqNode_refl, eqS_refl eqI_refl]; omega))) (AOs.r (AOs.r AOs.e))
                      · skip
                        refine CW.skip ?_
                        refine CW.le [(11, I ((mkVNode ((nodeNew i c).1) 1).2)), (12, I ((hdVNode ((mkVNode ((nodeNew i c).1) 1).1) 1).getD (-1)))] rfl (Le.c rfl <| Le.c rfl <| Le.e) ?_
                        refine CW.seq ?_
                        refine CW.seq ?_
                        refine CW.region ?_
                        refine RW.v rfl (V.mv (d := I ((hdVNode ((mkVNode ((nodeNew i c).1) 1).1) 1).getD (-1))) rfl rfl) ?_
                        refine RW.v rfl (V.mv (d := I ((mkVNode ((nodeNew i c).1) 1).2)) rfl rfl) ?_
                        refine RW.v rfl (V.cmpInt rfl rfl rfl rfl) ?_
                        refine RW.nil ?_
                        refine CW.le [(97, Bo (((hdVNode ((mkVNode ((nodeNew i c).1) 1).1) 1).getD (-1)) != ((mkVNode ((nodeNew i c).1) 1).2)))] rfl (Le.c rfl <| Le.e) ?_
                        refine CW.cond rfl (fun h39 => ?_) (fun h39 => ?_)
                        · skip
                          refine CW.seq ?_
                          refine CW.region ?_
                          refine RW.v rfl (V.as (d := Bo false) rfl rfl) ?_
                          refine RW.nil ?_
                          refine CW.le [(4, Bo false)] rfl (Le.c rfl <| Le.e) ?_
                          refine CW.ret ?_
                          exact Post.one (RV.b rfl (by first | rfl | (exfalso; have p1 := mkIS_pos hlc; have p2 := (mkVNode_facts (okNodeNew (id := i) hlc)).1; have p3 := (mkVNode_facts (okNodeNew (id := i) hlc)).2; simp_all [eqNode_refl, eqS_refl eqI_refl]; done) | (exfalso; have p1 := mkIS_pos hlc; have p2 := (mkVNode_facts (okNodeNew (id := i) hlc)).1; have p3 := (mkVNode_facts (okNodeNew (id := i) hlc)).2; simp_all [eqNode_refl, eqS_refl eqI_refl]; omega))) (AOs.r (AOs.r AOs.e))
                        · skip
                          refine CW.skip ?_
                          refine CW.le [] rfl (Le.e) ?_
                          refine CW.seq ?_
                          refine CW.region ?_
                          refine RW.v rfl (V.as (d := Bo true) rfl rfl) ?_
                          refine RW.nil ?_
                          refine CW.le [(4, Bo true)] rfl (Le.c rfl <| Le.e) ?_
                          refine CW.ret ?_
                          exact Post.one (RV.b rfl (by first | rfl | (exfalso; have p1 := mkIS_pos hlc; have p2 := (mkVNode_facts (okNodeNew (id := i) hlc)).1; have p3 := (mkVNode_facts (okNodeNew (id := i) hlc)).2; simp_all [eqNode_refl, eqS_refl eqI_refl]; done) | (exfalso; have p1 := mkIS_pos hlc; have p2 := (mkVNode_facts (okNodeNew (id := i) hlc)).1; have p3 := (mkVNode_facts (okNodeNew (id := i) hlc)).2; simp_all [eqNode_refl, eqS_refl eqI_refl]; omega))) (AOs.r (AOs.r AOs.e))
end Go.Proofs.Ytbiocicogminlaa.Y
