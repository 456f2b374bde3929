import Derived.Test.YtbiocicogminlaaWNodeOkB
namespace Go.Proofs.Ytbiocicogminlaa.Y
open Go Go.RowKit Go.Eng Go.Proofs
set_option maxHeartbeats 4000000 in
theorem laws_eqIntS_fn (a : List Int) (b : List Int) : Eng.Fn E.P 27 [.one (.r (sl 1 cI a)), .one (.r (sl 1 cI b))] (.one (.one (.w (.v (.bool (eqS eqI a b)))))) [.one (.r (sl 1 cI a)), .one (.r (sl 1 cI b))] := by
  refine Eng.Fn.intro (E := E) (rvs := [.tmp 4]) Try.func27 rfl rfl rfl (by simp [outSlots, moved, rvSlot, sl]) ?_
  intro B g bo
  refine CW.bound (x := .tmp 0) (n := a.length) (AsT.r) (fun hl0 => ?_)
  refine CW.bound (x := .tmp 1) (n := b.length) (AsT.r) (fun hl1 => ?_)
  refine CW.le [(0, .r (sl 1 cI a)), (1, .r (sl 1 cI b))] rfl (Le.c rfl <| Le.c rfl <| Le.e) ?_
  refine CW.seq ?_
  refine CW.region ?_
  refine RW.v rfl (V.as (d := Bo false) rfl rfl) ?_
  refine RW.nil ?_
  refine CW.le [(0, .r (sl 1 cI a)), (1, .r (sl 1 cI b))] rfl (Le.c rfl <| Le.c rfl <| Le.e) ?_
  refine CW.seq ?_
  refine CW.seq ?_
  refine CW.region ?_
  refine RW.v rfl (V.mv (d := .r (sl 1 cI a)) rfl rfl) ?_
  refine RW.v rfl (V.lenT (n := a.length) rfl rfl rfl .r) ?_
  refine RW.v rfl (V.mv (d := .r (sl 1 cI b)) rfl rfl) ?_
  refine RW.v rfl (V.lenT (n := b.length) rfl rfl rfl .r) ?_
  refine RW.v rfl (V.cmpInt rfl rfl rfl rfl) ?_
  refine RW.nil ?_
  refine CW.le [(0, .r (sl 1 cI a)), (1, .r (sl 1 cI b)), (10, Bo ((a.length : Int) != (b.length : Int)))] rfl (Le.c rfl <| Le.c rfl <| Le.c rfl <| Le.e) ?_
  refine CW.cond rfl (fun h1 => ?_) (fun h1 => ?_)
  · skip
    refine CW.seq ?_
    refine CW.region ?_
    refine RW.v rfl (V.as (d := Bo false) rfl rfl) ?_
    refine RW.nil ?_
    refine CW.le [(4, Bo false)] rfl (Le.c rfl <| Le.e) ?_
    refine CW.ret ?_
    exact Post.one (RV.b rfl (by first | (simp_all [eqS, eqI, eqStr, eqB]; done) | exact (eqS_ne (by simp_all; omega)).symm)) (AOs.r (AOs.r AOs.e))
  · skip
    refine CW.skip ?_
    refine CW.le [(0, .r (sl 1 cI a)), (1, .r (sl 1 cI b))] rfl (Le.c rfl <| Le.c rfl <| Le.e) ?_
    refine CW.seq ?_
    refine CW.seq ?_
    refine CW.region ?_
    refine RW.v rfl (V.as (d := I 0) rfl rfl) ?_
    refine RW.nil ?_
    refine CW.le [(0, .r (sl 1 cI a)), (1, .r (sl 1 cI b)), (5, I 0)] rfl (Le.c rfl <| Le.c rfl <| Le.c rfl <| Le.e) ?_
    refine CW.block ?_
    refine CW.loopI 26 (fun (i : Nat) => [(0, .r (sl 1 cI a)), (1, .r (sl 1 cI b)), (5, I (i : Int))]) (fun (i : Nat) => i ≤ a.length ∧ eqS eqI (a.drop i) (b.drop i) = eqS eqI a b) (fun (i : Nat) => a.length - i) 0 rfl (Le.c rfl <| Le.c rfl <| Le.c rfl <| Le.e) ⟨by omega, by simp⟩ ?_
    rintro i ⟨hb, hr⟩
    have hlen : a.length = b.length := by simp at h1; omega
    refine CW.seq ?_
    refine CW.seq ?_
    refine CW.region ?_
    refine RW.v rfl (V.mv (d := I (i : Int)) rfl rfl) ?_
    refine RW.v rfl (V.mv (d := .r (sl 1 cI a)) rfl rfl) ?_
    refine RW.v rfl (V.lenT (n := a.length) rfl rfl rfl .r) ?_
    refine RW.v rfl (V.cmpInt rfl rfl rfl rfl) ?_
    refine RW.nil ?_
    refine CW.le [(0, .r (sl 1 cI a)), (1, .r (sl 1 cI b)), (5, I (i : Int)), (14, Bo (decide ((i : Int) < (a.length : Int))))] rfl (Le.c rfl <| Le.c rfl <| Le.c rfl <| Le.c rfl <| Le.e) ?_
    refine CW.cond rfl (fun h2 => ?_) (fun h2 => ?_)
    · skip
      have hii : i < a.length := by have := h2; simp at this; first | exact this | omega | (simp; done) | (simp; omega)
      obtain ⟨ei, hei⟩ : ∃ e, a[i]? = some e := ⟨_, List.getElem?_eq_getElem hii⟩
      have hdi := drop_get hei
      have hib : i < b.length := by omega
      obtain ⟨eb, heb⟩ : ∃ e, b[i]? = some e := ⟨_, List.getElem?_eq_getElem hib⟩
      have hdb := drop_get heb
      refine CW.skip ?_
      refine CW.le [(0, .r (sl 1 cI a)), (1, .r (sl 1 cI b)), (5, I (i : Int))] rfl (Le.c rfl <| Le.c rfl <| Le.c rfl <| Le.e) ?_
      refine CW.seq ?_
      refine CW.block ?_
      refine CW.seq ?_
      refine CW.drawn (by kernel_rfl) ?_
      refine RQ.v rfl (V.mv (d := .r (sl 1 cI a)) rfl rfl) ?_
      refine RQ.v rfl (V.mv (d := I (i : Int)) rfl rfl) ?_
      refine RQ.v rfl (V.indexS rfl rfl rfl rfl rfl rfl cI.len hei) ?_
      refine RQ.v rfl (V.loadPrimR (t0 := .v (.int .i64 ei)) rfl rfl (.inl rfl) rfl rfl) ?_
      refine RQ.v rfl (V.mv (d := .r (sl 1 cI b)) rfl rfl) ?_
      refine RQ.v rfl (V.mv (d := I (i : Int)) rfl rfl) ?_
      refine RQ.v rfl (V.indexS rfl rfl rfl rfl rfl rfl cI.len heb) ?_
      refine RQ.v rfl (V.loadPrimR (t0 := .v (.int .i64 eb)) rfl rfl (.inl rfl) rfl rfl) ?_
      refine RQ.v rfl (V.cmpInt rfl rfl rfl rfl) ?_
      refine RQ.nil ?_
      refine CW.le [(0, .r (sl 1 cI a)), (1, .r (sl 1 cI b)), (5, I (i : Int)), (25, Bo (ei != eb))] rfl (Le.c rfl <| Le.c rfl <| Le.c rfl <| Le.c rfl <| Le.e) ?_
      refine CW.cond rfl (fun h3 => ?_) (fun h3 => ?_)
      · skip
        refine CW.seq ?_
        refine CW.region ?_
        refine RW.v rfl (V.as (d := Bo false) rfl rfl) ?_
        refine RW.nil ?_
        refine CW.le [(4, Bo false)] rfl (Le.c rfl <| Le.e) ?_
        refine CW.ret ?_
        exact Post.one (RV.b rfl (by first | (simp_all [eqS, eqI, eqStr, eqB]; done) | exact (eqS_ne (by simp_all; omega)).symm)) (AOs.r (AOs.r AOs.e))
      · skip
        refine CW.skip ?_
        refine CW.le [(0, .r (sl 1 cI a)), (1, .r (sl 1 cI b)), (5, I (i : Int))] rfl (Le.c rfl <| Le.c rfl <| Le.c rfl <| Le.e) ?_
        refine CW.region ?_
        refine RW.v rfl (V.mv (d := I (i : Int)) rfl rfl) ?_
        refine RW.v rfl (V.inc rfl rfl rfl hii hl0) ?_
        refine RW.v rfl (V.as (d := I ((i + 1 : Nat) : Int)) rfl rfl) ?_
        refine RW.nil ?_
        exact ⟨i + 1, by omega, ⟨by omega, by simp_all [eqS, eqI, eqStr, eqB]⟩, rfl, Le.c rfl <| Le.c rfl <| Le.c rfl <| Le.e⟩
    · skip
      have hii : a.length ≤ i := by have := h2; simp at this; first | exact this | omega | (simp; done) | (simp; omega)
      have hdi : a.drop i = [] := List.drop_eq_nil_of_le hii
      refine CW.exit ?_
      refine CW.le [] rfl (Le.e) ?_
      refine CW.seq ?_
      refine CW.region ?_
      refine RW.v rfl (V.as (d := Bo true) rfl rfl) ?_
      refine RW.nil ?_
      refine CW.le [(4, Bo true)] rfl (Le.c rfl <| Le.e) ?_
      refine CW.ret ?_
      exact Post.one (RV.b rfl (by rw [← hr, hdi, List.drop_eq_nil_of_le (show b.length ≤ i by omega)]; rfl)) (AOs.r (AOs.r AOs.e))
set_option maxHeartbeats 4000000 in
theorem laws_eqLog_fn (a : Log) (b : Log) : Eng.Fn E.P 73 [.agg ((Log.c a).map .r), .agg ((Log.c b).map .r)] (.one (.one (.w (.v (.bool (eqLog a b)))))) [.agg ((Log.c a).map .r), .agg ((Log.c b).map .r)] := by
  refine Eng.Fn.intro (E := E) (rvs := [.tmp 4]) Try.func73 rfl rfl rfl (by simp [outSlots, moved, rvSlot, sl]) ?_
  intro B g bo
  refine CW.le [(0, .agg ((Log.c a).map .r)), (1, .agg ((Log.c b).map .r))] rfl (Le.c rfl <| Le.c rfl <| Le.e) ?_
  refine CW.seq ?_
  refine CW.region ?_
  refine RW.box (ds := ((Log.c a).map .r)) rfl rfl rfl fun b1 => ?_
  refine RW.box (ds := ((Log.c b).map .r)) rfl rfl rfl fun b2 => ?_
  refine RW.v rfl (V.as (d := Bo false) rfl rfl) ?_
  refine RW.nil ?_
  refine CW.le [(2, .obj b1 ((Log.c a).map .r)), (3, .obj b2 ((Log.c b).map .r))] rfl (Le.c rfl <| Le.c rfl <| Le.e) ?_
  refine CW.seq ?_
  refine CW.seq ?_
  refine CW.region ?_
  refine RW.v rfl (V.field rfl rfl rfl rfl (by decide) rfl) ?_
  refine RW.v rfl (V.loadPrim (d := I a.start) rfl rfl (.inl rfl) rfl rfl rfl) ?_
  refine RW.v rfl (V.field rfl rfl rfl rfl (by decide) rfl) ?_
  refine RW.v rfl (V.loadPrim (d := I b.start) rfl rfl (.inl rfl) rfl rfl rfl) ?_
  refine RW.v rfl (V.cmpInt rfl rfl rfl rfl) ?_
  refine RW.nil ?_
  refine CW.le [(2, .obj b1 ((Log.c a).map .r)), (3, .obj b2 ((Log.c b).map .r)), (9, Bo (a.start != b.start))] rfl (Le.c rfl <| Le.c rfl <| Le.c rfl <| Le.e) ?_
  refine CW.cond rfl (fun h3 => ?_) (fun h3 => ?_)
  · skip
    refine CW.seq ?_
    refine CW.region ?_
    refine RW.v rfl (V.as (d := Bo false) rfl rfl) ?_
    refine RW.nil ?_
    refine CW.le [(4, Bo false)] rfl (Le.c rfl <| Le.e) ?_
    refine CW.ret ?_
    exact Post.one (RV.b rfl (by simp_all [eqLog])) (AOs.a rfl (AOs.a rfl AOs.e))
  · skip
    refine CW.skip ?_
    refine CW.le [(2, .obj b1 ((Log.c a).map .r)), (3, .obj b2 ((Log.c b).map .r))] rfl (Le.c rfl <| Le.c rfl <| Le.e) ?_
    refine CW.seq ?_
    refine CW.seq ?_
    refine CW.region ?_
    refine RW.v rfl (V.field rfl rfl rfl rfl (by decide) rfl) ?_
    refine RW.v rfl (V.loadPrim (d := I a.startTerm) rfl rfl (.inl rfl) rfl rfl rfl) ?_
    refine RW.v rfl (V.field rfl rfl rfl rfl (by decide) rfl) ?_
    refine RW.v rfl (V.loadPrim (d := I b.startTerm) rfl rfl (.inl rfl) rfl rfl rfl) ?_
    refine RW.v rfl (V.cmpInt rfl rfl rfl rfl) ?_
    refine RW.nil ?_
    refine CW.le [(2, .obj b1 ((Log.c a).map .r)), (3, .obj b2 ((Log.c b).map .r)), (14, Bo (a.startTerm != b.startTerm))] rfl (Le.c rfl <| Le.c rfl <| Le.c rfl <| Le.e) ?_
    refine CW.cond rfl (fun h4 => ?_) (fun h4 => ?_)
    · skip
      refine CW.seq ?_
      refine CW.region ?_
      refine RW.v rfl (V.as (d := Bo false) rfl rfl) ?_
      refine RW.nil ?_
      refine CW.le [(4, Bo false)] rfl (Le.c rfl <| Le.e) ?_
      refine CW.ret ?_
      exact Post.one (RV.b rfl (by simp_all [eqLog])) (AOs.a rfl (AOs.a rfl AOs.e))
    · skip
      refine CW.skip ?_
      refine CW.le [(2, .obj b1 ((Log.c a).map .r)), (3, .obj b2 ((Log.c b).map .r))] rfl (Le.c rfl <| Le.c rfl <| Le.e) ?_
      refine CW.seq ?_
      refine CW.seq ?_
      refine CW.region ?_
      refine RW.v rfl (V.field rfl rfl rfl rfl (by decide) rfl) ?_
      refine RW.v rfl (V.loadPrim (d := .r (sl 3 Entry.c a.entries)) rfl rfl (.inr ⟨_, rfl⟩) rfl rfl rfl) ?_
      refine RW.v rfl (V.field rfl rfl rfl rfl (by decide) rfl) ?_
      refine RW.v rfl (V.loadPrim (d := .r (sl 3 Entry.c b.entries)) rfl rfl (.inr ⟨_, rfl⟩) rfl rfl rfl) ?_
      refine RW.call rfl (laws_eqEntryS_fn a.entries b.entries) rfl (.cons (.one (.r .r)) (.cons (.one (.r .r)) (.nil))) fun g5 => ?_
      refine RW.v rfl (V.not rfl rfl) ?_
      refine RW.nil ?_
      refine CW.le [(20, Bo (!(eqS eqEntry a.entries b.entries)))] rfl (Le.c rfl <| Le.e) ?_
      refine CW.cond rfl (fun h6 => ?_) (fun h6 => ?_)
      · skip
        refine CW.seq ?_
        refine CW.region ?_
        refine RW.v rfl (V.as (d := Bo false) rfl rfl) ?_
        refine RW.nil ?_
        refine CW.le [(4, Bo false)] rfl (Le.c rfl <| Le.e) ?_
        refine CW.ret ?_
        exact Post.one (RV.b rfl (by simp_all [eqLog])) (AOs.a rfl (AOs.a rfl AOs.e))
      · skip
        refine CW.skip ?_
        refine CW.le [] rfl (Le.e) ?_
        refine CW.seq ?_
        refine CW.region ?_
        refine RW.v rfl (V.as (d := Bo true) rfl rfl) ?_
        refine RW.nil ?_
        refine CW.le [(4, Bo true)] rfl (Le.c rfl <| Le.e) ?_
        refine CW.ret ?_
        exact Post.one (RV.b rfl (by simp_all [eqLog])) (AOs.a rfl (AOs.a rfl AOs.e))
set_option maxHeartbeats 4000000 in
theorem laws_eqPeer_fn (a : Peer) (b : Peer) : Eng.Fn E.P 122 [.agg ((Peer.c a).map .r), .agg ((Peer.c b).map .r)] (.one (.one (.w (.v (.bool (eqPeer a b)))))) [.agg ((Peer.c a).map .r), .agg ((Peer.c b).map .r)] := by
  refine Eng.Fn.intro (E := E) (rvs := [.tmp 4]) Try.func122 rfl rfl rfl (by simp [outSlots, moved, rvSlot, sl]) ?_
  intro B g bo
  refine CW.le [(0, .agg ((Peer.c a).map .r)), (1, .agg ((Peer.c b).map .r))] rfl (Le.c rfl <| Le.c rfl <| Le.e) ?_
  refine CW.seq ?_
  refine CW.region ?_
  refine RW.box (ds := ((Peer.c a).map .r)) rfl rfl rfl fun b1 => ?_
  refine RW.box (ds := ((Peer.c b).map .r)) rfl rfl rfl fun b2 => ?_
  refine RW.v rfl (V.as (d := Bo false) rfl rfl) ?_
  refine RW.nil ?_
  refine CW.le [(2, .obj b1 ((Peer.c a).map .r)), (3, .obj b2 ((Peer.c b).map .r))] rfl (Le.c rfl <| Le.c rfl <| Le.e) ?_
  refine CW.seq ?_
  refine CW.seq ?_
  refine CW.region ?_
  refine RW.v rfl (V.field rfl rfl rfl rfl (by decide) rfl) ?_
  refine RW.v rfl (V.loadPrim (d := I a.id) rfl rfl (.inl rfl) rfl rfl rfl) ?_
  refine RW.v rfl (V.field rfl rfl rfl rfl (by decide) rfl) ?_
  refine RW.v rfl (V.loadPrim (d := I b.id) rfl rfl (.inl rfl) rfl rfl rfl) ?_
  refine RW.v rfl (V.cmpInt rfl rfl rfl rfl) ?_
  refine RW.nil ?_
  refine CW.le [(2, .obj b1 ((Peer.c a).map .r)), (3, .obj b2 ((Peer.c b).map .r)), (9, Bo (a.id != b.id))] rfl (Le.c rfl <| Le.c rfl <| Le.c rfl <| Le.e) ?_
  refine CW.cond rfl (fun h3 => ?_) (fun h3 => ?_)
  · skip
    refine CW.seq ?_
    refine CW.region ?_
    refine RW.v rfl (V.as (d := Bo false) rfl rfl) ?_
    refine RW.nil ?_
    refine CW.le [(4, Bo false)] rfl (Le.c rfl <| Le.e) ?_
    refine CW.ret ?_
    exact Post.one (RV.b rfl (by simp_all [eqPeer])) (AOs.a rfl (AOs.a rfl AOs.e))
  · skip
    refine CW.skip ?_
    refine CW.le [(2, .obj b1 ((Peer.c a).map .r)), (3, .obj b2 ((Peer.c b).map .r))] rfl (Le.c rfl <| Le.c rfl <| Le.e) ?_
    refine CW.seq ?_
    refine CW.seq ?_
    refine CW.region ?_
    refine RW.v rfl (V.field rfl rfl rfl rfl (by decide) rfl) ?_
    refine RW.v rfl (V.loadPrim (d := I a.next) rfl rfl (.inl rfl) rfl rfl rfl) ?_
    refine RW.v rfl (V.field rfl rfl rfl rfl (by decide) rfl) ?_
    refine RW.v rfl (V.loadPrim (d := I b.next) rfl rfl (.inl rfl) rfl rfl rfl) ?_
    refine RW.v rfl (V.cmpInt rfl rfl rfl rfl) ?_
    refine RW.nil ?_
    refine CW.le [(2, .obj b1 ((Peer.c a).map .r)), (3, .obj b2 ((Peer.c b).map .r)), (14, Bo (a.next != b.next))] rfl (Le.c rfl <| Le.c rfl <| Le.c rfl <| Le.e) ?_
    refine CW.cond rfl (fun h4 => ?_) (fun h4 => ?_)
    · skip
      refine CW.seq ?_
      refine CW.region ?_
      refine RW.v rfl (V.as (d := Bo false) rfl rfl) ?_
      refine RW.nil ?_
      refine CW.le [(4, Bo false)] rfl (Le.c rfl <| Le.e) ?_
      refine CW.ret ?_
      exact Post.one (RV.b rfl (by simp_all [eqPeer])) (AOs.a rfl (AOs.a rfl AOs.e))
    · skip
      refine CW.skip ?_
      refine CW.le [(2, .obj b1 ((Peer.c a).map .r)), (3, .obj b2 ((Peer.c b).map .r))] rfl (Le.c rfl <| Le.c rfl <| Le.e) ?_
      refine CW.seq ?_
      refine CW.seq ?_
      refine CW.region ?_
      refine RW.v rfl (V.field rfl rfl rfl rfl (by decide) rfl) ?_
      refine RW.v rfl (V.loadPrim (d := I a.match_) rfl rfl (.inl rfl) rfl rfl rfl) ?_
      refine RW.v rfl (V.field rfl rfl rfl rfl (by decide) rfl) ?_
      refine RW.v rfl (V.loadPrim (d := I b.match_) rfl rfl (.inl rfl) rfl rfl rfl) ?_
      refine RW.v rfl (V.cmpInt rfl rfl rfl rfl) ?_
      refine RW.nil ?_
      refine CW.le [(2, .obj b1 ((Peer.c a).map .r)), (3, .obj b2 ((Peer.c b).map .r)), (19, Bo (a.match_ != b.match_))] rfl (Le.c rfl <| Le.c rfl <| Le.c rfl <| Le.e) ?_
      refine CW.cond rfl (fun h5 => ?_) (fun h5 => ?_)
      · skip
        refine CW.seq ?_
        refine CW.region ?_
        refine RW.v rfl (V.as (d := Bo false) rfl rfl) ?_
        refine RW.nil ?_
        refine CW.le [(4, Bo false)] rfl (Le.c rfl <| Le.e) ?_
        refine CW.ret ?_
        exact Post.one (RV.b rfl (by simp_all [eqPeer])) (AOs.a rfl (AOs.a rfl AOs.e))
      · skip
        refine CW.skip ?_
        refine CW.le [(2, .obj b1 ((Peer.c a).map .r)), (3, .obj b2 ((Peer.c b).map .r))] rfl (Le.c rfl <| Le.c rfl <| Le.e) ?_
        refine CW.seq ?_
        refine CW.seq ?_
        refine CW.region ?_
        refine RW.v rfl (V.field rfl rfl rfl rfl (by decide) rfl) ?_
        refine RW.v rfl (V.loadPrim (d := I a.sent) rfl rfl (.inl rfl) rfl rfl rfl) ?_
        refine RW.v rfl (V.field rfl rfl rfl rfl (by decide) rfl) ?_
        refine RW.v rfl (V.loadPrim (d := I b.sent) rfl rfl (.inl rfl) rfl rfl rfl) ?_
        refine RW.v rfl (V.cmpInt rfl rfl rfl rfl) ?_
        refine RW.nil ?_
        refine CW.le [(24, Bo (a.sent != b.sent))] rfl (Le.c rfl <| Le.e) ?_
        refine CW.cond rfl (fun h6 => ?_) (fun h6 => ?_)
        · skip
          refine CW.seq ?_
          refine CW.region ?_
          refine RW.v rfl (V.as (d := Bo false) rfl rfl) ?_
          refine RW.nil ?_
          refine CW.le [(4, Bo false)] rfl (Le.c rfl <| Le.e) ?_
          refine CW.ret ?_
          exact Post.one (RV.b rfl (by simp_all [eqPeer])) (AOs.a rfl (AOs.a rfl AOs.e))
        · skip
          refine CW.skip ?_
          refine CW.le [] rfl (Le.e) ?_
          refine CW.seq ?_
          refine CW.region ?_
          refine RW.v rfl (V.as (d := Bo true) rfl rfl) ?_
          refine RW.nil ?_
          refine CW.le [(4, Bo true)] rfl (Le.c rfl <| Le.e) ?_
          refine CW.ret ?_
          exact Post.one (RV.b rfl (by simp_all [eqPeer])) (AOs.a rfl (AOs.a rfl AOs.e))
set_option maxHeartbeats 4000000 in
theorem laws_eqPeerS_fn (a : List Peer) (b : List Peer) : Eng.Fn E.P 74 [.one (.r (sl 4 Peer.c a)), .one (.r (sl 4 Peer.c b))] (.one (.one (.w (.v (.bool (eqS eqPeer a b)))))) [.one (.r (sl 4 Peer.c a)), .one (.r (sl 4 Peer.c b))] := by
  refine Eng.Fn.intro (E := E) (rvs := [.tmp 4]) Try.func74 rfl rfl rfl (by simp [outSlots, moved, rvSlot, sl]) ?_
  intro B g bo
  refine CW.bound (x := .tmp 0) (n := a.length) (AsT.r) (fun hl0 => ?_)
  refine CW.bound (x := .tmp 1) (n := b.length) (AsT.r) (fun hl1 => ?_)
  refine CW.le [(0, .r (sl 4 Peer.c a)), (1, .r (sl 4 Peer.c b))] rfl (Le.c rfl <| Le.c rfl <| Le.e) ?_
  refine CW.seq ?_
  refine CW.region ?_
  refine RW.v rfl (V.as (d := Bo false) rfl rfl) ?_
  refine RW.nil ?_
  refine CW.le [(0, .r (sl 4 Peer.c a)), (1, .r (sl 4 Peer.c b))] rfl (Le.c rfl <| Le.c rfl <| Le.e) ?_
  refine CW.seq ?_
  refine CW.seq ?_
  refine CW.region ?_
  refine RW.v rfl (V.mv (d := .r (sl 4 Peer.c a)) rfl rfl) ?_
  refine RW.v rfl (V.lenT (n := a.length) rfl rfl rfl .r) ?_
  refine RW.v rfl (V.mv (d := .r (sl 4 Peer.c b)) rfl rfl) ?_
  refine RW.v rfl (V.lenT (n := b.length) rfl rfl rfl .r) ?_
  refine RW.v rfl (V.cmpInt rfl rfl rfl rfl) ?_
  refine RW.nil ?_
  refine CW.le [(0, .r (sl 4 Peer.c a)), (1, .r (sl 4 Peer.c b)), (10, Bo ((a.length : Int) != (b.length : Int)))] rfl (Le.c rfl <| Le.c rfl <| Le.c rfl <| Le.e) ?_
  refine CW.cond rfl (fun h1 => ?_) (fun h1 => ?_)
  · skip
    refine CW.seq ?_
    refine CW.region ?_
    refine RW.v rfl (V.as (d := Bo false) rfl rfl) ?_
    refine RW.nil ?_
    refine CW.le [(4, Bo false)] rfl (Le.c rfl <| Le.e) ?_
    refine CW.ret ?_
    exact Post.one (RV.b rfl (by first | (simp_all [eqS, eqI, eqStr, eqB]; done) | exact (eqS_ne (by simp_all; omega)).symm)) (AOs.r (AOs.r AOs.e))
  · skip
    refine CW.skip ?_
    refine CW.le [(0, .r (sl 4 Peer.c a)), (1, .r (sl 4 Peer.c b))] rfl (Le.c rfl <| Le.c rfl <| Le.e) ?_
    refine CW.seq ?_
    refine CW.seq ?_
    refine CW.region ?_
    refine RW.v rfl (V.as (d := I 0) rfl rfl) ?_
    refine RW.nil ?_
    refine CW.le [(0, .r (sl 4 Peer.c a)), (1, .r (sl 4 Peer.c b)), (5, I 0)] rfl (Le.c rfl <| Le.c rfl <| Le.c rfl <| Le.e) ?_
    refine CW.block ?_
    refine CW.loopI 27 (fun (i : Nat) => [(0, .r (sl 4 Peer.c a)), (1, .r (sl 4 Peer.c b)), (5, I (i : Int))]) (fun (i : Nat) => i ≤ a.length ∧ eqS eqPeer (a.drop i) (b.drop i) = eqS eqPeer a b) (fun (i : Nat) => a.length - i) 0 rfl (Le.c rfl <| Le.c rfl <| Le.c rfl <| Le.e) ⟨by omega, by simp⟩ ?_
    rintro i ⟨hb, hr⟩
    have hlen : a.length = b.length := by simp at h1; omega
    refine CW.seq ?_
    refine CW.seq ?_
    refine CW.region ?_
    refine RW.v rfl (V.mv (d := I (i : Int)) rfl rfl) ?_
    refine RW.v rfl (V.mv (d := .r (sl 4 Peer.c a)) rfl rfl) ?_
    refine RW.v rfl (V.lenT (n := a.length) rfl rfl rfl .r) ?_
    refine RW.v rfl (V.cmpInt rfl rfl rfl rfl) ?_
    refine RW.nil ?_
    refine CW.le [(0, .r (sl 4 Peer.c a)), (1, .r (sl 4 Peer.c b)), (5, I (i : Int)), (14, Bo (decide ((i : Int) < (a.length : Int))))] rfl (Le.c rfl <| Le.c rfl <| Le.c rfl <| Le.c rfl <| Le.e) ?_
    refine CW.cond rfl (fun h2 => ?_) (fun h2 => ?_)
    · skip
      have hii : i < a.length := by have := h2; simp at this; first | exact this | omega | (simp; done) | (simp; omega)
      obtain ⟨ei, hei⟩ : ∃ e, a[i]? = some e := ⟨_, List.getElem?_eq_getElem hii⟩
      have hdi := drop_get hei
      have hib : i < b.length := by omega
      obtain ⟨eb, heb⟩ : ∃ e, b[i]? = some e := ⟨_, List.getElem?_eq_getElem hib⟩
      have hdb := drop_get heb
      refine CW.skip ?_
      refine CW.le [(0, .r (sl 4 Peer.c a)), (1, .r (sl 4 Peer.c b)), (5, I (i : Int))] rfl (Le.c rfl <| Le.c rfl <| Le.c rfl <| Le.e) ?_
      refine CW.seq ?_
      refine CW.block ?_
      refine CW.seq ?_
      refine CW.drawn (by kernel_rfl) ?_
      refine RQ.v rfl (V.mv (d := .r (sl 4 Peer.c a)) rfl rfl) ?_
      refine RQ.v rfl (V.mv (d := I (i : Int)) rfl rfl) ?_
      refine RQ.v rfl (V.indexS rfl rfl rfl rfl rfl rfl Peer.len hei) ?_
      refine RQ.v rfl (V.loadAggR rfl rfl rfl rfl (Nat.le_of_ble_eq_true rfl)) ?_
      refine RQ.v rfl (V.mv (d := .r (sl 4 Peer.c b)) rfl rfl) ?_
      refine RQ.v rfl (V.mv (d := I (i : Int)) rfl rfl) ?_
      refine RQ.v rfl (V.indexS rfl rfl rfl rfl rfl rfl Peer.len heb) ?_
      refine RQ.v rfl (V.loadAggR rfl rfl rfl rfl (Nat.le_of_ble_eq_true rfl)) ?_
      refine RQ.cons rfl (QOK.call (laws_eqPeer_fn ei eb) rfl (.cons (.agg (.cons (.r .r) (.cons (.r .r) (.cons (.r .r) (.cons (.r .r) (.nil)))))) (.cons (.agg (.cons (.r .r) (.cons (.r .r) (.cons (.r .r) (.cons (.r .r) (.nil)))))) (.nil))) ?_)
      refine RQ.v rfl (V.not rfl rfl) ?_
      refine RQ.nil ?_
      refine CW.le [(0, .r (sl 4 Peer.c a)), (1, .r (sl 4 Peer.c b)), (5, I (i : Int)), (26, Bo (!(eqPeer ei eb)))] rfl (Le.c rfl <| Le.c rfl <| Le.c rfl <| Le.c rfl <| Le.e) ?_
      refine CW.cond rfl (fun h3 => ?_) (fun h3 => ?_)
      · skip
        refine CW.seq ?_
        refine CW.region ?_
        refine RW.v rfl (V.as (d := Bo false) rfl rfl) ?_
        refine RW.nil ?_
        refine CW.le [(4, Bo false)] rfl (Le.c rfl <| Le.e) ?_
        refine CW.ret ?_
        exact Post.one (RV.b rfl (by first | (simp_all [eqS, eqI, eqStr, eqB]; done) | exact (eqS_ne (by simp_all; omega)).symm)) (AOs.r (AOs.r AOs.e))
      · skip
        refine CW.skip ?_
        refine CW.le [(0, .r (sl 4 Peer.c a)), (1, .r (sl 4 Peer.c b)), (5, I (i : Int))] rfl (Le.c rfl <| Le.c rfl <| Le.c rfl <| Le.e) ?_
        refine CW.region ?_
        refine RW.v rfl (V.mv (d := I (i : Int)) rfl rfl) ?_
        refine RW.v rfl (V.inc rfl rfl rfl hii hl0) ?_
        refine RW.v rfl (V.as (d := I ((i + 1 : Nat) : Int)) rfl rfl) ?_
        refine RW.nil ?_
        exact ⟨i + 1, by omega, ⟨by omega, by simp_all [eqS, eqI, eqStr, eqB]⟩, rfl, Le.c rfl <| Le.c rfl <| Le.c rfl <| Le.e⟩
    · skip
      have hii : a.length ≤ i := by have := h2; simp at this; first | exact this | omega | (simp; done) | (simp; omega)
      have hdi : a.drop i = [] := List.drop_eq_nil_of_le hii
      refine CW.exit ?_
      refine CW.le [] rfl (Le.e) ?_
      refine CW.seq ?_
      refine CW.region ?_
      refine RW.v rfl (V.as (d := Bo true) rfl rfl) ?_
      refine RW.nil ?_
      refine CW.le [(4, Bo true)] rfl (Le.c rfl <| Le.e) ?_
      refine CW.ret ?_
      exact Post.one (RV.b rfl (by rw [← hr, hdi, List.drop_eq_nil_of_le (show b.length ≤ i by omega)]; rfl)) (AOs.r (AOs.r AOs.e))
set_option maxHeartbeats 4000000 in
theorem laws_eqNode_fn (a : Node) (b : Node) : Eng.Fn E.P 23 [.agg ((Node.c a).map .r), .agg ((Node.c b).map .r)] (.one (.one (.w (.v (.bool (eqNode a b)))))) [.agg ((Node.c a).map .r), .agg ((Node.c b).map .r)] := by
  refine Eng.Fn.intro (E := E) (rvs := [.tmp 4]) Try.func23 rfl rfl rfl (by simp [outSlots, moved, rvSlot, sl]) ?_
  intro B g bo
  refine CW.le [(0, .agg ((Node.c a).map .r)), (1, .agg ((Node.c b).map .r))] rfl (Le.c rfl <| Le.c rfl <| Le.e) ?_
  refine CW.seq ?_
  refine CW.region ?_
  refine RW.box (ds := ((Node.c a).map .r)) rfl rfl rfl fun b1 => ?_
  refine RW.box (ds := ((Node.c b).map .r)) rfl rfl rfl fun b2 => ?_
  refine RW.v rfl (V.as (d := Bo false) rfl rfl) ?_
  refine RW.nil ?_
  refine CW.le [(2, .obj b1 ((Node.c a).map .r)), (3, .obj b2 ((Node.c b).map .r))] rfl (Le.c rfl <| Le.c rfl <| Le.e) ?_
  refine CW.seq ?_
  refine CW.seq ?_
  refine CW.region ?_
  refine RW.v rfl (V.field rfl rfl rfl rfl (by decide) rfl) ?_
  refine RW.v rfl (V.loadPrim (d := I a.id) rfl rfl (.inl rfl) rfl rfl rfl) ?_
  refine RW.v rfl (V.field rfl rfl rfl rfl (by decide) rfl) ?_
  refine RW.v rfl (V.loadPrim (d := I b.id) rfl rfl (.inl rfl) rfl rfl rfl) ?_
  refine RW.v rfl (V.cmpInt rfl rfl rfl rfl) ?_
  refine RW.nil ?_
  refine CW.le [(2, .obj b1 ((Node.c a).map .r)), (3, .obj b2 ((Node.c b).map .r)), (9, Bo (a.id != b.id))] rfl (Le.c rfl <| Le.c rfl <| Le.c rfl <| Le.e) ?_
  refine CW.cond rfl (fun h3 => ?_) (fun h3 => ?_)
  · skip
    refine CW.seq ?_
    refine CW.region ?_
    refine RW.v rfl (V.as (d := Bo false) rfl rfl) ?_
    refine RW.nil ?_
    refine CW.le [(4, Bo false)] rfl (Le.c rfl <| Le.e) ?_
    refine CW.ret ?_
    exact Post.one (RV.b rfl (by simp_all [eqNode])) (AOs.a rfl (AOs.a rfl AOs.e))
  · skip
    refine CW.skip ?_
    refine CW.le [(2, .obj b1 ((Node.c a).map .r)), (3, .obj b2 ((Node.c b).map .r))] rfl (Le.c rfl <| Le.c rfl <| Le.e) ?_
    refine CW.seq ?_
    refine CW.seq ?_
    refine CW.region ?_
    refine RW.v rfl (V.field rfl rfl rfl rfl (by decide) rfl) ?_
    refine RW.v rfl (V.loadPrim (d := I a.term_) rfl rfl (.inl rfl) rfl rfl rfl) ?_
    refine RW.v rfl (V.field rfl rfl rfl rfl (by decide) rfl) ?_
    refine RW.v rfl (V.loadPrim (d := I b.term_) rfl rfl (.inl rfl) rfl rfl rfl) ?_
    refine RW.v rfl (V.cmpInt rfl rfl rfl rfl) ?_
    refine RW.nil ?_
    refine CW.le [(2, .obj b1 ((Node.c a).map .r)), (3, .obj b2 ((Node.c b).map .r)), (14, Bo (a.term_ != b.term_))] rfl (Le.c rfl <| Le.c rfl <| Le.c rfl <| Le.e) ?_
    refine CW.cond rfl (fun h4 => ?_) (fun h4 => ?_)
    · skip
      refine CW.seq ?_
      refine CW.region ?_
      refine RW.v rfl (V.as (d := Bo false) rfl rfl) ?_
      refine RW.nil ?_
      refine CW.le [(4, Bo false)] rfl (Le.c rfl <| Le.e) ?_
      refine CW.ret ?_
      exact Post.one (RV.b rfl (by simp_all [eqNode])) (AOs.a rfl (AOs.a rfl AOs.e))
    · skip
      refine CW.skip ?_
      refine CW.le [(2, .obj b1 ((Node.c a).map .r)), (3, .obj b2 ((Node.c b).map .r))] rfl (Le.c rfl <| Le.c rfl <| Le.e) ?_
      refine CW.seq ?_
      refine CW.seq ?_
      refine CW.region ?_
      refine RW.v rfl (V.field rfl rfl rfl rfl (by decide) rfl) ?_
      refine RW.v rfl (V.loadPrim (d := I a.vote) rfl rfl (.inl rfl) rfl rfl rfl) ?_
      refine RW.v rfl (V.field rfl rfl rfl rfl (by decide) rfl) ?_
      refine RW.v rfl (V.loadPrim (d := I b.vote) rfl rfl (.inl rfl) rfl rfl rfl) ?_
      refine RW.v rfl (V.cmpInt rfl rfl rfl rfl) ?_
      refine RW.nil ?_
      refine CW.le [(2, .obj b1 ((Node.c a).map .r)), (3, .obj b2 ((Node.c b).map .r)), (19, Bo (a.vote != b.vote))] rfl (Le.c rfl <| Le.c rfl <| Le.c rfl <| Le.e) ?_
      refine CW.cond rfl (fun h5 => ?_) (fun h5 => ?_)
      · skip
        refine CW.seq ?_
        refine CW.region ?_
        refine RW.v rfl (V.as (d := Bo false) rfl rfl) ?_
        refine RW.nil ?_
        refine CW.le [(4, Bo false)] rfl (Le.c rfl <| Le.e) ?_
        refine CW.ret ?_
        exact Post.one (RV.b rfl (by simp_all [eqNode])) (AOs.a rfl (AOs.a rfl AOs.e))
      · skip
        refine CW.skip ?_
        refine CW.le [(2, .obj b1 ((Node.c a).map .r)), (3, .obj b2 ((Node.c b).map .r))] rfl (Le.c rfl <| Le.c rfl <| Le.e) ?_
        refine CW.seq ?_
        refine CW.seq ?_
        refine CW.region ?_
        refine RW.v rfl (V.field rfl rfl rfl rfl (by decide) rfl) ?_
        refine RW.v rfl (V.loadPrim (d := I a.role) rfl rfl (.inl rfl) rfl rfl rfl) ?_
        refine RW.v rfl (V.field rfl rfl rfl rfl (by decide) rfl) ?_
        refine RW.v rfl (V.loadPrim (d := I b.role) rfl rfl (.inl rfl) rfl rfl rfl) ?_
        refine RW.v rfl (V.cmpInt rfl rfl rfl rfl) ?_
        refine RW.nil ?_
        refine CW.le [(2, .obj b1 ((Node.c a).map .r)), (3, .obj b2 ((Node.c b).map .r)), (24, Bo (a.role != b.role))] rfl (Le.c rfl <| Le.c rfl <| Le.c rfl <| Le.e) ?_
        refine CW.cond rfl (fun h6 => ?_) (fun h6 => ?_)
        · skip
          refine CW.seq ?_
          refine CW.region ?_
          refine RW.v rfl (V.as (d := Bo false) rfl rfl) ?_
          refine RW.nil ?_
          refine CW.le [(4, Bo false)] rfl (Le.c rfl <| Le.e) ?_
          refine CW.ret ?_
          exact Post.one (RV.b rfl (by simp_all [eqNode])) (AOs.a rfl (AOs.a rfl AOs.e))
        · skip
          refine CW.skip ?_
          refine CW.le [(2, .obj b1 ((Node.c a).map .r)), (3, .obj b2 ((Node.c b).map .r))] rfl (Le.c rfl <| Le.c rfl <| Le.e) ?_
          refine CW.seq ?_
          refine CW.seq ?_
          refine CW.region ?_
          refine RW.v rfl (V.field rfl rfl rfl rfl (by decide) rfl) ?_
          refine RW.v rfl (V.loadPrim (d := I a.lead) rfl rfl (.inl rfl) rfl rfl rfl) ?_
          refine RW.v rfl (V.field rfl rfl rfl rfl (by decide) rfl) ?_
          refine RW.v rfl (V.loadPrim (d := I b.lead) rfl rfl (.inl rfl) rfl rfl rfl) ?_
          refine RW.v rfl (V.cmpInt rfl rfl rfl rfl) ?_
          refine RW.nil ?_
          refine CW.le [(2, .obj b1 ((Node.c a).map .r)), (3, .obj b2 ((Node.c b).map .r)), (29, Bo (a.lead != b.lead))] rfl (Le.c rfl <| Le.c rfl <| Le.c rfl <| Le.e) ?_
          refine CW.cond rfl (fun h7 => ?_) (fun h7 => ?_)
          · skip
            refine CW.seq ?_
            refine CW.region ?_
            refine RW.v rfl (V.as (d := Bo false) rfl rfl) ?_
            refine RW.nil ?_
            refine CW.le [(4, Bo false)] rfl (Le.c rfl <| Le.e) ?_
            refine CW.ret ?_
            exact Post.one (RV.b rfl (by simp_all [eqNode])) (AOs.a rfl (AOs.a rfl AOs.e))
          · skip
            refine CW.skip ?_
            refine CW.le [(2, .obj b1 ((Node.c a).map .r)), (3, .obj b2 ((Node.c b).map .r))] rfl (Le.c rfl <| Le.c rfl <| Le.e) ?_
            refine CW.seq ?_
            refine CW.seq ?_
            refine CW.region ?_
            refine RW.v rfl (V.field rfl rfl rfl rfl (by decide) rfl) ?_
            refine RW.v rfl (V.loadPrim (d := .r (sl 1 cI a.conf)) rfl rfl (.inr ⟨_, rfl⟩) rfl rfl rfl) ?_
            refine RW.v rfl (V.field rfl rfl rfl rfl (by decide) rfl) ?_
            refine RW.v rfl (V.loadPrim (d := .r (sl 1 cI b.conf)) rfl rfl (.inr ⟨_, rfl⟩) rfl rfl rfl) ?_
            refine RW.call rfl (laws_eqIntS_fn a.conf b.conf) rfl (.cons (.one (.r .r)) (.cons (.one (.r .r)) (.nil))) fun g8 => ?_
            refine RW.v rfl (V.not rfl rfl) ?_
            refine RW.nil ?_
            refine CW.le [(2, .obj b1 ((Node.c a).map .r)), (3, .obj b2 ((Node.c b).map .r)), (35, Bo (!(eqS eqI a.conf b.conf)))] rfl (Le.c rfl <| Le.c rfl <| Le.c rfl <| Le.e) ?_
            refine CW.cond rfl (fun h9 => ?_) (fun h9 => ?_)
            · skip
              refine CW.seq ?_
              refine CW.region ?_
              refine RW.v rfl (V.as (d := Bo false) rfl rfl) ?_
              refine RW.nil ?_
              refine CW.le [(4, Bo false)] rfl (Le.c rfl <| Le.e) ?_
              refine CW.ret ?_
              exact Post.one (RV.b rfl (by simp_all [eqNode])) (AOs.a rfl (AOs.a rfl AOs.e))
            · skip
              refine CW.skip ?_
              refine CW.le [(2, .obj b1 ((Node.c a).map .r)), (3, .obj b2 ((Node.c b).map .r))] rfl (Le.c rfl <| Le.c rfl <| Le.e) ?_
              refine CW.seq ?_
              refine CW.seq ?_
              refine CW.region ?_
              refine RW.v rfl (V.field rfl rfl rfl rfl (by decide) rfl) ?_
              refine RW.v rfl (V.loadAgg rfl rfl rfl rfl rfl (Nat.le_of_ble_eq_true rfl)) ?_
              refine RW.v rfl (V.field rfl rfl rfl rfl (by decide) rfl) ?_
              refine RW.v rfl (V.loadAgg rfl rfl rfl rfl rfl (Nat.le_of_ble_eq_true rfl)) ?_
              refine RW.call rfl (laws_eqLog_fn a.log b.log) rfl (.cons (.agg (.cons (.r .r) (.cons (.r .r) (.cons (.r .r) (.nil))))) (.cons (.agg (.cons (.r .r) (.cons (.r .r) (.cons (.r .r) (.nil))))) (.nil))) fun g10 => ?_
              refine RW.v rfl (V.not rfl rfl) ?_
              refine RW.nil ?_
              refine CW.le [(2, .obj b1 ((Node.c a).map .r)), (3, .obj b2 ((Node.c b).map .r)), (41, Bo (!(eqLog a.log b.log)))] rfl (Le.c rfl <| Le.c rfl <| Le.c rfl <| Le.e) ?_
              refine CW.cond rfl (fun h11 => ?_) (fun h11 => ?_)
              · skip
                refine CW.seq ?_
                refine CW.region ?_
                refine RW.v rfl (V.as (d := Bo false) rfl rfl) ?_
                refine RW.nil ?_
                refine CW.le [(4, Bo false)] rfl (Le.c rfl <| Le.e) ?_
                refine CW.ret ?_
                exact Post.one (RV.b rfl (by simp_all [eqNode])) (AOs.a rfl (AOs.a rfl AOs.e))
              · skip
                refine CW.skip ?_
                refine CW.le [(2, .obj b1 ((Node.c a).map .r)), (3, .obj b2 ((Node.c b).map .r))] rfl (Le.c rfl <| Le.c rfl <| Le.e) ?_
                refine CW.seq ?_
                refine CW.seq ?_
                refine CW.region ?_
                refine RW.v rfl (V.field rfl rfl rfl rfl (by decide) rfl) ?_
                refine RW.v rfl (V.loadPrim (d := I a.commit) rfl rfl (.inl rfl) rfl rfl rfl) ?_
                refine RW.v rfl (V.field rfl rfl rfl rfl (by decide) rfl) ?_
                refine RW.v rfl (V.loadPrim (d := I b.commit) rfl rfl (.inl rfl) rfl rfl rfl) ?_
                refine RW.v rfl (V.cmpInt rfl rfl rfl rfl) ?_
                refine RW.nil ?_
                refine CW.le [(2, .obj b1 ((Node.c a).map .r)), (3, .obj b2 ((Node.c b).map .r)), (46, Bo (a.commit != b.commit))] rfl (Le.c rfl <| Le.c rfl <| Le.c rfl <| Le.e) ?_
                refine CW.cond rfl (fun h12 => ?_) (fun h12 => ?_)
                · skip
                  refine CW.seq ?_
                  refine CW.region ?_
                  refine RW.v rfl (V.as (d := Bo false) rfl rfl) ?_
                  refine RW.nil ?_
                  refine CW.le [(4, Bo false)] rfl (Le.c rfl <| Le.e) ?_
                  refine CW.ret ?_
                  exact Post.one (RV.b rfl (by simp_all [eqNode])) (AOs.a rfl (AOs.a rfl AOs.e))
                · skip
                  refine CW.skip ?_
                  refine CW.le [(2, .obj b1 ((Node.c a).map .r)), (3, .obj b2 ((Node.c b).map .r))] rfl (Le.c rfl <| Le.c rfl <| Le.e) ?_
                  refine CW.seq ?_
                  refine CW.seq ?_
                  refine CW.region ?_
                  refine RW.v rfl (V.field rfl rfl rfl rfl (by decide) rfl) ?_
                  refine RW.v rfl (V.loadPrim (d := I a.clock) rfl rfl (.inl rfl) rfl rfl rfl) ?_
                  refine RW.v rfl (V.field rfl rfl rfl rfl (by decide) rfl) ?_
                  refine RW.v rfl (V.loadPrim (d := I b.clock) rfl rfl (.inl rfl) rfl rfl rfl) ?_
                  refine RW.v rfl (V.cmpInt rfl rfl rfl rfl) ?_
                  refine RW.nil ?_
                  refine CW.le [(2, .obj b1 ((Node.c a).map .r)), (3, .obj b2 ((Node.c b).map .r)), (51, Bo (a.clock != b.clock))] rfl (Le.c rfl <| Le.c rfl <| Le.c rfl <| Le.e) ?_
                  refine CW.cond rfl (fun h13 => ?_) (fun h13 => ?_)
                  · skip
                    refine CW.seq ?_
                    refine CW.region ?_
                    refine RW.v rfl (V.as (d := Bo false) rfl rfl) ?_
                    refine RW.nil ?_
                    refine CW.le [(4, Bo false)] rfl (Le.c rfl <| Le.e) ?_
                    refine CW.ret ?_
                    exact Post.one (RV.b rfl (by simp_all [eqNode])) (AOs.a rfl (AOs.a rfl AOs.e))
                  · skip
                    refine CW.skip ?_
                    refine CW.le [(2, .obj b1 ((Node.c a).map .r)), (3, .obj b2 ((Node.c b).map .r))] rfl (Le.c rfl <| Le.c rfl <| Le.e) ?_
                    refine CW.seq ?_
                    refine CW.seq ?_
                    refine CW.region ?_
                    refine RW.v rfl (V.field rfl rfl rfl rfl (by decide) rfl) ?_
                    refine RW.v rfl (V.loadPrim (d := I a.limit) rfl rfl (.inl rfl) rfl rfl rfl) ?_
                    refine RW.v rfl (V.field rfl rfl rfl rfl (by decide) rfl) ?_
                    refine RW.v rfl (V.loadPrim (d := I b.limit) rfl rfl (.inl rfl) rfl rfl rfl) ?_
                    refine RW.v rfl (V.cmpInt rfl rfl rfl rfl) ?_
                    refine RW.nil ?_
                    refine CW.le [(2, .obj b1 ((Node.c a).map .r)), (3, .obj b2 ((Node.c b).map .r)), (56, Bo (a.limit != b.limit))] rfl (Le.c rfl <| Le.c rfl <| Le.c rfl <| Le.e) ?_
                    refine CW.cond rfl (fun h14 => ?_) (fun h14 => ?_)
                    · skip
                      refine CW.seq ?_
                      refine CW.region ?_
                      refine RW.v rfl (V.as (d := Bo false) rfl rfl) ?_
                      refine RW.nil ?_
                      refine CW.le [(4, Bo false)] rfl (Le.c rfl <| Le.e) ?_
                      refine CW.ret ?_
                      exact Post.one (RV.b rfl (by simp_all [eqNode])) (AOs.a rfl (AOs.a rfl AOs.e))
                    · skip
                      refine CW.skip ?_
                      refine CW.le [(2, .obj b1 ((Node.c a).map .r)), (3, .obj b2 ((Node.c b).map .r))] rfl (Le.c rfl <| Le.c rfl <| Le.e) ?_
                      refine CW.seq ?_
                      refine CW.seq ?_
                      refine CW.region ?_
                      refine RW.v rfl (V.field rfl rfl rfl rfl (by decide) rfl) ?_
                      refine RW.v rfl (V.loadPrim (d := .r (sl 1 cI a.votes)) rfl rfl (.inr ⟨_, rfl⟩) rfl rfl rfl) ?_
                      refine RW.v rfl (V.field rfl rfl rfl rfl (by decide) rfl) ?_
                      refine RW.v rfl (V.loadPrim (d := .r (sl 1 cI b.votes)) rfl rfl (.inr ⟨_, rfl⟩) rfl rfl rfl) ?_
                      refine RW.call rfl (laws_eqIntS_fn a.votes b.votes) rfl (.cons (.one (.r .r)) (.cons (.one (.r .r)) (.nil))) fun g15 => ?_
                      refine RW.v rfl (V.not rfl rfl) ?_
                      refine RW.nil ?_
                      refine CW.le [(2, .obj b1 ((Node.c a).map .r)), (3, .obj b2 ((Node.c b).map .r)), (62, Bo (!(eqS eqI a.votes b.votes)))] rfl (Le.c rfl <| Le.c rfl <| Le.c rfl <| Le.e) ?_
                      refine CW.cond rfl (fun h16 => ?_) (fun h16 => ?_)
                      · skip
                        refine CW.seq ?_
                        refine CW.region ?_
                        refine RW.v rfl (V.as (d := Bo false) rfl rfl) ?_
                        refine RW.nil ?_
                        refine CW.le [(4, Bo false)] rfl (Le.c rfl <| Le.e) ?_
                        refine CW.ret ?_
                        exact Post.one (RV.b rfl (by simp_all [eqNode])) (AOs.a rfl (AOs.a rfl AOs.e))
                      · skip
                        refine CW.skip ?_
                        refine CW.le [(2, .obj b1 ((Node.c a).map .r)), (3, .obj b2 ((Node.c b).map .r))] rfl (Le.c rfl <| Le.c rfl <| Le.e) ?_
                        refine CW.seq ?_
                        refine CW.seq ?_
                        refine CW.region ?_
                        refine RW.v rfl (V.field rfl rfl rfl rfl (by decide) rfl) ?_
                        refine RW.v rfl (V.loadPrim (d := .r (sl 4 Peer.c a.peers)) rfl rfl (.inr ⟨_, rfl⟩) rfl rfl rfl) ?_
                        refine RW.v rfl (V.field rfl rfl rfl rfl (by decide) rfl) ?_
                        refine RW.v rfl (V.loadPrim (d := .r (sl 4 Peer.c b.peers)) rfl rfl (.inr ⟨_, rfl⟩) rfl rfl rfl) ?_
                        refine RW.call rfl (laws_eqPeerS_fn a.peers b.peers) rfl (.cons (.one (.r .r)) (.cons (.one (.r .r)) (.nil))) fun g17 => ?_
                        refine RW.v rfl (V.not rfl rfl) ?_
                        refine RW.nil ?_
                        refine CW.le [(68, Bo (!(eqS eqPeer a.peers b.peers)))] rfl (Le.c rfl <| Le.e) ?_
                        refine CW.cond rfl (fun h18 => ?_) (fun h18 => ?_)
                        · skip
                          refine CW.seq ?_
                          refine CW.region ?_
                          refine RW.v rfl (V.as (d := Bo false) rfl rfl) ?_
                          refine RW.nil ?_
                          refine CW.le [(4, Bo false)] rfl (Le.c rfl <| Le.e) ?_
                          refine CW.ret ?_
                          exact Post.one (RV.b rfl (by simp_all [eqNode])) (AOs.a rfl (AOs.a rfl AOs.e))
                        · skip
                          refine CW.skip ?_
                          refine CW.le [] rfl (Le.e) ?_
                          refine CW.seq ?_
                          refine CW.region ?_
                          refine RW.v rfl (V.as (d := Bo true) rfl rfl) ?_
                          refine RW.nil ?_
                          refine CW.le [(4, Bo true)] rfl (Le.c rfl <| Le.e) ?_
                          refine CW.ret ?_
                          exact Post.one (RV.b rfl (by simp_all [eqNode])) (AOs.a rfl (AOs.a rfl AOs.e))
set_option maxHeartbeats 4000000 in
theorem laws_FnExactNodeOk_fn (n : Node) (hok : okNode n) : Eng.Fn E.P 4 [.agg ((Node.c n).map .r)] (.one (.one (.w (.v (.bool true))))) [.agg ((Node.c n).map .r)] := by
  refine Eng.Fn.intro (E := E) (rvs := [.tmp 2]) Try.func4 rfl rfl rfl (by simp [outSlots, moved, rvSlot, sl]) ?_
  intro B g bo
  refine CW.le [(0, .agg ((Node.c n).map .r))] rfl (Le.c rfl <| Le.e) ?_
  refine CW.seq ?_
  refine CW.region ?_
  refine RW.box (ds := ((Node.c n).map .r)) rfl rfl rfl fun b1 => ?_
  refine RW.v rfl (V.as (d := Bo false) rfl rfl) ?_
  refine RW.nil ?_
  refine CW.le [(1, .obj b1 ((Node.c n).map .r))] rfl (Le.c rfl <| Le.e) ?_
  refine CW.seq ?_
  refine CW.region ?_
  refine RW.v rfl (V.as (d := I 1048576) rfl rfl) ?_
  refine RW.nil ?_
  refine CW.le [(1, .obj b1 ((Node.c n).map .r)), (3, I 1048576)] rfl (Le.c rfl <| Le.c rfl <| Le.e) ?_
  refine CW.seq ?_
  refine CW.region ?_
  refine RW.v rfl (V.loadAgg rfl rfl rfl rfl rfl (Nat.le_of_ble_eq_true rfl)) ?_
  refine RW.v rfl (V.mv (d := I 1048576) rfl rfl) ?_
  refine RW.call rfl (laws_szNode_fn n 1048576) rfl (.cons (.agg (.cons (.r .r) (.cons (.r .r) (.cons (.r .r) (.cons (.r .r) (.cons (.r .r) (.cons (.r .r) (.cons (.r .r) (.cons (.r .r) (.cons (.r .r) (.cons (.r .r) (.cons (.r .r) (.cons (.r .r) (.cons (.r .r) (.cons (.r .r) (.nil)))))))))))))))) (.cons (.one (.r .r)) (.nil))) fun g2 => ?_
  refine RW.v rfl (V.as (d := I (szNode n 1048576)) rfl rfl) ?_
  refine RW.nil ?_
  refine CW.le [(1, .obj b1 ((Node.c n).map .r)), (3, I (szNode n 1048576))] rfl (Le.c rfl <| Le.c rfl <| Le.e) ?_
  refine CW.seq ?_
  refine CW.seq ?_
  refine CW.region ?_
  refine RW.v rfl (V.mv (d := I (szNode n 1048576)) rfl rfl) ?_
  refine RW.v rfl (V.cmpInt rfl rfl rfl rfl) ?_
  refine RW.nil ?_
  refine CW.le [(1, .obj b1 ((Node.c n).map .r)), (11, Bo (decide ((szNode n 1048576) < 0)))] rfl (Le.c rfl <| Le.c rfl <| Le.e) ?_
  refine CW.cond rfl (fun h3 => ?_) (fun h3 => ?_)
  · skip
    refine CW.seq ?_
    refine CW.region ?_
    refine RW.v rfl (V.as (d := Bo true) rfl rfl) ?_
    refine RW.nil ?_
    refine CW.le [(2, Bo true)] rfl (Le.c rfl <| Le.e) ?_
    refine CW.ret ?_
    exact Post.one (RV.b rfl (by first | rfl | simp_all [eqNode_refl])) (AOs.a rfl AOs.e)
  · skip
    refine CW.skip ?_
    refine CW.le [(1, .obj b1 ((Node.c n).map .r))] rfl (Le.c rfl <| Le.e) ?_
    refine CW.seq ?_
    refine CW.region ?_
    refine RW.v rfl (V.loadAgg rfl rfl rfl rfl rfl (Nat.le_of_ble_eq_true rfl)) ?_
    refine RW.call rfl (laws_toNode_fn n (szNode_ok n 1048576 hok (by omega) (by omega) (by simpa using h3)).1) rfl (.cons (.agg (.cons (.r .r) (.cons (.r .r) (.cons (.r .r) (.cons (.r .r) (.cons (.r .r) (.cons (.r .r) (.cons (.r .r) (.cons (.r .r) (.cons (.r .r) (.cons (.r .r) (.cons (.r .r) (.cons (.r .r) (.cons (.r .r) (.cons (.r .r) (.nil)))))))))))))))) (.nil)) fun g4 => ?_
    refine RW.callOwn rfl (spec_NodeOk_fn n (szNode_ok n 1048576 hok (by omega) (by omega) (by simpa using h3)).1) rfl (.cons (.agg (.cons (.r .r) (.cons (.r .r) (.cons (.r .r) (.cons (.r .r) (.cons (.r .r) (.cons (.r (.ala (k := none) (i := 13) (j := 5) (sz := 1) (V := (g4 0 5)) rfl rfl rfl nofun)) (.cons (.r .r) (.cons (.r .r) (.cons (.r (.ala (k := none) (i := 13) (j := 8) (sz := 3) (V := (g4 0 8)) rfl rfl rfl nofun)) (.cons (.r .r) (.cons (.r .r) (.cons (.r .r) (.cons (.r (.ala (k := none) (i := 13) (j := 12) (sz := 1) (V := (g4 0 12)) rfl rfl rfl nofun)) (.cons (.r (.ala (k := none) (i := 13) (j := 13) (sz := 4) (V := (g4 0 13)) rfl rfl rfl nofun)) (.nil)))))))))))))))) (.nil)) rfl fun g5 => ?_
    refine RW.v rfl (V.as (d := Bo (nodeOk n)) rfl rfl) ?_
    refine RW.nil ?_
    refine CW.le [(1, .obj b1 ((Node.c n).map .r)), (4, Bo (nodeOk n))] rfl (Le.c rfl <| Le.c rfl <| Le.e) ?_
    refine CW.seq ?_
    refine CW.region ?_
    refine RW.v rfl (V.loadAgg rfl rfl rfl rfl rfl (Nat.le_of_ble_eq_true rfl)) ?_
    refine RW.call rfl (laws_toNode_fn n (szNode_ok n 1048576 hok (by omega) (by omega) (by simpa using h3)).1) rfl (.cons (.agg (.cons (.r .r) (.cons (.r .r) (.cons (.r .r) (.cons (.r .r) (.cons (.r .r) (.cons (.r .r) (.cons (.r .r) (.cons (.r .r) (.cons (.r .r) (.cons (.r .r) (.cons (.r .r) (.cons (.r .r) (.cons (.r .r) (.cons (.r .r) (.nil)))))))))))))))) (.nil)) fun g6 => ?_
    refine RW.alloc (ds := [I 0, I 0, I 0, I 0, I 0, .r (.v (.slice none 0 0)), I 0, I 0, .r (.v (.slice none 0 0)), I 0, I 0, I 0, .r (.v (.slice none 0 0)), .r (.v (.slice none 0 0))]) rfl rfl rfl rfl fun b7 => ?_
    refine RW.storeAgg (es := [I n.id, I n.term_, I n.vote, I n.role, I n.lead, .al 16 (some 5) 1 n.conf.length (g6 0 5) 0, I n.log.start, I n.log.startTerm, .al 16 (some 8) 3 n.log.entries.length (g6 0 8) 0, I n.commit, I n.clock, I n.limit, .al 16 (some 12) 1 n.votes.length (g6 0 12) 0, .al 16 (some 13) 4 n.peers.length (g6 0 13) 0]) rfl rfl rfl rfl rfl rfl rfl rfl (Nat.le_of_ble_eq_true rfl) rfl ?_
    refine RW.pullA (k := 5) (l := 16) (j := 5) 5 16 5 rfl rfl rfl (by decide) rfl rfl rfl rfl ?_
    refine RW.pullA (k := 5) (l := 16) (j := 8) 5 16 8 rfl rfl rfl (by decide) rfl rfl rfl rfl ?_
    refine RW.pullA (k := 5) (l := 16) (j := 12) 5 16 12 rfl rfl rfl (by decide) rfl rfl rfl rfl ?_
    refine RW.pullA (k := 5) (l := 16) (j := 13) 5 16 13 rfl rfl rfl (by decide) rfl rfl rfl rfl ?_
    refine RW.nil ?_
    refine CW.le [(1, .obj b1 ((Node.c n).map .r)), (4, Bo (nodeOk n)), (5, .obj b7 [I n.id, I n.term_, I n.vote, I n.role, I n.lead, .w (sl 1 cI n.conf) (g6 0 5), I n.log.start, I n.log.startTerm, .w (sl 3 Entry.c n.log.entries) (g6 0 8), I n.commit, I n.clock, I n.limit, .w (sl 1 cI n.votes) (g6 0 12), .w (sl 4 Peer.c n.peers) (g6 0 13)])] rfl (Le.c rfl <| Le.c rfl <| Le.c rfl <| Le.e) ?_
    refine CW.seq ?_
    refine CW.region ?_
    refine RW.v rfl (V.loadAgg rfl rfl rfl rfl rfl (Nat.le_of_ble_eq_true rfl)) ?_
    refine RW.callOwn rfl (impl_NodeOk_fn n (szNode_ok n 1048576 hok (by omega) (by omega) (by simpa using h3)).1) rfl (.cons (.agg (.cons (.r .r) (.cons (.r .r) (.cons (.r .r) (.cons (.r .r) (.cons (.r .r) (.cons (.r (.alo (k := none) (i := 5) (j := 5) (sz := 1) (V := (g6 0 5)) rfl rfl rfl nofun)) (.cons (.r .r) (.cons (.r .r) (.cons (.r (.alo (k := none) (i := 5) (j := 8) (sz := 3) (V := (g6 0 8)) rfl rfl rfl nofun)) (.cons (.r .r) (.cons (.r .r) (.cons (.r .r) (.cons (.r (.alo (k := none) (i := 5) (j := 12) (sz := 1) (V := (g6 0 12)) rfl rfl rfl nofun)) (.cons (.r (.alo (k := none) (i := 5) (j := 13) (sz := 4) (V := (g6 0 13)) rfl rfl rfl nofun)) (.nil)))))))))))))))) (.nil)) rfl fun g8 => ?_
    refine RW.v rfl (V.as (d := Bo (nodeOk n)) rfl rfl) ?_
    refine RW.nil ?_
    refine CW.le [(1, .obj b1 ((Node.c n).map .r)), (4, Bo (nodeOk n)), (5, .obj b7 [I n.id, I n.term_, I n.vote, I n.role, I n.lead, .w (sl 1 cI n.conf) (g6 0 5), I n.log.start, I n.log.startTerm, .w (sl 3 Entry.c n.log.entries) (g6 0 8), I n.commit, I n.clock, I n.limit, .w (sl 1 cI n.votes) (g6 0 12), .w (sl 4 Peer.c n.peers) (g6 0 13)]), (6, Bo (nodeOk n))] rfl (Le.c rfl <| Le.c rfl <| Le.c rfl <| Le.c rfl <| Le.e) ?_
    refine CW.seq ?_
    refine CW.seq ?_
    refine CW.region ?_
    refine RW.v rfl (V.mv (d := Bo (nodeOk n)) rfl rfl) ?_
    refine RW.v rfl (V.mv (d := Bo (nodeOk n)) rfl rfl) ?_
    refine RW.v rfl (V.eqBool rfl rfl rfl (by kernel_rfl) (.inr ⟨rfl, rfl⟩)) ?_
    refine RW.nil ?_
    refine CW.le [(1, .obj b1 ((Node.c n).map .r)), (5, .obj b7 [I n.id, I n.term_, I n.vote, I n.role, I n.lead, .w (sl 1 cI n.conf) (g6 0 5), I n.log.start, I n.log.startTerm, .w (sl 3 Entry.c n.log.entries) (g6 0 8), I n.commit, I n.clock, I n.limit, .w (sl 1 cI n.votes) (g6 0 12), .w (sl 4 Peer.c n.peers) (g6 0 13)]), (21, Bo (!((nodeOk n) == (nodeOk n))))] rfl (Le.c rfl <| Le.c rfl <| Le.c rfl <| Le.e) ?_
    refine CW.cond rfl (fun h9 => ?_) (fun h9 => ?_)
    · skip
      refine CW.seq ?_
      refine CW.region ?_
      refine RW.v rfl (V.as (d := Bo false) rfl rfl) ?_
      refine RW.nil ?_
      refine CW.le [(2, Bo false)] rfl (Le.c rfl <| Le.e) ?_
      refine CW.ret ?_
      exact Post.one (RV.b rfl (by first | rfl | simp_all [eqNode_refl])) (AOs.a rfl AOs.e)
    · skip
      refine CW.skip ?_
      refine CW.le [(1, .obj b1 ((Node.c n).map .r)), (5, .obj b7 [I n.id, I n.term_, I n.vote, I n.role, I n.lead, .w (sl 1 cI n.conf) (g6 0 5), I n.log.start, I n.log.startTerm, .w (sl 3 Entry.c n.log.entries) (g6 0 8), I n.commit, I n.clock, I n.limit, .w (sl 1 cI n.votes) (g6 0 12), .w (sl 4 Peer.c n.peers) (g6 0 13)])] rfl (Le.c rfl <| Le.c rfl <| Le.e) ?_
      refine CW.seq ?_
      refine CW.seq ?_
      refine CW.any ?_
      refine RA.step (L := [0, 1]) (by kernel_rfl) (by simp) (RA.each ?_ (RA.each ?_ (RA.each0)))
      · skip
        refine RO.v (ls' := #[true, false, false, false, false]) rfl rfl (V.loadAgg rfl rfl rfl rfl rfl (Nat.le_of_ble_eq_true rfl)) rfl ?_
        refine RA.step (L := [1]) (by kernel_rfl) (by simp) (RA.each ?_ (RA.each0))
        · skip
          refine RO.v (ls' := #[true, true, false, false, false]) rfl rfl (V.loadAgg rfl rfl rfl rfl rfl (Nat.le_of_ble_eq_true rfl)) rfl ?_
          refine RA.step (L := [2]) (by kernel_rfl) (by simp) (RA.each ?_ (RA.each0))
          · skip
            refine RO.call (ls' := #[true, true, true, false, false]) rfl rfl (laws_toNode_fn n (szNode_ok n 1048576 hok (by omega) (by omega) (by simpa using h3)).1) rfl (.cons (.agg (.cons (.r .r) (.cons (.r .r) (.cons (.r .r) (.cons (.r .r) (.cons (.r .r) (.cons (.r .r) (.cons (.r .r) (.cons (.r .r) (.cons (.r .r) (.cons (.r .r) (.cons (.r .r) (.cons (.r .r) (.cons (.r .r) (.cons (.r .r) (.nil)))))))))))))))) (.nil)) rfl fun g10 => ?_
            refine RA.step (L := [3]) (by kernel_rfl) (by simp) (RA.each ?_ (RA.each0))
            · skip
              refine RO.callOwn (ls' := #[true, true, true, true, false]) rfl rfl (laws_eqNode_fn n n) rfl (.cons (.agg (.cons (.r .r) (.cons (.r .r) (.cons (.r .r) (.cons (.r .r) (.cons (.r .r) (.cons (.r (.alo (k := none) (i := 5) (j := 5) (sz := 1) (V := (g6 0 5)) rfl rfl rfl nofun)) (.cons (.r .r) (.cons (.r .r) (.cons (.r (.alo (k := none) (i := 5) (j := 8) (sz := 3) (V := (g6 0 8)) rfl rfl rfl nofun)) (.cons (.r .r) (.cons (.r .r) (.cons (.r .r) (.cons (.r (.alo (k := none) (i := 5) (j := 12) (sz := 1) (V := (g6 0 12)) rfl rfl rfl nofun)) (.cons (.r (.alo (k := none) (i := 5) (j := 13) (sz := 4) (V := (g6 0 13)) rfl rfl rfl nofun)) (.nil)))))))))))))))) (.cons (.agg (.cons (.r .r) (.cons (.r .r) (.cons (.r .r) (.cons (.r .r) (.cons (.r .r) (.cons (.r (.ala (k := none) (i := 24) (j := 5) (sz := 1) (V := (g10 0 5)) rfl rfl rfl nofun)) (.cons (.r .r) (.cons (.r .r) (.cons (.r (.ala (k := none) (i := 24) (j := 8) (sz := 3) (V := (g10 0 8)) rfl rfl rfl nofun)) (.cons (.r .r) (.cons (.r .r) (.cons (.r .r) (.cons (.r (.ala (k := none) (i := 24) (j := 12) (sz := 1) (V := (g10 0 12)) rfl rfl rfl nofun)) (.cons (.r (.ala (k := none) (i := 24) (j := 13) (sz := 4) (V := (g10 0 13)) rfl rfl rfl nofun)) (.nil)))))))))))))))) (.nil))) rfl rfl fun g11 => ?_
              refine RA.step (L := [4]) (by kernel_rfl) (by simp) (RA.each ?_ (RA.each0))
              · skip
                refine RO.v (ls' := #[true, true, true, true, true]) rfl rfl (V.not rfl rfl) rfl ?_
                refine RA.fin (by kernel_rfl) ?_
                refine CW.le [(26, Bo (!(eqNode n n)))] rfl (Le.c rfl <| Le.e) ?_
                refine CW.cond rfl (fun h12 => ?_) (fun h12 => ?_)
                · skip
                  refine CW.seq ?_
                  refine CW.region ?_
                  refine RW.v rfl (V.as (d := Bo false) rfl rfl) ?_
                  refine RW.nil ?_
                  refine CW.le [(2, Bo false)] rfl (Le.c rfl <| Le.e) ?_
                  refine CW.ret ?_
                  exact Post.one (RV.b rfl (by first | rfl | simp_all [eqNode_refl])) (AOs.a rfl AOs.e)
                · skip
                  refine CW.skip ?_
                  refine CW.le [] rfl (Le.e) ?_
                  refine CW.seq ?_
                  refine CW.region ?_
                  refine RW.v rfl (V.as (d := Bo true) rfl rfl) ?_
                  refine RW.nil ?_
                  refine CW.le [(2, Bo true)] rfl (Le.c rfl <| Le.e) ?_
                  refine CW.ret ?_
                  exact Post.one (RV.b rfl (by first | rfl | simp_all [eqNode_refl])) (AOs.a rfl AOs.e)
      · skip
        refine RO.v (ls' := #[false, true, false, false, false]) rfl rfl (V.loadAgg rfl rfl rfl rfl rfl (Nat.le_of_ble_eq_true rfl)) rfl ?_
        refine RA.step (L := [0, 2]) (by kernel_rfl) (by simp) (RA.each ?_ (RA.each ?_ (RA.each0)))
        · skip
          refine RO.v (ls' := #[true, true, false, false, false]) rfl rfl (V.loadAgg rfl rfl rfl rfl rfl (Nat.le_of_ble_eq_true rfl)) rfl ?_
          refine RA.step (L := [2]) (by kernel_rfl) (by simp) (RA.each ?_ (RA.each0))
          · skip
            refine RO.call (ls' := #[true, true, true, false, false]) rfl rfl (laws_toNode_fn n (szNode_ok n 1048576 hok (by omega) (by omega) (by simpa using h3)).1) rfl (.cons (.agg (.cons (.r .r) (.cons (.r .r) (.cons (.r .r) (.cons (.r .r) (.cons (.r .r) (.cons (.r .r) (.cons (.r .r) (.cons (.r .r) (.cons (.r .r) (.cons (.r .r) (.cons (.r .r) (.cons (.r .r) (.cons (.r .r) (.cons (.r .r) (.nil)))))))))))))))) (.nil)) rfl fun g13 => ?_
            refine RA.step (L := [3]) (by kernel_rfl) (by simp) (RA.each ?_ (RA.each0))
            · skip
              refine RO.callOwn (ls' := #[true, true, true, true, false]) rfl rfl (laws_eqNode_fn n n) rfl (.cons (.agg (.cons (.r .r) (.cons (.r .r) (.cons (.r .r) (.cons (.r .r) (.cons (.r .r) (.cons (.r (.alo (k := none) (i := 5) (j := 5) (sz := 1) (V := (g6 0 5)) rfl rfl rfl nofun)) (.cons (.r .r) (.cons (.r .r) (.cons (.r (.alo (k := none) (i := 5) (j := 8) (sz := 3) (V := (g6 0 8)) rfl rfl rfl nofun)) (.cons (.r .r) (.cons (.r .r) (.cons (.r .r) (.cons (.r (.alo (k := none) (i := 5) (j := 12) (sz := 1) (V := (g6 0 12)) rfl rfl rfl nofun)) (.cons (.r (.alo (k := none) (i := 5) (j := 13) (sz := 4) (V := (g6 0 13)) rfl rfl rfl nofun)) (.nil)))))))))))))))) (.cons (.agg (.cons (.r .r) (.cons (.r .r) (.cons (.r .r) (.cons (.r .r) (.cons (.r .r) (.cons (.r (.ala (k := none) (i := 24) (j := 5) (sz := 1) (V := (g13 0 5)) rfl rfl rfl nofun)) (.cons (.r .r) (.cons (.r .r) (.cons (.r (.ala (k := none) (i := 24) (j := 8) (sz := 3) (V := (g13 0 8)) rfl rfl rfl nofun)) (.cons (.r .r) (.cons (.r .r) (.cons (.r .r) (.cons (.r (.ala (k := none) (i := 24) (j := 12) (sz := 1) (V := (g13 0 12)) rfl rfl rfl nofun)) (.cons (.r (.ala (k := none) (i := 24) (j := 13) (sz := 4) (V := (g13 0 13)) rfl rfl rfl nofun)) (.nil)))))))))))))))) (.nil))) rfl rfl fun g14 => ?_
              refine RA.step (L := [4]) (by kernel_rfl) (by simp) (RA.each ?_ (RA.each0))
              · skip
                refine RO.v (ls' := #[true, true, true, true, true]) rfl rfl (V.not rfl rfl) rfl ?_
                refine RA.fin (by kernel_rfl) ?_
                refine CW.le [(26, Bo (!(eqNode n n)))] rfl (Le.c rfl <| Le.e) ?_
                refine CW.cond rfl (fun h15 => ?_) (fun h15 => ?_)
                · skip
                  refine CW.seq ?_
                  refine CW.region ?_
                  refine RW.v rfl (V.as (d := Bo false) rfl rfl) ?_
                  refine RW.nil ?_
                  refine CW.le [(2, Bo false)] rfl (Le.c rfl <| Le.e) ?_
                  refine CW.ret ?_
                  exact Post.one (RV.b rfl (by first | rfl | simp_all [eqNode_refl])) (AOs.a rfl AOs.e)
                · skip
                  refine CW.skip ?_
                  refine CW.le [] rfl (Le.e) ?_
                  refine CW.seq ?_
                  refine CW.region ?_
                  refine RW.v rfl (V.as (d := Bo true) rfl rfl) ?_
                  refine RW.nil ?_
                  refine CW.le [(2, Bo true)] rfl (Le.c rfl <| Le.e) ?_
                  refine CW.ret ?_
                  exact Post.one (RV.b rfl (by first | rfl | simp_all [eqNode_refl])) (AOs.a rfl AOs.e)
        · skip
          refine RO.call (ls' := #[false, true, true, false, false]) rfl rfl (laws_toNode_fn n (szNode_ok n 1048576 hok (by omega) (by omega) (by simpa using h3)).1) rfl (.cons (.agg (.cons (.r .r) (.cons (.r .r) (.cons (.r .r) (.cons (.r .r) (.cons (.r .r) (.cons (.r .r) (.cons (.r .r) (.cons (.r .r) (.cons (.r .r) (.cons (.r .r) (.cons (.r .r) (.cons (.r .r) (.cons (.r .r) (.cons (.r .r) (.nil)))))))))))))))) (.nil)) rfl fun g16 => ?_
          refine RA.step (L := [0]) (by kernel_rfl) (by simp) (RA.each ?_ (RA.each0))
          · skip
            refine RO.v (ls' := #[true, true, true, false, false]) rfl rfl (V.loadAgg rfl rfl rfl rfl rfl (Nat.le_of_ble_eq_true rfl)) rfl ?_
            refine RA.step (L := [3]) (by kernel_rfl) (by simp) (RA.each ?_ (RA.each0))
            · skip
              refine RO.callOwn (ls' := #[true, true, true, true, false]) rfl rfl (laws_eqNode_fn n n) rfl (.cons (.agg (.cons (.r .r) (.cons (.r .r) (.cons (.r .r) (.cons (.r .r) (.cons (.r .r) (.cons (.r (.alo (k := none) (i := 5) (j := 5) (sz := 1) (V := (g6 0 5)) rfl rfl rfl nofun)) (.cons (.r .r) (.cons (.r .r) (.cons (.r (.alo (k := none) (i := 5) (j := 8) (sz := 3) (V := (g6 0 8)) rfl rfl rfl nofun)) (.cons (.r .r) (.cons (.r .r) (.cons (.r .r) (.cons (.r (.alo (k := none) (i := 5) (j := 12) (sz := 1) (V := (g6 0 12)) rfl rfl rfl nofun)) (.cons (.r (.alo (k := none) (i := 5) (j := 13) (sz := 4) (V := (g6 0 13)) rfl rfl rfl nofun)) (.nil)))))))))))))))) (.cons (.agg (.cons (.r .r) (.cons (.r .r) (.cons (.r .r) (.cons (.r .r) (.cons (.r .r) (.cons (.r (.ala (k := none) (i := 24) (j := 5) (sz := 1) (V := (g16 0 5)) rfl rfl rfl nofun)) (.cons (.r .r) (.cons (.r .r) (.cons (.r (.ala (k := none) (i := 24) (j := 8) (sz := 3) (V := (g16 0 8)) rfl rfl rfl nofun)) (.cons (.r .r) (.cons (.r .r) (.cons (.r .r) (.cons (.r (.ala (k := none) (i := 24) (j := 12) (sz := 1) (V := (g16 0 12)) rfl rfl rfl nofun)) (.cons (.r (.ala (k := none) (i := 24) (j := 13) (sz := 4) (V := (g16 0 13)) rfl rfl rfl nofun)) (.nil)))))))))))))))) (.nil))) rfl rfl fun g17 => ?_
              refine RA.step (L := [4]) (by kernel_rfl) (by simp) (RA.each ?_ (RA.each0))
              · skip
                refine RO.v (ls' := #[true, true, true, true, true]) rfl rfl (V.not rfl rfl) rfl ?_
                refine RA.fin (by kernel_rfl) ?_
                refine CW.le [(26, Bo (!(eqNode n n)))] rfl (Le.c rfl <| Le.e) ?_
                refine CW.cond rfl (fun h18 => ?_) (fun h18 => ?_)
                · skip
                  refine CW.seq ?_
                  refine CW.region ?_
                  refine RW.v rfl (V.as (d := Bo false) rfl rfl) ?_
                  refine RW.nil ?_
                  refine CW.le [(2, Bo false)] rfl (Le.c rfl <| Le.e) ?_
                  refine CW.ret ?_
                  exact Post.one (RV.b rfl (by first | rfl | simp_all [eqNode_refl])) (AOs.a rfl AOs.e)
                · skip
                  refine CW.skip ?_
                  refine CW.le [] rfl (Le.e) ?_
                  refine CW.seq ?_
                  refine CW.region ?_
                  refine RW.v rfl (V.as (d := Bo true) rfl rfl) ?_
                  refine RW.nil ?_
                  refine CW.le [(2, Bo true)] rfl (Le.c rfl <| Le.e) ?_
                  refine CW.ret ?_
                  exact Post.one (RV.b rfl (by first | rfl | simp_all [eqNode_refl])) (AOs.a rfl AOs.e)
end Go.Proofs.Ytbiocicogminlaa.Y
