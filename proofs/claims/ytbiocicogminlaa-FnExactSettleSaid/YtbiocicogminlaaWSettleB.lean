import Derived.Test.YtbiocicogminlaaWSettleA
namespace Go.Proofs.Ytbiocicogminlaa.Y
open Go Go.RowKit Go.Eng Go.Proofs
set_option maxHeartbeats 4000000 in
theorem laws_szEntryS_fn (a : List Entry) (left : Int) : Eng.Fn E.P 116 [.one (.r (sl 3 Entry.c a)), .one (.r (.v (.int .i64 left)))] (.one (.one (.w (.v (.int .i64 (szS szEntry a left)))))) [.one (.r (sl 3 Entry.c a)), .one (.r (.v (.int .i64 left)))] := by
 refine Eng.Fn.intro (E := E) (rvs := [.tmp 4]) Try.func116 rfl rfl rfl (by simp [outSlots, moved, rvSlot, sl]) ?_
 intro B g bo
 refine CW.bound (x := .tmp 0) (n := a.length) (AsT.r) (fun hl0 => ?_)
 refine CW.le [(0, .r (sl 3 Entry.c a)), (1, I left)] rfl (Le.of rfl) ?_
 refine CW.seq ?_
 refine CW.region ?_
 refine RW.v rfl (V.as (d := I 0) rfl rfl) ?_
 refine RW.nil ?_
 refine CW.le [(0, .r (sl 3 Entry.c a)), (1, I left)] rfl (Le.of rfl) ?_
 refine CW.seq ?_
 refine CW.region ?_
 refine RW.v rfl (V.mv (d := I left) rfl rfl) ?_
 refine RW.v rfl (V.mv (d := .r (sl 3 Entry.c a)) rfl rfl) ?_
 refine RW.v rfl (V.lenT (n := a.length) rfl rfl rfl .r) ?_
 refine RW.v rfl (V.arInt rfl rfl rfl rfl) ?_
 refine RW.v rfl (V.as (d := I (IntKind.i64.wrap (left - (a.length : Int)))) rfl rfl) ?_
 refine RW.nil ?_
 refine CW.le [(0, .r (sl 3 Entry.c a)), (1, I (IntKind.i64.wrap (left - (a.length : Int))))] rfl (Le.of rfl) ?_
 refine CW.seq ?_
 refine CW.seq ?_
 refine CW.region ?_
 refine RW.v rfl (V.mv (d := I (IntKind.i64.wrap (left - (a.length : Int)))) rfl rfl) ?_
 refine RW.v rfl (V.cmpInt rfl rfl rfl rfl) ?_
 refine RW.nil ?_
 refine CW.le [(0, .r (sl 3 Entry.c a)), (1, I (IntKind.i64.wrap (left - (a.length : Int)))), (11, Bo (decide ((IntKind.i64.wrap (left - (a.length : Int))) < 0)))] rfl (Le.of rfl) ?_
 refine CW.cond rfl (fun h1 => ?_) (fun h1 => ?_)
 ·skip
  refine CW.seq ?_
  refine CW.region ?_
  refine RW.v rfl (V.as (d := I (-1)) rfl rfl) ?_
  refine RW.nil ?_
  refine CW.le [(4, I (-1))] rfl (Le.of rfl) ?_
  refine CW.ret ?_
  exact Post.one (RV.i rfl (by first | (simp_all [szS, szL, szStr, szI]; done) | grind [szS, szL, szStr, szI])) (AOs.r (AOs.r AOs.e))
 ·skip
  refine CW.skip ?_
  refine CW.le [(0, .r (sl 3 Entry.c a)), (1, I (IntKind.i64.wrap (left - (a.length : Int))))] rfl (Le.of rfl) ?_
  refine CW.seq ?_
  refine CW.seq ?_
  refine CW.region ?_
  refine RW.v rfl (V.as (d := I 0) rfl rfl) ?_
  refine RW.nil ?_
  refine CW.le [(0, .r (sl 3 Entry.c a)), (1, I (IntKind.i64.wrap (left - (a.length : Int)))), (5, I 0)] rfl (Le.of rfl) ?_
  refine CW.block ?_
  refine CW.loopI 27 (fun (x : Nat × Int) => match x with | (i, l) => [(0, .r (sl 3 Entry.c a)), (1, I l), (5, I (i : Int))]) (fun (x : Nat × Int) => match x with | (i, l) => i ≤ a.length ∧ szL szEntry (a.drop i) l = szS szEntry a left) (fun (x : Nat × Int) => match x with | (i, l) => a.length - i) (0, _) rfl (Le.c rfl <| Le.c rfl <| Le.c rfl <| Le.e) ⟨by omega, by first | (simp_all [szS]; done) | grind [szS]⟩ ?_
  rintro ⟨i, l⟩ ⟨hb, hr⟩
  refine CW.seq ?_
  refine CW.seq ?_
  refine CW.region ?_
  refine RW.v rfl (V.mv (d := I (i : Int)) rfl rfl) ?_
  refine RW.v rfl (V.mv (d := .r (sl 3 Entry.c a)) rfl rfl) ?_
  refine RW.v rfl (V.lenT (n := a.length) rfl rfl rfl .r) ?_
  refine RW.v rfl (V.cmpInt rfl rfl rfl rfl) ?_
  refine RW.nil ?_
  refine CW.le [(0, .r (sl 3 Entry.c a)), (1, I l), (5, I (i : Int)), (15, Bo (decide ((i : Int) < (a.length : Int))))] rfl (Le.of rfl) ?_
  refine CW.cond rfl (fun h2 => ?_) (fun h2 => ?_)
  ·skip
   have hii : i < a.length := by have := h2; simp at this; first | exact this | omega | (simp; done) | (simp; omega)
   obtain ⟨ei, hei⟩ : ∃ e, a[i]? = some e := ⟨_, List.getElem?_eq_getElem hii⟩
   have hdi := drop_get hei
   refine CW.skip ?_
   refine CW.le [(0, .r (sl 3 Entry.c a)), (1, I l), (5, I (i : Int))] rfl (Le.of rfl) ?_
   refine CW.seq ?_
   refine CW.block ?_
   refine CW.seq ?_
   refine CW.region ?_
   refine RW.v rfl (V.mv (d := .r (sl 3 Entry.c a)) rfl rfl) ?_
   refine RW.v rfl (V.mv (d := I (i : Int)) rfl rfl) ?_
   refine RW.v rfl (V.indexS rfl rfl rfl rfl rfl rfl Entry.len hei) ?_
   refine RW.v rfl (V.loadAggR rfl rfl rfl rfl (Nat.le_of_ble_eq_true rfl)) ?_
   refine RW.v rfl (V.mv (d := I l) rfl rfl) ?_
   refine RW.call rfl (laws_szEntry_fn ei l) rfl (.cons (.agg (.cons (.r .r) (.cons (.r .r) (.cons (.r .r) (.nil))))) (.cons (.one (.r .r)) (.nil))) fun g3 => ?_
   refine RW.v rfl (V.as (d := I (szEntry ei l)) rfl rfl) ?_
   refine RW.nil ?_
   refine CW.le [(0, .r (sl 3 Entry.c a)), (1, I (szEntry ei l)), (5, I (i : Int))] rfl (Le.of rfl) ?_
   refine CW.seq ?_
   refine CW.region ?_
   refine RW.v rfl (V.mv (d := I (szEntry ei l)) rfl rfl) ?_
   refine RW.v rfl (V.cmpInt rfl rfl rfl rfl) ?_
   refine RW.nil ?_
   refine CW.le [(0, .r (sl 3 Entry.c a)), (1, I (szEntry ei l)), (5, I (i : Int)), (25, Bo (decide ((szEntry ei l) < 0)))] rfl (Le.of rfl) ?_
   refine CW.cond rfl (fun h4 => ?_) (fun h4 => ?_)
   ·skip
    refine CW.seq ?_
    refine CW.region ?_
    refine RW.v rfl (V.as (d := I (-1)) rfl rfl) ?_
    refine RW.nil ?_
    refine CW.le [(4, I (-1))] rfl (Le.of rfl) ?_
    refine CW.ret ?_
    exact Post.one (RV.i rfl (by first | (simp_all [szS, szL, szStr, szI]; done) | grind [szS, szL, szStr, szI])) (AOs.r (AOs.r AOs.e))
   ·skip
    refine CW.skip ?_
    refine CW.le [(0, .r (sl 3 Entry.c a)), (1, I (szEntry ei l)), (5, I (i : Int))] rfl (Le.of rfl) ?_
    refine CW.region ?_
    refine RW.v rfl (V.mv (d := I (i : Int)) rfl rfl) ?_
    refine RW.v rfl (V.inc rfl rfl rfl hii hl0) ?_
    refine RW.v rfl (V.as (d := I ((i + 1 : Nat) : Int)) rfl rfl) ?_
    refine RW.nil ?_
    exact ⟨(i + 1, _), by simp only []; omega, ⟨by omega, by first | (simp_all [szL, szStr, szI]; done) | grind [szL, szStr, szI]⟩, rfl, Le.c rfl <| Le.c rfl <| Le.c rfl <| Le.e⟩
  ·skip
   have hii : a.length ≤ i := by have := h2; simp at this; first | exact this | omega | (simp; done) | (simp; omega)
   have hdi : a.drop i = [] := List.drop_eq_nil_of_le hii
   refine CW.exit ?_
   refine CW.le [(1, I l)] rfl (Le.of rfl) ?_
   refine CW.seq ?_
   refine CW.region ?_
   refine RW.v rfl (V.mv (d := I l) rfl rfl) ?_
   refine RW.v rfl (V.as (d := I l) rfl rfl) ?_
   refine RW.nil ?_
   refine CW.le [(4, I l)] rfl (Le.of rfl) ?_
   refine CW.ret ?_
   exact Post.one (RV.i rfl (by first | (simp_all [szS, szL, szStr, szI]; done) | grind [szS, szL, szStr, szI])) (AOs.r (AOs.r AOs.e))
set_option maxHeartbeats 4000000 in
theorem laws_szLog_fn (a : Log) (left : Int) : Eng.Fn E.P 54 [.agg ((Log.c a).map .r), .one (.r (.v (.int .i64 left)))] (.one (.one (.w (.v (.int .i64 (szLog a left)))))) [.agg ((Log.c a).map .r), .one (.r (.v (.int .i64 left)))] := by
 refine Eng.Fn.intro (E := E) (rvs := [.tmp 4]) Try.func54 rfl rfl rfl (by simp [outSlots, moved, rvSlot, sl]) ?_
 intro B g bo
 refine CW.le [(0, .agg ((Log.c a).map .r)), (1, I left)] rfl (Le.of rfl) ?_
 refine CW.seq ?_
 refine CW.region ?_
 refine RW.box (ds := ((Log.c a).map .r)) rfl rfl rfl fun b1 => ?_
 refine RW.v rfl (V.as (d := I 0) rfl rfl) ?_
 refine RW.nil ?_
 refine CW.le [(1, I left), (2, .obj b1 ((Log.c a).map .r))] rfl (Le.of rfl) ?_
 refine CW.seq ?_
 refine CW.region ?_
 refine RW.v rfl (V.field rfl rfl rfl rfl (by decide) rfl) ?_
 refine RW.v rfl (V.loadPrim (d := .r (sl 3 Entry.c a.entries)) rfl rfl (.inr ⟨_, rfl⟩) rfl rfl rfl) ?_
 refine RW.v rfl (V.mv (d := I left) rfl rfl) ?_
 refine RW.call rfl (laws_szEntryS_fn a.entries left) rfl (.cons (.one (.r .r)) (.cons (.one (.r .r)) (.nil))) fun g2 => ?_
 refine RW.v rfl (V.as (d := I (szS szEntry a.entries left)) rfl rfl) ?_
 refine RW.nil ?_
 refine CW.le [(1, I (szS szEntry a.entries left))] rfl (Le.of rfl) ?_
 refine CW.seq ?_
 refine CW.seq ?_
 refine CW.region ?_
 refine RW.v rfl (V.mv (d := I (szS szEntry a.entries left)) rfl rfl) ?_
 refine RW.v rfl (V.cmpInt rfl rfl rfl rfl) ?_
 refine RW.nil ?_
 refine CW.le [(1, I (szS szEntry a.entries left)), (10, Bo (decide ((szS szEntry a.entries left) < 0)))] rfl (Le.of rfl) ?_
 refine CW.cond rfl (fun h3 => ?_) (fun h3 => ?_)
 ·skip
  refine CW.seq ?_
  refine CW.region ?_
  refine RW.v rfl (V.as (d := I (-1)) rfl rfl) ?_
  refine RW.nil ?_
  refine CW.le [(4, I (-1))] rfl (Le.of rfl) ?_
  refine CW.ret ?_
  exact Post.one (RV.i rfl (by first | (simp_all [szLog]; done) | (simp_all [szLog]; omega) | grind [szLog])) (AOs.a rfl (AOs.r AOs.e))
 ·skip
  refine CW.skip ?_
  refine CW.le [(1, I (szS szEntry a.entries left))] rfl (Le.of rfl) ?_
  refine CW.seq ?_
  refine CW.region ?_
  refine RW.v rfl (V.mv (d := I (szS szEntry a.entries left)) rfl rfl) ?_
  refine RW.v rfl (V.as (d := I (szS szEntry a.entries left)) rfl rfl) ?_
  refine RW.nil ?_
  refine CW.le [(4, I (szS szEntry a.entries left))] rfl (Le.of rfl) ?_
  refine CW.ret ?_
  exact Post.one (RV.i rfl (by first | (simp_all [szLog]; done) | (simp_all [szLog]; omega) | grind [szLog])) (AOs.a rfl (AOs.r AOs.e))
set_option maxHeartbeats 4000000 in
theorem laws_szPeerS_fn (a : List Peer) (left : Int) : Eng.Fn E.P 55 [.one (.r (sl 4 Peer.c a)), .one (.r (.v (.int .i64 left)))] (.one (.one (.w (.v (.int .i64 (szI a left)))))) [.one (.r (sl 4 Peer.c a)), .one (.r (.v (.int .i64 left)))] := by
 refine Eng.Fn.intro (E := E) (rvs := [.tmp 4]) Try.func55 rfl rfl rfl (by simp [outSlots, moved, rvSlot, sl]) ?_
 intro B g bo
 refine CW.bound (x := .tmp 0) (n := a.length) (AsT.r) (fun hl0 => ?_)
 refine CW.le [(0, .r (sl 4 Peer.c a)), (1, I left)] rfl (Le.of rfl) ?_
 refine CW.seq ?_
 refine CW.region ?_
 refine RW.v rfl (V.as (d := I 0) rfl rfl) ?_
 refine RW.nil ?_
 refine CW.le [(0, .r (sl 4 Peer.c a)), (1, I left)] rfl (Le.of rfl) ?_
 refine CW.seq ?_
 refine CW.region ?_
 refine RW.v rfl (V.mv (d := I left) rfl rfl) ?_
 refine RW.v rfl (V.mv (d := .r (sl 4 Peer.c a)) rfl rfl) ?_
 refine RW.v rfl (V.lenT (n := a.length) rfl rfl rfl .r) ?_
 refine RW.v rfl (V.arInt rfl rfl rfl rfl) ?_
 refine RW.v rfl (V.as (d := I (IntKind.i64.wrap (left - (a.length : Int)))) rfl rfl) ?_
 refine RW.nil ?_
 refine CW.le [(1, I (IntKind.i64.wrap (left - (a.length : Int))))] rfl (Le.of rfl) ?_
 refine CW.seq ?_
 refine CW.seq ?_
 refine CW.region ?_
 refine RW.v rfl (V.mv (d := I (IntKind.i64.wrap (left - (a.length : Int)))) rfl rfl) ?_
 refine RW.v rfl (V.cmpInt rfl rfl rfl rfl) ?_
 refine RW.nil ?_
 refine CW.le [(1, I (IntKind.i64.wrap (left - (a.length : Int)))), (10, Bo (decide ((IntKind.i64.wrap (left - (a.length : Int))) < 0)))] rfl (Le.of rfl) ?_
 refine CW.cond rfl (fun h1 => ?_) (fun h1 => ?_)
 ·skip
  refine CW.seq ?_
  refine CW.region ?_
  refine RW.v rfl (V.as (d := I (-1)) rfl rfl) ?_
  refine RW.nil ?_
  refine CW.le [(4, I (-1))] rfl (Le.of rfl) ?_
  refine CW.ret ?_
  exact Post.one (RV.i rfl (by first | (simp_all [szI]; done) | (simp_all [szI]; omega))) (AOs.r (AOs.r AOs.e))
 ·skip
  refine CW.skip ?_
  refine CW.le [(1, I (IntKind.i64.wrap (left - (a.length : Int))))] rfl (Le.of rfl) ?_
  refine CW.seq ?_
  refine CW.region ?_
  refine RW.v rfl (V.mv (d := I (IntKind.i64.wrap (left - (a.length : Int)))) rfl rfl) ?_
  refine RW.v rfl (V.as (d := I (IntKind.i64.wrap (left - (a.length : Int)))) rfl rfl) ?_
  refine RW.nil ?_
  refine CW.le [(4, I (IntKind.i64.wrap (left - (a.length : Int))))] rfl (Le.of rfl) ?_
  refine CW.ret ?_
  exact Post.one (RV.i rfl (by first | (simp_all [szI]; done) | (simp_all [szI]; omega))) (AOs.r (AOs.r AOs.e))
set_option maxHeartbeats 4000000 in
theorem laws_szNode_fn (a : Node) (left : Int) : Eng.Fn E.P 19 [.agg ((Node.c a).map .r), .one (.r (.v (.int .i64 left)))] (.one (.one (.w (.v (.int .i64 (szNode a left)))))) [.agg ((Node.c a).map .r), .one (.r (.v (.int .i64 left)))] := by
 refine Eng.Fn.intro (E := E) (rvs := [.tmp 4]) Try.func19 rfl rfl rfl (by simp [outSlots, moved, rvSlot, sl]) ?_
 intro B g bo
 refine CW.le [(0, .agg ((Node.c a).map .r)), (1, I left)] rfl (Le.of rfl) ?_
 refine CW.seq ?_
 refine CW.region ?_
 refine RW.box (ds := ((Node.c a).map .r)) rfl rfl rfl fun b1 => ?_
 refine RW.v rfl (V.as (d := I 0) rfl rfl) ?_
 refine RW.nil ?_
 refine CW.le [(1, I left), (2, .obj b1 ((Node.c a).map .r))] rfl (Le.of rfl) ?_
 refine CW.seq ?_
 refine CW.region ?_
 refine RW.v rfl (V.field rfl rfl rfl rfl (by decide) rfl) ?_
 refine RW.v rfl (V.loadPrim (d := .r (sl 1 cI a.conf)) rfl rfl (.inr ⟨_, rfl⟩) rfl rfl rfl) ?_
 refine RW.v rfl (V.mv (d := I left) rfl rfl) ?_
 refine RW.call rfl (laws_szIntS_fn a.conf left) rfl (.cons (.one (.r .r)) (.cons (.one (.r .r)) (.nil))) fun g2 => ?_
 refine RW.v rfl (V.as (d := I (szI a.conf left)) rfl rfl) ?_
 refine RW.nil ?_
 refine CW.le [(1, I (szI a.conf left)), (2, .obj b1 ((Node.c a).map .r))] rfl (Le.of rfl) ?_
 refine CW.seq ?_
 refine CW.seq ?_
 refine CW.region ?_
 refine RW.v rfl (V.mv (d := I (szI a.conf left)) rfl rfl) ?_
 refine RW.v rfl (V.cmpInt rfl rfl rfl rfl) ?_
 refine RW.nil ?_
 refine CW.le [(1, I (szI a.conf left)), (2, .obj b1 ((Node.c a).map .r)), (10, Bo (decide ((szI a.conf left) < 0)))] rfl (Le.of rfl) ?_
 refine CW.cond rfl (fun h3 => ?_) (fun h3 => ?_)
 ·skip
  refine CW.seq ?_
  refine CW.region ?_
  refine RW.v rfl (V.as (d := I (-1)) rfl rfl) ?_
  refine RW.nil ?_
  refine CW.le [(4, I (-1))] rfl (Le.of rfl) ?_
  refine CW.ret ?_
  exact Post.one (RV.i rfl (by first | (simp_all [szNode]; done) | (simp_all [szNode]; omega) | grind [szNode])) (AOs.a rfl (AOs.r AOs.e))
 ·skip
  refine CW.skip ?_
  refine CW.le [(1, I (szI a.conf left)), (2, .obj b1 ((Node.c a).map .r))] rfl (Le.of rfl) ?_
  refine CW.seq ?_
  refine CW.region ?_
  refine RW.v rfl (V.field rfl rfl rfl rfl (by decide) rfl) ?_
  refine RW.v rfl (V.loadAgg rfl rfl rfl rfl rfl (Nat.le_of_ble_eq_true rfl)) ?_
  refine RW.v rfl (V.mv (d := I (szI a.conf left)) rfl rfl) ?_
  refine RW.call rfl (laws_szLog_fn a.log (szI a.conf left)) rfl (.cons (.agg (.cons (.r .r) (.cons (.r .r) (.cons (.r .r) (.nil))))) (.cons (.one (.r .r)) (.nil))) fun g4 => ?_
  refine RW.v rfl (V.as (d := I (szLog a.log (szI a.conf left))) rfl rfl) ?_
  refine RW.nil ?_
  refine CW.le [(1, I (szLog a.log (szI a.conf left))), (2, .obj b1 ((Node.c a).map .r))] rfl (Le.of rfl) ?_
  refine CW.seq ?_
  refine CW.seq ?_
  refine CW.region ?_
  refine RW.v rfl (V.mv (d := I (szLog a.log (szI a.conf left))) rfl rfl) ?_
  refine RW.v rfl (V.cmpInt rfl rfl rfl rfl) ?_
  refine RW.nil ?_
  refine CW.le [(1, I (szLog a.log (szI a.conf left))), (2, .obj b1 ((Node.c a).map .r)), (16, Bo (decide ((szLog a.log (szI a.conf left)) < 0)))] rfl (Le.of rfl) ?_
  refine CW.cond rfl (fun h5 => ?_) (fun h5 => ?_)
  ·skip
   refine CW.seq ?_
   refine CW.region ?_
   refine RW.v rfl (V.as (d := I (-1)) rfl rfl) ?_
   refine RW.nil ?_
   refine CW.le [(4, I (-1))] rfl (Le.of rfl) ?_
   refine CW.ret ?_
   exact Post.one (RV.i rfl (by first | (simp_all [szNode]; done) | (simp_all [szNode]; omega) | grind [szNode])) (AOs.a rfl (AOs.r AOs.e))
  ·skip
   refine CW.skip ?_
   refine CW.le [(1, I (szLog a.log (szI a.conf left))), (2, .obj b1 ((Node.c a).map .r))] rfl (Le.of rfl) ?_
   refine CW.seq ?_
   refine CW.region ?_
   refine RW.v rfl (V.field rfl rfl rfl rfl (by decide) rfl) ?_
   refine RW.v rfl (V.loadPrim (d := .r (sl 1 cI a.votes)) rfl rfl (.inr ⟨_, rfl⟩) rfl rfl rfl) ?_
   refine RW.v rfl (V.mv (d := I (szLog a.log (szI a.conf left))) rfl rfl) ?_
   refine RW.call rfl (laws_szIntS_fn a.votes (szLog a.log (szI a.conf left))) rfl (.cons (.one (.r .r)) (.cons (.one (.r .r)) (.nil))) fun g6 => ?_
   refine RW.v rfl (V.as (d := I (szI a.votes (szLog a.log (szI a.conf left)))) rfl rfl) ?_
   refine RW.nil ?_
   refine CW.le [(1, I (szI a.votes (szLog a.log (szI a.conf left)))), (2, .obj b1 ((Node.c a).map .r))] rfl (Le.of rfl) ?_
   refine CW.seq ?_
   refine CW.seq ?_
   refine CW.region ?_
   refine RW.v rfl (V.mv (d := I (szI a.votes (szLog a.log (szI a.conf left)))) rfl rfl) ?_
   refine RW.v rfl (V.cmpInt rfl rfl rfl rfl) ?_
   refine RW.nil ?_
   refine CW.le [(1, I (szI a.votes (szLog a.log (szI a.conf left)))), (2, .obj b1 ((Node.c a).map .r)), (22, Bo (decide ((szI a.votes (szLog a.log (szI a.conf left))) < 0)))] rfl (Le.of rfl) ?_
   refine CW.cond rfl (fun h7 => ?_) (fun h7 => ?_)
   ·skip
    refine CW.seq ?_
    refine CW.region ?_
    refine RW.v rfl (V.as (d := I (-1)) rfl rfl) ?_
    refine RW.nil ?_
    refine CW.le [(4, I (-1))] rfl (Le.of rfl) ?_
    refine CW.ret ?_
    exact Post.one (RV.i rfl (by first | (simp_all [szNode]; done) | (simp_all [szNode]; omega) | grind [szNode])) (AOs.a rfl (AOs.r AOs.e))
   ·skip
    refine CW.skip ?_
    refine CW.le [(1, I (szI a.votes (szLog a.log (szI a.conf left)))), (2, .obj b1 ((Node.c a).map .r))] rfl (Le.of rfl) ?_
    refine CW.seq ?_
    refine CW.region ?_
    refine RW.v rfl (V.field rfl rfl rfl rfl (by decide) rfl) ?_
    refine RW.v rfl (V.loadPrim (d := .r (sl 4 Peer.c a.peers)) rfl rfl (.inr ⟨_, rfl⟩) rfl rfl rfl) ?_
    refine RW.v rfl (V.mv (d := I (szI a.votes (szLog a.log (szI a.conf left)))) rfl rfl) ?_
    refine RW.call rfl (laws_szPeerS_fn a.peers (szI a.votes (szLog a.log (szI a.conf left)))) rfl (.cons (.one (.r .r)) (.cons (.one (.r .r)) (.nil))) fun g8 => ?_
    refine RW.v rfl (V.as (d := I (szI a.peers (szI a.votes (szLog a.log (szI a.conf left))))) rfl rfl) ?_
    refine RW.nil ?_
    refine CW.le [(1, I (szI a.peers (szI a.votes (szLog a.log (szI a.conf left)))))] rfl (Le.of rfl) ?_
    refine CW.seq ?_
    refine CW.seq ?_
    refine CW.region ?_
    refine RW.v rfl (V.mv (d := I (szI a.peers (szI a.votes (szLog a.log (szI a.conf left))))) rfl rfl) ?_
    refine RW.v rfl (V.cmpInt rfl rfl rfl rfl) ?_
    refine RW.nil ?_
    refine CW.le [(1, I (szI a.peers (szI a.votes (szLog a.log (szI a.conf left))))), (28, Bo (decide ((szI a.peers (szI a.votes (szLog a.log (szI a.conf left)))) < 0)))] rfl (Le.of rfl) ?_
    refine CW.cond rfl (fun h9 => ?_) (fun h9 => ?_)
    ·skip
     refine CW.seq ?_
     refine CW.region ?_
     refine RW.v rfl (V.as (d := I (-1)) rfl rfl) ?_
     refine RW.nil ?_
     refine CW.le [(4, I (-1))] rfl (Le.of rfl) ?_
     refine CW.ret ?_
     exact Post.one (RV.i rfl (by first | (simp_all [szNode]; done) | (simp_all [szNode]; omega) | grind [szNode])) (AOs.a rfl (AOs.r AOs.e))
    ·skip
     refine CW.skip ?_
     refine CW.le [(1, I (szI a.peers (szI a.votes (szLog a.log (szI a.conf left)))))] rfl (Le.of rfl) ?_
     refine CW.seq ?_
     refine CW.region ?_
     refine RW.v rfl (V.mv (d := I (szI a.peers (szI a.votes (szLog a.log (szI a.conf left))))) rfl rfl) ?_
     refine RW.v rfl (V.as (d := I (szI a.peers (szI a.votes (szLog a.log (szI a.conf left))))) rfl rfl) ?_
     refine RW.nil ?_
     refine CW.le [(4, I (szI a.peers (szI a.votes (szLog a.log (szI a.conf left)))))] rfl (Le.of rfl) ?_
     refine CW.ret ?_
     exact Post.one (RV.i rfl (by first | (simp_all [szNode]; done) | (simp_all [szNode]; omega) | grind [szNode])) (AOs.a rfl (AOs.r AOs.e))
set_option maxHeartbeats 4000000 in
theorem laws_toIntS_fn (a : List Int) (hm : a.length ≤ 1048576) : Eng.Fn E.P 25 [.one (.r (sl 1 cI a))] (.one (.one (.w (sl 1 cI a)))) [.one (.r (sl 1 cI a))] := by
 refine Eng.Fn.intro (E := E) (rvs := [.tmp 2]) Try.func25 rfl rfl rfl (by simp [outSlots, moved, rvSlot, sl]) ?_
 intro B g bo
 refine CW.bound (x := .tmp 0) (n := a.length) (AsT.r) (fun hl0 => ?_)
 refine CW.le [(0, .r (sl 1 cI a))] rfl (Le.of rfl) ?_
 refine CW.seq ?_
 refine CW.region ?_
 refine RW.v rfl (V.as (d := .r (.v (.slice none 0 0))) rfl rfl) ?_
 refine RW.nil ?_
 refine CW.le [(0, .r (sl 1 cI a))] rfl (Le.of rfl) ?_
 refine CW.seq ?_
 refine CW.region ?_
 refine RW.v rfl (V.mv (d := .r (sl 1 cI a)) rfl rfl) ?_
 refine RW.v rfl (V.lenT (n := a.length) rfl rfl rfl .r) ?_
 refine RW.makeS (n := a.length) (c := cI) 0 rfl rfl rfl rfl rfl rfl rfl rfl (ZT.v ZT.e) (by show 8 * a.length ≤ 281474976710656; omega) (by simp only [maxLen]; omega) fun X1 => ?_
 refine RW.assignMove rfl rfl rfl (by decide) (Nat.le_of_ble_eq_true rfl) (Nat.le_of_ble_eq_true rfl) ?_
 refine RW.nil ?_
 refine CW.le [(0, .r (sl 1 cI a)), (3, .w (sl 1 cI (List.replicate a.length 0)) X1)] rfl (Le.of rfl) ?_
 refine CW.seq ?_
 refine CW.seq ?_
 refine CW.region ?_
 refine RW.v rfl (V.as (d := I 0) rfl rfl) ?_
 refine RW.nil ?_
 refine CW.le [(0, .r (sl 1 cI a)), (3, .w (sl 1 cI (List.replicate a.length 0)) X1), (4, I 0)] rfl (Le.of rfl) ?_
 refine CW.block ?_
 refine CW.loopI 22 (fun (i : Nat) => [(0, .r (sl 1 cI a)), (3, .w (sl 1 cI (a.take i ++ List.replicate (a.length - i) 0)) X1), (4, I (i : Int))]) (fun (i : Nat) => i ≤ a.length) (fun (i : Nat) => a.length - i) 0 rfl (Le.c rfl <| Le.c rfl <| Le.c rfl <| Le.e) (by omega) ?_
 rintro i hb
 refine CW.seq ?_
 refine CW.seq ?_
 refine CW.region ?_
 refine RW.v rfl (V.mv (d := I (i : Int)) rfl rfl) ?_
 refine RW.v rfl (V.mv (d := .r (sl 1 cI a)) rfl rfl) ?_
 refine RW.v rfl (V.lenT (n := a.length) rfl rfl rfl .r) ?_
 refine RW.v rfl (V.cmpInt rfl rfl rfl rfl) ?_
 refine RW.nil ?_
 refine CW.le [(0, .r (sl 1 cI a)), (3, .w (sl 1 cI (a.take i ++ List.replicate (a.length - i) 0)) X1), (4, I (i : Int)), (11, Bo (decide ((i : Int) < (a.length : Int))))] rfl (Le.of rfl) ?_
 refine CW.cond rfl (fun h2 => ?_) (fun h2 => ?_)
 ·skip
  have hii : i < a.length := by have := h2; simp at this; first | exact this | omega | (simp; done) | (simp; omega)
  obtain ⟨ei, hei⟩ : ∃ e, a[i]? = some e := ⟨_, List.getElem?_eq_getElem hii⟩
  have hdi := drop_get hei
  refine CW.skip ?_
  refine CW.le [(0, .r (sl 1 cI a)), (3, .w (sl 1 cI (a.take i ++ List.replicate (a.length - i) 0)) X1), (4, I (i : Int))] rfl (Le.of rfl) ?_
  refine CW.seq ?_
  refine CW.block ?_
  refine CW.region ?_
  refine RW.v rfl (V.mv (d := .al 3 none 1 ((a.take i ++ List.replicate (a.length - i) 0).length) X1 0) rfl rfl) ?_
  refine RW.v rfl (V.mv (d := I (i : Int)) rfl rfl) ?_
  refine RW.v rfl (V.mv (d := .r (sl 1 cI a)) rfl rfl) ?_
  refine RW.v rfl (V.mv (d := I (i : Int)) rfl rfl) ?_
  refine RW.v rfl (V.indexS rfl rfl rfl rfl rfl rfl cI.len hei) ?_
  refine RW.v rfl (V.loadPrimR (t0 := .v (.int .i64 ei)) rfl rfl (.inl rfl) rfl rfl) ?_
  refine RW.v rfl (V.indexW rfl rfl rfl rfl rfl rfl rfl (by simp; omega)) ?_
  refine RW.storeS1 (v := ei) (c := cI) (u := .v (.int .i64 ei)) rfl rfl rfl rfl rfl rfl rfl (.inl rfl) rfl cI.len (by simp; omega) rfl ?_
  refine RW.nil ?_
  refine CW.le [(0, .r (sl 1 cI a)), (3, .w (sl 1 cI ((a.take i ++ List.replicate (a.length - i) 0).set i ei)) X1), (4, I (i : Int))] rfl (Le.of rfl) ?_
  refine CW.region ?_
  refine RW.v rfl (V.mv (d := I (i : Int)) rfl rfl) ?_
  refine RW.v rfl (V.inc rfl rfl rfl hii hl0) ?_
  refine RW.v rfl (V.as (d := I ((i + 1 : Nat) : Int)) rfl rfl) ?_
  refine RW.nil ?_
  exact ⟨i + 1, by omega, by omega, rfl, Le.c rfl <| Le.c (congrArg (fun l => D.w (sl _ cI l) X1) (take_set hei)) <| Le.c rfl <| Le.e⟩
 ·skip
  have hii : a.length ≤ i := by have := h2; simp at this; first | exact this | omega | (simp; done) | (simp; omega)
  have hdi : a.drop i = [] := List.drop_eq_nil_of_le hii
  refine CW.exit ?_
  refine CW.le [(3, .w (sl 1 cI (a.take i ++ List.replicate (a.length - i) 0)) X1)] rfl (Le.of rfl) ?_
  refine CW.seq ?_
  refine CW.region ?_
  refine RW.v rfl (V.mv (d := .al 3 none 1 ((a.take i ++ List.replicate (a.length - i) 0).length) X1 0) rfl rfl) ?_
  refine RW.v rfl (V.as (d := .al 3 none 1 ((a.take i ++ List.replicate (a.length - i) 0).length) X1 0) rfl rfl) ?_
  refine RW.pullS 2 3 (by decide) rfl rfl ?_
  refine RW.nil ?_
  refine CW.le [(2, .w (sl 1 cI (a.take i ++ List.replicate (a.length - i) 0)) X1)] rfl (Le.of rfl) ?_
  refine CW.ret ?_
  exact Post.one (RV.w rfl (by rw [List.take_of_length_le hii, show a.length - i = 0 from by omega]; simp)) (AOs.r AOs.e)
set_option maxHeartbeats 4000000 in
theorem laws_toEntry_fn (a : Entry) (hs : okToEntry a) : Eng.Fn E.P 115 [.agg ((Entry.c a).map .r)] (.one (.agg ((Entry.c a).map .w))) [.agg ((Entry.c a).map .r)] := by
 refine Eng.Fn.intro (E := E) (rvs := [.cell 2 81]) Try.func115 rfl rfl rfl (by simp [outSlots, moved, rvSlot, sl]) ?_
 intro B g bo
 refine CW.le [(0, .agg ((Entry.c a).map .r))] rfl (Le.of rfl) ?_
 refine CW.seq ?_
 refine CW.region ?_
 refine RW.box (ds := ((Entry.c a).map .r)) rfl rfl rfl fun b1 => ?_
 refine RW.alloc (ds := [I 0, I 0, S (⟨#[]⟩)]) rfl rfl rfl rfl fun b2 => ?_
 refine RW.nil ?_
 refine CW.le [(1, .obj b1 ((Entry.c a).map .r)), (2, .obj b2 [I 0, I 0, S (⟨#[]⟩)])] rfl (Le.of rfl) ?_
 refine CW.seq ?_
 refine CW.region ?_
 refine RW.alloc (ds := [I 0, I 0, S (⟨#[]⟩)]) rfl rfl rfl rfl fun b3 => ?_
 refine RW.nil ?_
 refine CW.le [(1, .obj b1 ((Entry.c a).map .r)), (2, .obj b2 [I 0, I 0, S (⟨#[]⟩)]), (3, .obj b3 [I 0, I 0, S (⟨#[]⟩)])] rfl (Le.of rfl) ?_
 refine CW.seq ?_
 refine CW.region ?_
 refine RW.v rfl (V.field rfl rfl rfl rfl (by decide) rfl) ?_
 refine RW.v rfl (V.loadPrim (d := I a.term_) rfl rfl (.inl rfl) rfl rfl rfl) ?_
 refine RW.v rfl (V.field rfl rfl rfl rfl (by decide) rfl) ?_
 refine RW.store (d := I a.term_) rfl rfl rfl rfl rfl rfl rfl (Nat.le_of_ble_eq_true rfl) rfl rfl ?_
 refine RW.nil ?_
 refine CW.le [(1, .obj b1 ((Entry.c a).map .r)), (2, .obj b2 [I 0, I 0, S (⟨#[]⟩)]), (3, .obj b3 [I a.term_, I 0, S (⟨#[]⟩)])] rfl (Le.of rfl) ?_
 refine CW.seq ?_
 refine CW.region ?_
 refine RW.v rfl (V.field rfl rfl rfl rfl (by decide) rfl) ?_
 refine RW.v rfl (V.loadPrim (d := I a.kind) rfl rfl (.inl rfl) rfl rfl rfl) ?_
 refine RW.v rfl (V.field rfl rfl rfl rfl (by decide) rfl) ?_
 refine RW.store (d := I a.kind) rfl rfl rfl rfl rfl rfl rfl (Nat.le_of_ble_eq_true rfl) rfl rfl ?_
 refine RW.nil ?_
 refine CW.le [(1, .obj b1 ((Entry.c a).map .r)), (2, .obj b2 [I 0, I 0, S (⟨#[]⟩)]), (3, .obj b3 [I a.term_, I a.kind, S (⟨#[]⟩)])] rfl (Le.of rfl) ?_
 refine CW.seq ?_
 refine CW.region ?_
 refine RW.v rfl (V.field rfl rfl rfl rfl (by decide) rfl) ?_
 refine RW.v rfl (V.loadPrim (d := S a.data) rfl rfl (.inl rfl) rfl rfl rfl) ?_
 refine RW.v rfl (V.field rfl rfl rfl rfl (by decide) rfl) ?_
 refine RW.store (d := S a.data) rfl rfl rfl rfl rfl rfl rfl (Nat.le_of_ble_eq_true rfl) rfl rfl ?_
 refine RW.nil ?_
 refine CW.le [(2, .obj b2 [I 0, I 0, S (⟨#[]⟩)]), (3, .obj b3 ((Entry.c a).map .r))] rfl (Le.of rfl) ?_
 refine CW.seq ?_
 refine CW.region ?_
 refine RW.v rfl (V.loadAgg rfl rfl rfl rfl rfl (Nat.le_of_ble_eq_true rfl)) ?_
 refine RW.storeAgg (es := ((Entry.c a).map .r)) rfl rfl rfl rfl rfl rfl rfl rfl (Nat.le_of_ble_eq_true rfl) rfl ?_
 refine RW.nil ?_
 refine CW.le [(2, .obj b2 ((Entry.c a).map .r))] rfl (Le.of rfl) ?_
 refine CW.ret ?_
 exact Post.one (RV.c (f := fun e => (Entry.c e).map .w) (e' := a) rfl rfl rfl rfl (DT.v (DT.v (DT.v DT.e))) (by simp_all)) (AOs.a rfl AOs.e)
set_option maxHeartbeats 4000000 in
theorem laws_toEntryS_fn (a : List Entry) (hm : a.length ≤ 1048576) (hs : ∀ x ∈ a, okToEntry x) : Eng.Fn E.P 117 [.one (.r (sl 3 Entry.c a))] (.one (.one (.w (sl 3 Entry.c a)))) [.one (.r (sl 3 Entry.c a))] := by
 refine Eng.Fn.intro (E := E) (rvs := [.tmp 2]) Try.func117 rfl rfl rfl (by simp [outSlots, moved, rvSlot, sl]) ?_
 intro B g bo
 refine CW.bound (x := .tmp 0) (n := a.length) (AsT.r) (fun hl0 => ?_)
 refine CW.le [(0, .r (sl 3 Entry.c a))] rfl (Le.of rfl) ?_
 refine CW.seq ?_
 refine CW.region ?_
 refine RW.v rfl (V.as (d := .r (.v (.slice none 0 0))) rfl rfl) ?_
 refine RW.nil ?_
 refine CW.le [(0, .r (sl 3 Entry.c a))] rfl (Le.of rfl) ?_
 refine CW.seq ?_
 refine CW.region ?_
 refine RW.v rfl (V.mv (d := .r (sl 3 Entry.c a)) rfl rfl) ?_
 refine RW.v rfl (V.lenT (n := a.length) rfl rfl rfl .r) ?_
 refine RW.makeS (n := a.length) (c := Entry.c) Entry.z rfl rfl rfl rfl rfl rfl rfl rfl (ZT.v (ZT.v (ZT.v ZT.e))) (by show 32 * a.length ≤ 281474976710656; omega) (by simp only [maxLen]; omega) fun X1 => ?_
 refine RW.assignMove rfl rfl rfl (by decide) (Nat.le_of_ble_eq_true rfl) (Nat.le_of_ble_eq_true rfl) ?_
 refine RW.nil ?_
 refine CW.le [(0, .r (sl 3 Entry.c a)), (3, .w (sl 3 Entry.c (List.replicate a.length Entry.z)) X1)] rfl (Le.of rfl) ?_
 refine CW.seq ?_
 refine CW.seq ?_
 refine CW.region ?_
 refine RW.v rfl (V.as (d := I 0) rfl rfl) ?_
 refine RW.nil ?_
 refine CW.le [(0, .r (sl 3 Entry.c a)), (3, .w (sl 3 Entry.c (List.replicate a.length Entry.z)) X1), (4, I 0)] rfl (Le.of rfl) ?_
 refine CW.block ?_
 refine CW.loopI 23 (fun (i : Nat) => [(0, .r (sl 3 Entry.c a)), (3, .w (sl 3 Entry.c (a.take i ++ List.replicate (a.length - i) Entry.z)) X1), (4, I (i : Int))]) (fun (i : Nat) => i ≤ a.length) (fun (i : Nat) => a.length - i) 0 rfl (Le.c rfl <| Le.c rfl <| Le.c rfl <| Le.e) (by omega) ?_
 rintro i hb
 refine CW.seq ?_
 refine CW.seq ?_
 refine CW.region ?_
 refine RW.v rfl (V.mv (d := I (i : Int)) rfl rfl) ?_
 refine RW.v rfl (V.mv (d := .r (sl 3 Entry.c a)) rfl rfl) ?_
 refine RW.v rfl (V.lenT (n := a.length) rfl rfl rfl .r) ?_
 refine RW.v rfl (V.cmpInt rfl rfl rfl rfl) ?_
 refine RW.nil ?_
 refine CW.le [(0, .r (sl 3 Entry.c a)), (3, .w (sl 3 Entry.c (a.take i ++ List.replicate (a.length - i) Entry.z)) X1), (4, I (i : Int)), (11, Bo (decide ((i : Int) < (a.length : Int))))] rfl (Le.of rfl) ?_
 refine CW.cond rfl (fun h2 => ?_) (fun h2 => ?_)
 ·skip
  have hii : i < a.length := by have := h2; simp at this; first | exact this | omega | (simp; done) | (simp; omega)
  obtain ⟨ei, hei⟩ : ∃ e, a[i]? = some e := ⟨_, List.getElem?_eq_getElem hii⟩
  have hdi := drop_get hei
  refine CW.skip ?_
  refine CW.le [(0, .r (sl 3 Entry.c a)), (3, .w (sl 3 Entry.c (a.take i ++ List.replicate (a.length - i) Entry.z)) X1), (4, I (i : Int))] rfl (Le.of rfl) ?_
  refine CW.seq ?_
  refine CW.block ?_
  refine CW.region ?_
  refine RW.v rfl (V.mv (d := .al 3 none 3 ((a.take i ++ List.replicate (a.length - i) Entry.z).length) X1 0) rfl rfl) ?_
  refine RW.v rfl (V.mv (d := I (i : Int)) rfl rfl) ?_
  refine RW.v rfl (V.mv (d := .r (sl 3 Entry.c a)) rfl rfl) ?_
  refine RW.v rfl (V.mv (d := I (i : Int)) rfl rfl) ?_
  refine RW.v rfl (V.indexS rfl rfl rfl rfl rfl rfl Entry.len hei) ?_
  refine RW.v rfl (V.loadAggR rfl rfl rfl rfl (Nat.le_of_ble_eq_true rfl)) ?_
  refine RW.call rfl (laws_toEntry_fn ei (hs ei (List.mem_of_getElem? hei))) rfl (.cons (.agg (.cons (.r .r) (.cons (.r .r) (.cons (.r .r) (.nil))))) (.nil)) fun g3 => ?_
  refine RW.v rfl (V.indexW rfl rfl rfl rfl rfl rfl rfl (by simp; omega)) ?_
  refine RW.storeS (v := ei) rfl rfl rfl rfl rfl rfl rfl (DW.v (DW.v (DW.v DW.e))) Entry.len (by decide) (by simp; omega) rfl ?_
  refine RW.nil ?_
  refine CW.le [(0, .r (sl 3 Entry.c a)), (3, .w (sl 3 Entry.c ((a.take i ++ List.replicate (a.length - i) Entry.z).set i ei)) X1), (4, I (i : Int))] rfl (Le.of rfl) ?_
  refine CW.region ?_
  refine RW.v rfl (V.mv (d := I (i : Int)) rfl rfl) ?_
  refine RW.v rfl (V.inc rfl rfl rfl hii hl0) ?_
  refine RW.v rfl (V.as (d := I ((i + 1 : Nat) : Int)) rfl rfl) ?_
  refine RW.nil ?_
  exact ⟨i + 1, by omega, by omega, rfl, Le.c rfl <| Le.c (congrArg (fun l => D.w (sl _ Entry.c l) X1) (take_set hei)) <| Le.c rfl <| Le.e⟩
 ·skip
  have hii : a.length ≤ i := by have := h2; simp at this; first | exact this | omega | (simp; done) | (simp; omega)
  have hdi : a.drop i = [] := List.drop_eq_nil_of_le hii
  refine CW.exit ?_
  refine CW.le [(3, .w (sl 3 Entry.c (a.take i ++ List.replicate (a.length - i) Entry.z)) X1)] rfl (Le.of rfl) ?_
  refine CW.seq ?_
  refine CW.region ?_
  refine RW.v rfl (V.mv (d := .al 3 none 3 ((a.take i ++ List.replicate (a.length - i) Entry.z).length) X1 0) rfl rfl) ?_
  refine RW.v rfl (V.as (d := .al 3 none 3 ((a.take i ++ List.replicate (a.length - i) Entry.z).length) X1 0) rfl rfl) ?_
  refine RW.pullS 2 3 (by decide) rfl rfl ?_
  refine RW.nil ?_
  refine CW.le [(2, .w (sl 3 Entry.c (a.take i ++ List.replicate (a.length - i) Entry.z)) X1)] rfl (Le.of rfl) ?_
  refine CW.ret ?_
  exact Post.one (RV.w rfl (by rw [List.take_of_length_le hii, show a.length - i = 0 from by omega]; simp)) (AOs.r AOs.e)
set_option maxHeartbeats 4000000 in
theorem laws_toLog_fn (a : Log) (hs : okToLog a) : Eng.Fn E.P 63 [.agg ((Log.c a).map .r)] (.one (.agg ((Log.c a).map .w))) [.agg ((Log.c a).map .r)] := by
 refine Eng.Fn.intro (E := E) (rvs := [.cell 2 44]) Try.func63 rfl rfl rfl (by simp [outSlots, moved, rvSlot, sl]) ?_
 intro B g bo
 refine CW.le [(0, .agg ((Log.c a).map .r))] rfl (Le.of rfl) ?_
 refine CW.seq ?_
 refine CW.region ?_
 refine RW.box (ds := ((Log.c a).map .r)) rfl rfl rfl fun b1 => ?_
 refine RW.alloc (ds := [I 0, I 0, .r (.v (.slice none 0 0))]) rfl rfl rfl rfl fun b2 => ?_
 refine RW.nil ?_
 refine CW.le [(1, .obj b1 ((Log.c a).map .r)), (2, .obj b2 [I 0, I 0, .r (.v (.slice none 0 0))])] rfl (Le.of rfl) ?_
 refine CW.seq ?_
 refine CW.region ?_
 refine RW.alloc (ds := [I 0, I 0, .r (.v (.slice none 0 0))]) rfl rfl rfl rfl fun b3 => ?_
 refine RW.nil ?_
 refine CW.le [(1, .obj b1 ((Log.c a).map .r)), (2, .obj b2 [I 0, I 0, .r (.v (.slice none 0 0))]), (3, .obj b3 [I 0, I 0, .r (.v (.slice none 0 0))])] rfl (Le.of rfl) ?_
 refine CW.seq ?_
 refine CW.region ?_
 refine RW.v rfl (V.field rfl rfl rfl rfl (by decide) rfl) ?_
 refine RW.v rfl (V.loadPrim (d := I a.start) rfl rfl (.inl rfl) rfl rfl rfl) ?_
 refine RW.v rfl (V.field rfl rfl rfl rfl (by decide) rfl) ?_
 refine RW.store (d := I a.start) rfl rfl rfl rfl rfl rfl rfl (Nat.le_of_ble_eq_true rfl) rfl rfl ?_
 refine RW.nil ?_
 refine CW.le [(1, .obj b1 ((Log.c a).map .r)), (2, .obj b2 [I 0, I 0, .r (.v (.slice none 0 0))]), (3, .obj b3 [I a.start, I 0, .r (.v (.slice none 0 0))])] rfl (Le.of rfl) ?_
 refine CW.seq ?_
 refine CW.region ?_
 refine RW.v rfl (V.field rfl rfl rfl rfl (by decide) rfl) ?_
 refine RW.v rfl (V.loadPrim (d := I a.startTerm) rfl rfl (.inl rfl) rfl rfl rfl) ?_
 refine RW.v rfl (V.field rfl rfl rfl rfl (by decide) rfl) ?_
 refine RW.store (d := I a.startTerm) rfl rfl rfl rfl rfl rfl rfl (Nat.le_of_ble_eq_true rfl) rfl rfl ?_
 refine RW.nil ?_
 refine CW.le [(1, .obj b1 ((Log.c a).map .r)), (2, .obj b2 [I 0, I 0, .r (.v (.slice none 0 0))]), (3, .obj b3 [I a.start, I a.startTerm, .r (.v (.slice none 0 0))])] rfl (Le.of rfl) ?_
 refine CW.seq ?_
 refine CW.region ?_
 refine RW.v rfl (V.field rfl rfl rfl rfl (by decide) rfl) ?_
 refine RW.v rfl (V.loadPrim (d := .r (sl 3 Entry.c a.entries)) rfl rfl (.inr ⟨_, rfl⟩) rfl rfl rfl) ?_
 refine RW.call rfl (laws_toEntryS_fn a.entries hs.1 hs.2) rfl (.cons (.one (.r .r)) (.nil)) fun g4 => ?_
 refine RW.v rfl (V.field rfl rfl rfl rfl (by decide) rfl) ?_
 refine RW.store (d := .al 12 none 3 a.entries.length (g4 0 0) 0) rfl rfl rfl rfl rfl rfl rfl (Nat.le_of_ble_eq_true rfl) rfl rfl ?_
 refine RW.le [(2, .obj b2 [I 0, I 0, .r (.v (.slice none 0 0))]), (3, .obj b3 [I a.start, I a.startTerm, .al 12 none 3 a.entries.length (g4 0 0) 0]), (12, .w (sl 3 Entry.c a.entries) (g4 0 0))] rfl (Le.of rfl) ?_
 refine RW.pullT (k := 3) (l := 12) (j := 2) 3 12 2 rfl rfl rfl (by decide) rfl rfl rfl ?_
 refine RW.le [(2, .obj b2 [I 0, I 0, .r (.v (.slice none 0 0))]), (3, .obj b3 [I a.start, I a.startTerm, .w (sl 3 Entry.c a.entries) (g4 0 0)])] rfl (Le.of rfl) ?_
 refine RW.nil ?_
 refine CW.le [(2, .obj b2 [I 0, I 0, .r (.v (.slice none 0 0))]), (3, .obj b3 [I a.start, I a.startTerm, .w (sl 3 Entry.c a.entries) (g4 0 0)])] rfl (Le.of rfl) ?_
 refine CW.seq ?_
 refine CW.region ?_
 refine RW.v rfl (V.loadAgg rfl rfl rfl rfl rfl (Nat.le_of_ble_eq_true rfl)) ?_
 refine RW.storeAgg (es := [I a.start, I a.startTerm, .al 3 (some 2) 3 a.entries.length (g4 0 0) 0]) rfl rfl rfl rfl rfl rfl rfl rfl (Nat.le_of_ble_eq_true rfl) rfl ?_
 refine RW.le [(2, .obj b2 [I a.start, I a.startTerm, .al 3 (some 2) 3 a.entries.length (g4 0 0) 0]), (3, .obj b3 [I a.start, I a.startTerm, .w (sl 3 Entry.c a.entries) (g4 0 0)])] rfl (Le.of rfl) ?_
 refine RW.pullO (k := 2) (l := 3) (j := 2) 2 3 2 rfl rfl rfl (by decide) rfl rfl rfl rfl ?_
 refine RW.le [(2, .obj b2 [I a.start, I a.startTerm, .w (sl 3 Entry.c a.entries) (g4 0 0)])] rfl (Le.of rfl) ?_
 refine RW.nil ?_
 refine CW.le [(2, .obj b2 [I a.start, I a.startTerm, .w (sl 3 Entry.c a.entries) (g4 0 0)])] rfl (Le.of rfl) ?_
 refine CW.ret ?_
 exact Post.one (RV.c (f := fun e => (Log.c e).map .w) (e' := a) rfl rfl rfl rfl (DT.v (DT.v (DT.w DT.e))) (by simp_all)) (AOs.a rfl AOs.e)
set_option maxHeartbeats 4000000 in
theorem laws_toPeer_fn (a : Peer) : Eng.Fn E.P 118 [.agg ((Peer.c a).map .r)] (.one (.agg ((Peer.c a).map .w))) [.agg ((Peer.c a).map .r)] := by
 refine Eng.Fn.intro (E := E) (rvs := [.cell 2 98]) Try.func118 rfl rfl rfl (by simp [outSlots, moved, rvSlot, sl]) ?_
 intro B g bo
 refine CW.le [(0, .agg ((Peer.c a).map .r))] rfl (Le.of rfl) ?_
 refine CW.seq ?_
 refine CW.region ?_
 refine RW.box (ds := ((Peer.c a).map .r)) rfl rfl rfl fun b1 => ?_
 refine RW.alloc (ds := [I 0, I 0, I 0, I 0]) rfl rfl rfl rfl fun b2 => ?_
 refine RW.nil ?_
 refine CW.le [(1, .obj b1 ((Peer.c a).map .r)), (2, .obj b2 [I 0, I 0, I 0, I 0])] rfl (Le.of rfl) ?_
 refine CW.seq ?_
 refine CW.region ?_
 refine RW.alloc (ds := [I 0, I 0, I 0, I 0]) rfl rfl rfl rfl fun b3 => ?_
 refine RW.nil ?_
 refine CW.le [(1, .obj b1 ((Peer.c a).map .r)), (2, .obj b2 [I 0, I 0, I 0, I 0]), (3, .obj b3 [I 0, I 0, I 0, I 0])] rfl (Le.of rfl) ?_
 refine CW.seq ?_
 refine CW.region ?_
 refine RW.v rfl (V.field rfl rfl rfl rfl (by decide) rfl) ?_
 refine RW.v rfl (V.loadPrim (d := I a.id) rfl rfl (.inl rfl) rfl rfl rfl) ?_
 refine RW.v rfl (V.field rfl rfl rfl rfl (by decide) rfl) ?_
 refine RW.store (d := I a.id) rfl rfl rfl rfl rfl rfl rfl (Nat.le_of_ble_eq_true rfl) rfl rfl ?_
 refine RW.nil ?_
 refine CW.le [(1, .obj b1 ((Peer.c a).map .r)), (2, .obj b2 [I 0, I 0, I 0, I 0]), (3, .obj b3 [I a.id, I 0, I 0, I 0])] rfl (Le.of rfl) ?_
 refine CW.seq ?_
 refine CW.region ?_
 refine RW.v rfl (V.field rfl rfl rfl rfl (by decide) rfl) ?_
 refine RW.v rfl (V.loadPrim (d := I a.next) rfl rfl (.inl rfl) rfl rfl rfl) ?_
 refine RW.v rfl (V.field rfl rfl rfl rfl (by decide) rfl) ?_
 refine RW.store (d := I a.next) rfl rfl rfl rfl rfl rfl rfl (Nat.le_of_ble_eq_true rfl) rfl rfl ?_
 refine RW.nil ?_
 refine CW.le [(1, .obj b1 ((Peer.c a).map .r)), (2, .obj b2 [I 0, I 0, I 0, I 0]), (3, .obj b3 [I a.id, I a.next, I 0, I 0])] rfl (Le.of rfl) ?_
 refine CW.seq ?_
 refine CW.region ?_
 refine RW.v rfl (V.field rfl rfl rfl rfl (by decide) rfl) ?_
 refine RW.v rfl (V.loadPrim (d := I a.match_) rfl rfl (.inl rfl) rfl rfl rfl) ?_
 refine RW.v rfl (V.field rfl rfl rfl rfl (by decide) rfl) ?_
 refine RW.store (d := I a.match_) rfl rfl rfl rfl rfl rfl rfl (Nat.le_of_ble_eq_true rfl) rfl rfl ?_
 refine RW.nil ?_
 refine CW.le [(1, .obj b1 ((Peer.c a).map .r)), (2, .obj b2 [I 0, I 0, I 0, I 0]), (3, .obj b3 [I a.id, I a.next, I a.match_, I 0])] rfl (Le.of rfl) ?_
 refine CW.seq ?_
 refine CW.region ?_
 refine RW.v rfl (V.field rfl rfl rfl rfl (by decide) rfl) ?_
 refine RW.v rfl (V.loadPrim (d := I a.sent) rfl rfl (.inl rfl) rfl rfl rfl) ?_
 refine RW.v rfl (V.field rfl rfl rfl rfl (by decide) rfl) ?_
 refine RW.store (d := I a.sent) rfl rfl rfl rfl rfl rfl rfl (Nat.le_of_ble_eq_true rfl) rfl rfl ?_
 refine RW.nil ?_
 refine CW.le [(2, .obj b2 [I 0, I 0, I 0, I 0]), (3, .obj b3 ((Peer.c a).map .r))] rfl (Le.of rfl) ?_
 refine CW.seq ?_
 refine CW.region ?_
 refine RW.v rfl (V.loadAgg rfl rfl rfl rfl rfl (Nat.le_of_ble_eq_true rfl)) ?_
 refine RW.storeAgg (es := ((Peer.c a).map .r)) rfl rfl rfl rfl rfl rfl rfl rfl (Nat.le_of_ble_eq_true rfl) rfl ?_
 refine RW.nil ?_
 refine CW.le [(2, .obj b2 ((Peer.c a).map .r))] rfl (Le.of rfl) ?_
 refine CW.ret ?_
 exact Post.one (RV.c (f := fun e => (Peer.c e).map .w) (e' := a) rfl rfl rfl rfl (DT.v (DT.v (DT.v (DT.v DT.e)))) (by simp_all)) (AOs.a rfl AOs.e)
set_option maxHeartbeats 4000000 in
theorem laws_toPeerS_fn (a : List Peer) (hm : a.length ≤ 1048576) : Eng.Fn E.P 64 [.one (.r (sl 4 Peer.c a))] (.one (.one (.w (sl 4 Peer.c a)))) [.one (.r (sl 4 Peer.c a))] := by
 refine Eng.Fn.intro (E := E) (rvs := [.tmp 2]) Try.func64 rfl rfl rfl (by simp [outSlots, moved, rvSlot, sl]) ?_
 intro B g bo
 refine CW.bound (x := .tmp 0) (n := a.length) (AsT.r) (fun hl0 => ?_)
 refine CW.le [(0, .r (sl 4 Peer.c a))] rfl (Le.of rfl) ?_
 refine CW.seq ?_
 refine CW.region ?_
 refine RW.v rfl (V.as (d := .r (.v (.slice none 0 0))) rfl rfl) ?_
 refine RW.nil ?_
 refine CW.le [(0, .r (sl 4 Peer.c a))] rfl (Le.of rfl) ?_
 refine CW.seq ?_
 refine CW.region ?_
 refine RW.v rfl (V.mv (d := .r (sl 4 Peer.c a)) rfl rfl) ?_
 refine RW.v rfl (V.lenT (n := a.length) rfl rfl rfl .r) ?_
 refine RW.makeS (n := a.length) (c := Peer.c) Peer.z rfl rfl rfl rfl rfl rfl rfl rfl (ZT.v (ZT.v (ZT.v (ZT.v ZT.e)))) (by show 32 * a.length ≤ 281474976710656; omega) (by simp only [maxLen]; omega) fun X1 => ?_
 refine RW.assignMove rfl rfl rfl (by decide) (Nat.le_of_ble_eq_true rfl) (Nat.le_of_ble_eq_true rfl) ?_
 refine RW.nil ?_
 refine CW.le [(0, .r (sl 4 Peer.c a)), (3, .w (sl 4 Peer.c (List.replicate a.length Peer.z)) X1)] rfl (Le.of rfl) ?_
 refine CW.seq ?_
 refine CW.seq ?_
 refine CW.region ?_
 refine RW.v rfl (V.as (d := I 0) rfl rfl) ?_
 refine RW.nil ?_
 refine CW.le [(0, .r (sl 4 Peer.c a)), (3, .w (sl 4 Peer.c (List.replicate a.length Peer.z)) X1), (4, I 0)] rfl (Le.of rfl) ?_
 refine CW.block ?_
 refine CW.loopI 23 (fun (i : Nat) => [(0, .r (sl 4 Peer.c a)), (3, .w (sl 4 Peer.c (a.take i ++ List.replicate (a.length - i) Peer.z)) X1), (4, I (i : Int))]) (fun (i : Nat) => i ≤ a.length) (fun (i : Nat) => a.length - i) 0 rfl (Le.c rfl <| Le.c rfl <| Le.c rfl <| Le.e) (by omega) ?_
 rintro i hb
 refine CW.seq ?_
 refine CW.seq ?_
 refine CW.region ?_
 refine RW.v rfl (V.mv (d := I (i : Int)) rfl rfl) ?_
 refine RW.v rfl (V.mv (d := .r (sl 4 Peer.c a)) rfl rfl) ?_
 refine RW.v rfl (V.lenT (n := a.length) rfl rfl rfl .r) ?_
 refine RW.v rfl (V.cmpInt rfl rfl rfl rfl) ?_
 refine RW.nil ?_
 refine CW.le [(0, .r (sl 4 Peer.c a)), (3, .w (sl 4 Peer.c (a.take i ++ List.replicate (a.length - i) Peer.z)) X1), (4, I (i : Int)), (11, Bo (decide ((i : Int) < (a.length : Int))))] rfl (Le.of rfl) ?_
 refine CW.cond rfl (fun h2 => ?_) (fun h2 => ?_)
 ·skip
  have hii : i < a.length := by have := h2; simp at this; first | exact this | omega | (simp; done) | (simp; omega)
  obtain ⟨ei, hei⟩ : ∃ e, a[i]? = some e := ⟨_, List.getElem?_eq_getElem hii⟩
  have hdi := drop_get hei
  refine CW.skip ?_
  refine CW.le [(0, .r (sl 4 Peer.c a)), (3, .w (sl 4 Peer.c (a.take i ++ List.replicate (a.length - i) Peer.z)) X1), (4, I (i : Int))] rfl (Le.of rfl) ?_
  refine CW.seq ?_
  refine CW.block ?_
  refine CW.region ?_
  refine RW.v rfl (V.mv (d := .al 3 none 4 ((a.take i ++ List.replicate (a.length - i) Peer.z).length) X1 0) rfl rfl) ?_
  refine RW.v rfl (V.mv (d := I (i : Int)) rfl rfl) ?_
  refine RW.v rfl (V.mv (d := .r (sl 4 Peer.c a)) rfl rfl) ?_
  refine RW.v rfl (V.mv (d := I (i : Int)) rfl rfl) ?_
  refine RW.v rfl (V.indexS rfl rfl rfl rfl rfl rfl Peer.len hei) ?_
  refine RW.v rfl (V.loadAggR rfl rfl rfl rfl (Nat.le_of_ble_eq_true rfl)) ?_
  refine RW.call rfl (laws_toPeer_fn ei) rfl (.cons (.agg (.cons (.r .r) (.cons (.r .r) (.cons (.r .r) (.cons (.r .r) (.nil)))))) (.nil)) fun g3 => ?_
  refine RW.v rfl (V.indexW rfl rfl rfl rfl rfl rfl rfl (by simp; omega)) ?_
  refine RW.storeS (v := ei) rfl rfl rfl rfl rfl rfl rfl (DW.v (DW.v (DW.v (DW.v DW.e)))) Peer.len (by decide) (by simp; omega) rfl ?_
  refine RW.nil ?_
  refine CW.le [(0, .r (sl 4 Peer.c a)), (3, .w (sl 4 Peer.c ((a.take i ++ List.replicate (a.length - i) Peer.z).set i ei)) X1), (4, I (i : Int))] rfl (Le.of rfl) ?_
  refine CW.region ?_
  refine RW.v rfl (V.mv (d := I (i : Int)) rfl rfl) ?_
  refine RW.v rfl (V.inc rfl rfl rfl hii hl0) ?_
  refine RW.v rfl (V.as (d := I ((i + 1 : Nat) : Int)) rfl rfl) ?_
  refine RW.nil ?_
  exact ⟨i + 1, by omega, by omega, rfl, Le.c rfl <| Le.c (congrArg (fun l => D.w (sl _ Peer.c l) X1) (take_set hei)) <| Le.c rfl <| Le.e⟩
 ·skip
  have hii : a.length ≤ i := by have := h2; simp at this; first | exact this | omega | (simp; done) | (simp; omega)
  have hdi : a.drop i = [] := List.drop_eq_nil_of_le hii
  refine CW.exit ?_
  refine CW.le [(3, .w (sl 4 Peer.c (a.take i ++ List.replicate (a.length - i) Peer.z)) X1)] rfl (Le.of rfl) ?_
  refine CW.seq ?_
  refine CW.region ?_
  refine RW.v rfl (V.mv (d := .al 3 none 4 ((a.take i ++ List.replicate (a.length - i) Peer.z).length) X1 0) rfl rfl) ?_
  refine RW.v rfl (V.as (d := .al 3 none 4 ((a.take i ++ List.replicate (a.length - i) Peer.z).length) X1 0) rfl rfl) ?_
  refine RW.pullS 2 3 (by decide) rfl rfl ?_
  refine RW.nil ?_
  refine CW.le [(2, .w (sl 4 Peer.c (a.take i ++ List.replicate (a.length - i) Peer.z)) X1)] rfl (Le.of rfl) ?_
  refine CW.ret ?_
  exact Post.one (RV.w rfl (by rw [List.take_of_length_le hii, show a.length - i = 0 from by omega]; simp)) (AOs.r AOs.e)
set_option maxHeartbeats 4000000 in
theorem laws_toNode_fn (a : Node) (hs : okToNode a) : Eng.Fn E.P 21 [.agg ((Node.c a).map .r)] (.one (.agg ((Node.c a).map .w))) [.agg ((Node.c a).map .r)] := by
 refine Eng.Fn.intro (E := E) (rvs := [.cell 2 47]) Try.func21 rfl rfl rfl (by simp [outSlots, moved, rvSlot, sl]) ?_
 intro B g bo
 refine CW.le [(0, .agg ((Node.c a).map .r))] rfl (Le.of rfl) ?_
 refine CW.seq ?_
 refine CW.region ?_
 refine RW.box (ds := ((Node.c a).map .r)) rfl rfl rfl fun b1 => ?_
 refine RW.alloc (ds := [I 0, I 0, I 0, I 0, I 0, .r (.v (.slice none 0 0)), I 0, I 0, .r (.v (.slice none 0 0)), I 0, I 0, I 0, .r (.v (.slice none 0 0)), .r (.v (.slice none 0 0))]) rfl rfl rfl rfl fun b2 => ?_
 refine RW.nil ?_
 refine CW.le [(1, .obj b1 ((Node.c a).map .r)), (2, .obj b2 [I 0, I 0, I 0, I 0, I 0, .r (.v (.slice none 0 0)), I 0, I 0, .r (.v (.slice none 0 0)), I 0, I 0, I 0, .r (.v (.slice none 0 0)), .r (.v (.slice none 0 0))])] rfl (Le.of rfl) ?_
 refine CW.seq ?_
 refine CW.region ?_
 refine RW.alloc (ds := [I 0, I 0, I 0, I 0, I 0, .r (.v (.slice none 0 0)), I 0, I 0, .r (.v (.slice none 0 0)), I 0, I 0, I 0, .r (.v (.slice none 0 0)), .r (.v (.slice none 0 0))]) rfl rfl rfl rfl fun b3 => ?_
 refine RW.nil ?_
 refine CW.le [(1, .obj b1 ((Node.c a).map .r)), (2, .obj b2 [I 0, I 0, I 0, I 0, I 0, .r (.v (.slice none 0 0)), I 0, I 0, .r (.v (.slice none 0 0)), I 0, I 0, I 0, .r (.v (.slice none 0 0)), .r (.v (.slice none 0 0))]), (3, .obj b3 [I 0, I 0, I 0, I 0, I 0, .r (.v (.slice none 0 0)), I 0, I 0, .r (.v (.slice none 0 0)), I 0, I 0, I 0, .r (.v (.slice none 0 0)), .r (.v (.slice none 0 0))])] rfl (Le.of rfl) ?_
 refine CW.seq ?_
 refine CW.region ?_
 refine RW.v rfl (V.field rfl rfl rfl rfl (by decide) rfl) ?_
 refine RW.v rfl (V.loadPrim (d := I a.id) rfl rfl (.inl rfl) rfl rfl rfl) ?_
 refine RW.v rfl (V.field rfl rfl rfl rfl (by decide) rfl) ?_
 refine RW.store (d := I a.id) rfl rfl rfl rfl rfl rfl rfl (Nat.le_of_ble_eq_true rfl) rfl rfl ?_
 refine RW.nil ?_
 refine CW.le [(1, .obj b1 ((Node.c a).map .r)), (2, .obj b2 [I 0, I 0, I 0, I 0, I 0, .r (.v (.slice none 0 0)), I 0, I 0, .r (.v (.slice none 0 0)), I 0, I 0, I 0, .r (.v (.slice none 0 0)), .r (.v (.slice none 0 0))]), (3, .obj b3 [I a.id, I 0, I 0, I 0, I 0, .r (.v (.slice none 0 0)), I 0, I 0, .r (.v (.slice none 0 0)), I 0, I 0, I 0, .r (.v (.slice none 0 0)), .r (.v (.slice none 0 0))])] rfl (Le.of rfl) ?_
 refine CW.seq ?_
 refine CW.region ?_
 refine RW.v rfl (V.field rfl rfl rfl rfl (by decide) rfl) ?_
 refine RW.v rfl (V.loadPrim (d := I a.term_) rfl rfl (.inl rfl) rfl rfl rfl) ?_
 refine RW.v rfl (V.field rfl rfl rfl rfl (by decide) rfl) ?_
 refine RW.store (d := I a.term_) rfl rfl rfl rfl rfl rfl rfl (Nat.le_of_ble_eq_true rfl) rfl rfl ?_
 refine RW.nil ?_
 refine CW.le [(1, .obj b1 ((Node.c a).map .r)), (2, .obj b2 [I 0, I 0, I 0, I 0, I 0, .r (.v (.slice none 0 0)), I 0, I 0, .r (.v (.slice none 0 0)), I 0, I 0, I 0, .r (.v (.slice none 0 0)), .r (.v (.slice none 0 0))]), (3, .obj b3 [I a.id, I a.term_, I 0, I 0, I 0, .r (.v (.slice none 0 0)), I 0, I 0, .r (.v (.slice none 0 0)), I 0, I 0, I 0, .r (.v (.slice none 0 0)), .r (.v (.slice none 0 0))])] rfl (Le.of rfl) ?_
 refine CW.seq ?_
 refine CW.region ?_
 refine RW.v rfl (V.field rfl rfl rfl rfl (by decide) rfl) ?_
 refine RW.v rfl (V.loadPrim (d := I a.vote) rfl rfl (.inl rfl) rfl rfl rfl) ?_
 refine RW.v rfl (V.field rfl rfl rfl rfl (by decide) rfl) ?_
 refine RW.store (d := I a.vote) rfl rfl rfl rfl rfl rfl rfl (Nat.le_of_ble_eq_true rfl) rfl rfl ?_
 refine RW.nil ?_
 refine CW.le [(1, .obj b1 ((Node.c a).map .r)), (2, .obj b2 [I 0, I 0, I 0, I 0, I 0, .r (.v (.slice none 0 0)), I 0, I 0, .r (.v (.slice none 0 0)), I 0, I 0, I 0, .r (.v (.slice none 0 0)), .r (.v (.slice none 0 0))]), (3, .obj b3 [I a.id, I a.term_, I a.vote, I 0, I 0, .r (.v (.slice none 0 0)), I 0, I 0, .r (.v (.slice none 0 0)), I 0, I 0, I 0, .r (.v (.slice none 0 0)), .r (.v (.slice none 0 0))])] rfl (Le.of rfl) ?_
 refine CW.seq ?_
 refine CW.region ?_
 refine RW.v rfl (V.field rfl rfl rfl rfl (by decide) rfl) ?_
 refine RW.v rfl (V.loadPrim (d := I a.role) rfl rfl (.inl rfl) rfl rfl rfl) ?_
 refine RW.v rfl (V.field rfl rfl rfl rfl (by decide) rfl) ?_
 refine RW.store (d := I a.role) rfl rfl rfl rfl rfl rfl rfl (Nat.le_of_ble_eq_true rfl) rfl rfl ?_
 refine RW.nil ?_
 refine CW.le [(1, .obj b1 ((Node.c a).map .r)), (2, .obj b2 [I 0, I 0, I 0, I 0, I 0, .r (.v (.slice none 0 0)), I 0, I 0, .r (.v (.slice none 0 0)), I 0, I 0, I 0, .r (.v (.slice none 0 0)), .r (.v (.slice none 0 0))]), (3, .obj b3 [I a.id, I a.term_, I a.vote, I a.role, I 0, .r (.v (.slice none 0 0)), I 0, I 0, .r (.v (.slice none 0 0)), I 0, I 0, I 0, .r (.v (.slice none 0 0)), .r (.v (.slice none 0 0))])] rfl (Le.of rfl) ?_
 refine CW.seq ?_
 refine CW.region ?_
 refine RW.v rfl (V.field rfl rfl rfl rfl (by decide) rfl) ?_
 refine RW.v rfl (V.loadPrim (d := I a.lead) rfl rfl (.inl rfl) rfl rfl rfl) ?_
 refine RW.v rfl (V.field rfl rfl rfl rfl (by decide) rfl) ?_
 refine RW.store (d := I a.lead) rfl rfl rfl rfl rfl rfl rfl (Nat.le_of_ble_eq_true rfl) rfl rfl ?_
 refine RW.nil ?_
 refine CW.le [(1, .obj b1 ((Node.c a).map .r)), (2, .obj b2 [I 0, I 0, I 0, I 0, I 0, .r (.v (.slice none 0 0)), I 0, I 0, .r (.v (.slice none 0 0)), I 0, I 0, I 0, .r (.v (.slice none 0 0)), .r (.v (.slice none 0 0))]), (3, .obj b3 [I a.id, I a.term_, I a.vote, I a.role, I a.lead, .r (.v (.slice none 0 0)), I 0, I 0, .r (.v (.slice none 0 0)), I 0, I 0, I 0, .r (.v (.slice none 0 0)), .r (.v (.slice none 0 0))])] rfl (Le.of rfl) ?_
 refine CW.seq ?_
 refine CW.region ?_
 refine RW.v rfl (V.field rfl rfl rfl rfl (by decide) rfl) ?_
 refine RW.v rfl (V.loadPrim (d := .r (sl 1 cI a.conf)) rfl rfl (.inr ⟨_, rfl⟩) rfl rfl rfl) ?_
 refine RW.call rfl (laws_toIntS_fn a.conf hs.1.1) rfl (.cons (.one (.r .r)) (.nil)) fun g4 => ?_
 refine RW.v rfl (V.field rfl rfl rfl rfl (by decide) rfl) ?_
 refine RW.store (d := .al 21 none 1 a.conf.length (g4 0 0) 0) rfl rfl rfl rfl rfl rfl rfl (Nat.le_of_ble_eq_true rfl) rfl rfl ?_
 refine RW.le [(1, .obj b1 ((Node.c a).map .r)), (2, .obj b2 [I 0, I 0, I 0, I 0, I 0, .r (.v (.slice none 0 0)), I 0, I 0, .r (.v (.slice none 0 0)), I 0, I 0, I 0, .r (.v (.slice none 0 0)), .r (.v (.slice none 0 0))]), (3, .obj b3 [I a.id, I a.term_, I a.vote, I a.role, I a.lead, .al 21 none 1 a.conf.length (g4 0 0) 0, I 0, I 0, .r (.v (.slice none 0 0)), I 0, I 0, I 0, .r (.v (.slice none 0 0)), .r (.v (.slice none 0 0))]), (21, .w (sl 1 cI a.conf) (g4 0 0))] rfl (Le.of rfl) ?_
 refine RW.pullT (k := 3) (l := 21) (j := 5) 3 21 5 rfl rfl rfl (by decide) rfl rfl rfl ?_
 refine RW.le [(1, .obj b1 ((Node.c a).map .r)), (2, .obj b2 [I 0, I 0, I 0, I 0, I 0, .r (.v (.slice none 0 0)), I 0, I 0, .r (.v (.slice none 0 0)), I 0, I 0, I 0, .r (.v (.slice none 0 0)), .r (.v (.slice none 0 0))]), (3, .obj b3 [I a.id, I a.term_, I a.vote, I a.role, I a.lead, .w (sl 1 cI a.conf) (g4 0 0), I 0, I 0, .r (.v (.slice none 0 0)), I 0, I 0, I 0, .r (.v (.slice none 0 0)), .r (.v (.slice none 0 0))])] rfl (Le.of rfl) ?_
 refine RW.nil ?_
 refine CW.le [(1, .obj b1 ((Node.c a).map .r)), (2, .obj b2 [I 0, I 0, I 0, I 0, I 0, .r (.v (.slice none 0 0)), I 0, I 0, .r (.v (.slice none 0 0)), I 0, I 0, I 0, .r (.v (.slice none 0 0)), .r (.v (.slice none 0 0))]), (3, .obj b3 [I a.id, I a.term_, I a.vote, I a.role, I a.lead, .w (sl 1 cI a.conf) (g4 0 0), I 0, I 0, .r (.v (.slice none 0 0)), I 0, I 0, I 0, .r (.v (.slice none 0 0)), .r (.v (.slice none 0 0))])] rfl (Le.of rfl) ?_
 refine CW.seq ?_
 refine CW.region ?_
 refine RW.v rfl (V.field rfl rfl rfl rfl (by decide) rfl) ?_
 refine RW.v rfl (V.loadAgg rfl rfl rfl rfl rfl (Nat.le_of_ble_eq_true rfl)) ?_
 refine RW.call rfl (laws_toLog_fn a.log hs.2.1) rfl (.cons (.agg (.cons (.r .r) (.cons (.r .r) (.cons (.r .r) (.nil))))) (.nil)) fun g5 => ?_
 refine RW.v rfl (V.field rfl rfl rfl rfl (by decide) rfl) ?_
 refine RW.storeAgg (es := [I a.log.start, I a.log.startTerm, .al 25 (some 2) 3 a.log.entries.length (g5 0 2) 0]) rfl rfl rfl rfl rfl rfl rfl rfl (Nat.le_of_ble_eq_true rfl) rfl ?_
 refine RW.le [(1, .obj b1 ((Node.c a).map .r)), (2, .obj b2 [I 0, I 0, I 0, I 0, I 0, .r (.v (.slice none 0 0)), I 0, I 0, .r (.v (.slice none 0 0)), I 0, I 0, I 0, .r (.v (.slice none 0 0)), .r (.v (.slice none 0 0))]), (3, .obj b3 [I a.id, I a.term_, I a.vote, I a.role, I a.lead, .w (sl 1 cI a.conf) (g4 0 0), I a.log.start, I a.log.startTerm, .al 25 (some 2) 3 a.log.entries.length (g5 0 2) 0, I 0, I 0, I 0, .r (.v (.slice none 0 0)), .r (.v (.slice none 0 0))]), (25, .agg [I a.log.start, I a.log.startTerm, .w (sl 3 Entry.c a.log.entries) (g5 0 2)])] rfl (Le.of rfl) ?_
 refine RW.pullA (k := 3) (l := 25) (j := 8) 3 25 8 rfl rfl rfl (by decide) rfl rfl rfl rfl ?_
 refine RW.le [(1, .obj b1 ((Node.c a).map .r)), (2, .obj b2 [I 0, I 0, I 0, I 0, I 0, .r (.v (.slice none 0 0)), I 0, I 0, .r (.v (.slice none 0 0)), I 0, I 0, I 0, .r (.v (.slice none 0 0)), .r (.v (.slice none 0 0))]), (3, .obj b3 [I a.id, I a.term_, I a.vote, I a.role, I a.lead, .w (sl 1 cI a.conf) (g4 0 0), I a.log.start, I a.log.startTerm, .w (sl 3 Entry.c a.log.entries) (g5 0 2), I 0, I 0, I 0, .r (.v (.slice none 0 0)), .r (.v (.slice none 0 0))])] rfl (Le.of rfl) ?_
 refine RW.nil ?_
 refine CW.le [(1, .obj b1 ((Node.c a).map .r)), (2, .obj b2 [I 0, I 0, I 0, I 0, I 0, .r (.v (.slice none 0 0)), I 0, I 0, .r (.v (.slice none 0 0)), I 0, I 0, I 0, .r (.v (.slice none 0 0)), .r (.v (.slice none 0 0))]), (3, .obj b3 [I a.id, I a.term_, I a.vote, I a.role, I a.lead, .w (sl 1 cI a.conf) (g4 0 0), I a.log.start, I a.log.startTerm, .w (sl 3 Entry.c a.log.entries) (g5 0 2), I 0, I 0, I 0, .r (.v (.slice none 0 0)), .r (.v (.slice none 0 0))])] rfl (Le.of rfl) ?_
 refine CW.seq ?_
 refine CW.region ?_
 refine RW.v rfl (V.field rfl rfl rfl rfl (by decide) rfl) ?_
 refine RW.v rfl (V.loadPrim (d := I a.commit) rfl rfl (.inl rfl) rfl rfl rfl) ?_
 refine RW.v rfl (V.field rfl rfl rfl rfl (by decide) rfl) ?_
 refine RW.store (d := I a.commit) rfl rfl rfl rfl rfl rfl rfl (Nat.le_of_ble_eq_true rfl) rfl rfl ?_
 refine RW.nil ?_
 refine CW.le [(1, .obj b1 ((Node.c a).map .r)), (2, .obj b2 [I 0, I 0, I 0, I 0, I 0, .r (.v (.slice none 0 0)), I 0, I 0, .r (.v (.slice none 0 0)), I 0, I 0, I 0, .r (.v (.slice none 0 0)), .r (.v (.slice none 0 0))]), (3, .obj b3 [I a.id, I a.term_, I a.vote, I a.role, I a.lead, .w (sl 1 cI a.conf) (g4 0 0), I a.log.start, I a.log.startTerm, .w (sl 3 Entry.c a.log.entries) (g5 0 2), I a.commit, I 0, I 0, .r (.v (.slice none 0 0)), .r (.v (.slice none 0 0))])] rfl (Le.of rfl) ?_
 refine CW.seq ?_
 refine CW.region ?_
 refine RW.v rfl (V.field rfl rfl rfl rfl (by decide) rfl) ?_
 refine RW.v rfl (V.loadPrim (d := I a.clock) rfl rfl (.inl rfl) rfl rfl rfl) ?_
 refine RW.v rfl (V.field rfl rfl rfl rfl (by decide) rfl) ?_
 refine RW.store (d := I a.clock) rfl rfl rfl rfl rfl rfl rfl (Nat.le_of_ble_eq_true rfl) rfl rfl ?_
 refine RW.nil ?_
 refine CW.le [(1, .obj b1 ((Node.c a).map .r)), (2, .obj b2 [I 0, I 0, I 0, I 0, I 0, .r (.v (.slice none 0 0)), I 0, I 0, .r (.v (.slice none 0 0)), I 0, I 0, I 0, .r (.v (.slice none 0 0)), .r (.v (.slice none 0 0))]), (3, .obj b3 [I a.id, I a.term_, I a.vote, I a.role, I a.lead, .w (sl 1 cI a.conf) (g4 0 0), I a.log.start, I a.log.startTerm, .w (sl 3 Entry.c a.log.entries) (g5 0 2), I a.commit, I a.clock, I 0, .r (.v (.slice none 0 0)), .r (.v (.slice none 0 0))])] rfl (Le.of rfl) ?_
 refine CW.seq ?_
 refine CW.region ?_
 refine RW.v rfl (V.field rfl rfl rfl rfl (by decide) rfl) ?_
 refine RW.v rfl (V.loadPrim (d := I a.limit) rfl rfl (.inl rfl) rfl rfl rfl) ?_
 refine RW.v rfl (V.field rfl rfl rfl rfl (by decide) rfl) ?_
 refine RW.store (d := I a.limit) rfl rfl rfl rfl rfl rfl rfl (Nat.le_of_ble_eq_true rfl) rfl rfl ?_
 refine RW.nil ?_
 refine CW.le [(1, .obj b1 ((Node.c a).map .r)), (2, .obj b2 [I 0, I 0, I 0, I 0, I 0, .r (.v (.slice none 0 0)), I 0, I 0, .r (.v (.slice none 0 0)), I 0, I 0, I 0, .r (.v (.slice none 0 0)), .r (.v (.slice none 0 0))]), (3, .obj b3 [I a.id, I a.term_, I a.vote, I a.role, I a.lead, .w (sl 1 cI a.conf) (g4 0 0), I a.log.start, I a.log.startTerm, .w (sl 3 Entry.c a.log.entries) (g5 0 2), I a.commit, I a.clock, I a.limit, .r (.v (.slice none 0 0)), .r (.v (.slice none 0 0))])] rfl (Le.of rfl) ?_
 refine CW.seq ?_
 refine CW.region ?_
 refine RW.v rfl (V.field rfl rfl rfl rfl (by decide) rfl) ?_
 refine RW.v rfl (V.loadPrim (d := .r (sl 1 cI a.votes)) rfl rfl (.inr ⟨_, rfl⟩) rfl rfl rfl) ?_
 refine RW.call rfl (laws_toIntS_fn a.votes hs.2.2.1.1) rfl (.cons (.one (.r .r)) (.nil)) fun g6 => ?_
 refine RW.v rfl (V.field rfl rfl rfl rfl (by decide) rfl) ?_
 refine RW.store (d := .al 38 none 1 a.votes.length (g6 0 0) 0) rfl rfl rfl rfl rfl rfl rfl (Nat.le_of_ble_eq_true rfl) rfl rfl ?_
 refine RW.le [(1, .obj b1 ((Node.c a).map .r)), (2, .obj b2 [I 0, I 0, I 0, I 0, I 0, .r (.v (.slice none 0 0)), I 0, I 0, .r (.v (.slice none 0 0)), I 0, I 0, I 0, .r (.v (.slice none 0 0)), .r (.v (.slice none 0 0))]), (3, .obj b3 [I a.id, I a.term_, I a.vote, I a.role, I a.lead, .w (sl 1 cI a.conf) (g4 0 0), I a.log.start, I a.log.startTerm, .w (sl 3 Entry.c a.log.entries) (g5 0 2), I a.commit, I a.clock, I a.limit, .al 38 none 1 a.votes.length (g6 0 0) 0, .r (.v (.slice none 0 0))]), (38, .w (sl 1 cI a.votes) (g6 0 0))] rfl (Le.of rfl) ?_
 refine RW.pullT (k := 3) (l := 38) (j := 12) 3 38 12 rfl rfl rfl (by decide) rfl rfl rfl ?_
 refine RW.le [(1, .obj b1 ((Node.c a).map .r)), (2, .obj b2 [I 0, I 0, I 0, I 0, I 0, .r (.v (.slice none 0 0)), I 0, I 0, .r (.v (.slice none 0 0)), I 0, I 0, I 0, .r (.v (.slice none 0 0)), .r (.v (.slice none 0 0))]), (3, .obj b3 [I a.id, I a.term_, I a.vote, I a.role, I a.lead, .w (sl 1 cI a.conf) (g4 0 0), I a.log.start, I a.log.startTerm, .w (sl 3 Entry.c a.log.entries) (g5 0 2), I a.commit, I a.clock, I a.limit, .w (sl 1 cI a.votes) (g6 0 0), .r (.v (.slice none 0 0))])] rfl (Le.of rfl) ?_
 refine RW.nil ?_
 refine CW.le [(1, .obj b1 ((Node.c a).map .r)), (2, .obj b2 [I 0, I 0, I 0, I 0, I 0, .r (.v (.slice none 0 0)), I 0, I 0, .r (.v (.slice none 0 0)), I 0, I 0, I 0, .r (.v (.slice none 0 0)), .r (.v (.slice none 0 0))]), (3, .obj b3 [I a.id, I a.term_, I a.vote, I a.role, I a.lead, .w (sl 1 cI a.conf) (g4 0 0), I a.log.start, I a.log.startTerm, .w (sl 3 Entry.c a.log.entries) (g5 0 2), I a.commit, I a.clock, I a.limit, .w (sl 1 cI a.votes) (g6 0 0), .r (.v (.slice none 0 0))])] rfl (Le.of rfl) ?_
 refine CW.seq ?_
 refine CW.region ?_
 refine RW.v rfl (V.field rfl rfl rfl rfl (by decide) rfl) ?_
 refine RW.v rfl (V.loadPrim (d := .r (sl 4 Peer.c a.peers)) rfl rfl (.inr ⟨_, rfl⟩) rfl rfl rfl) ?_
 refine RW.call rfl (laws_toPeerS_fn a.peers hs.2.2.2.1) rfl (.cons (.one (.r .r)) (.nil)) fun g7 => ?_
 refine RW.v rfl (V.field rfl rfl rfl rfl (by decide) rfl) ?_
 refine RW.store (d := .al 42 none 4 a.peers.length (g7 0 0) 0) rfl rfl rfl rfl rfl rfl rfl (Nat.le_of_ble_eq_true rfl) rfl rfl ?_
 refine RW.le [(2, .obj b2 [I 0, I 0, I 0, I 0, I 0, .r (.v (.slice none 0 0)), I 0, I 0, .r (.v (.slice none 0 0)), I 0, I 0, I 0, .r (.v (.slice none 0 0)), .r (.v (.slice none 0 0))]), (3, .obj b3 [I a.id, I a.term_, I a.vote, I a.role, I a.lead, .w (sl 1 cI a.conf) (g4 0 0), I a.log.start, I a.log.startTerm, .w (sl 3 Entry.c a.log.entries) (g5 0 2), I a.commit, I a.clock, I a.limit, .w (sl 1 cI a.votes) (g6 0 0), .al 42 none 4 a.peers.length (g7 0 0) 0]), (42, .w (sl 4 Peer.c a.peers) (g7 0 0))] rfl (Le.of rfl) ?_
 refine RW.pullT (k := 3) (l := 42) (j := 13) 3 42 13 rfl rfl rfl (by decide) rfl rfl rfl ?_
 refine RW.le [(2, .obj b2 [I 0, I 0, I 0, I 0, I 0, .r (.v (.slice none 0 0)), I 0, I 0, .r (.v (.slice none 0 0)), I 0, I 0, I 0, .r (.v (.slice none 0 0)), .r (.v (.slice none 0 0))]), (3, .obj b3 [I a.id, I a.term_, I a.vote, I a.role, I a.lead, .w (sl 1 cI a.conf) (g4 0 0), I a.log.start, I a.log.startTerm, .w (sl 3 Entry.c a.log.entries) (g5 0 2), I a.commit, I a.clock, I a.limit, .w (sl 1 cI a.votes) (g6 0 0), .w (sl 4 Peer.c a.peers) (g7 0 0)])] rfl (Le.of rfl) ?_
 refine RW.nil ?_
 refine CW.le [(2, .obj b2 [I 0, I 0, I 0, I 0, I 0, .r (.v (.slice none 0 0)), I 0, I 0, .r (.v (.slice none 0 0)), I 0, I 0, I 0, .r (.v (.slice none 0 0)), .r (.v (.slice none 0 0))]), (3, .obj b3 [I a.id, I a.term_, I a.vote, I a.role, I a.lead, .w (sl 1 cI a.conf) (g4 0 0), I a.log.start, I a.log.startTerm, .w (sl 3 Entry.c a.log.entries) (g5 0 2), I a.commit, I a.clock, I a.limit, .w (sl 1 cI a.votes) (g6 0 0), .w (sl 4 Peer.c a.peers) (g7 0 0)])] rfl (Le.of rfl) ?_
 refine CW.seq ?_
 refine CW.region ?_
 refine RW.v rfl (V.loadAgg rfl rfl rfl rfl rfl (Nat.le_of_ble_eq_true rfl)) ?_
 refine RW.storeAgg (es := [I a.id, I a.term_, I a.vote, I a.role, I a.lead, .al 3 (some 5) 1 a.conf.length (g4 0 0) 0, I a.log.start, I a.log.startTerm, .al 3 (some 8) 3 a.log.entries.length (g5 0 2) 0, I a.commit, I a.clock, I a.limit, .al 3 (some 12) 1 a.votes.length (g6 0 0) 0, .al 3 (some 13) 4 a.peers.length (g7 0 0) 0]) rfl rfl rfl rfl rfl rfl rfl rfl (Nat.le_of_ble_eq_true rfl) rfl ?_
 refine RW.le [(2, .obj b2 [I a.id, I a.term_, I a.vote, I a.role, I a.lead, .al 3 (some 5) 1 a.conf.length (g4 0 0) 0, I a.log.start, I a.log.startTerm, .al 3 (some 8) 3 a.log.entries.length (g5 0 2) 0, I a.commit, I a.clock, I a.limit, .al 3 (some 12) 1 a.votes.length (g6 0 0) 0, .al 3 (some 13) 4 a.peers.length (g7 0 0) 0]), (3, .obj b3 [I a.id, I a.term_, I a.vote, I a.role, I a.lead, .w (sl 1 cI a.conf) (g4 0 0), I a.log.start, I a.log.startTerm, .w (sl 3 Entry.c a.log.entries) (g5 0 2), I a.commit, I a.clock, I a.limit, .w (sl 1 cI a.votes) (g6 0 0), .w (sl 4 Peer.c a.peers) (g7 0 0)])] rfl (Le.of rfl) ?_
 refine RW.pullO (k := 2) (l := 3) (j := 5) 2 3 5 rfl rfl rfl (by decide) rfl rfl rfl rfl ?_
 refine RW.le [(2, .obj b2 [I a.id, I a.term_, I a.vote, I a.role, I a.lead, .w (sl 1 cI a.conf) (g4 0 0), I a.log.start, I a.log.startTerm, .al 3 (some 8) 3 a.log.entries.length (g5 0 2) 0, I a.commit, I a.clock, I a.limit, .al 3 (some 12) 1 a.votes.length (g6 0 0) 0, .al 3 (some 13) 4 a.peers.length (g7 0 0) 0]), (3, .obj b3 [I a.id, I a.term_, I a.vote, I a.role, I a.lead, .u, I a.log.start, I a.log.startTerm, .w (sl 3 Entry.c a.log.entries) (g5 0 2), I a.commit, I a.clock, I a.limit, .w (sl 1 cI a.votes) (g6 0 0), .w (sl 4 Peer.c a.peers) (g7 0 0)])] rfl (Le.of rfl) ?_
 refine RW.pullO (k := 2) (l := 3) (j := 8) 2 3 8 rfl rfl rfl (by decide) rfl rfl rfl rfl ?_
 refine RW.le [(2, .obj b2 [I a.id, I a.term_, I a.vote, I a.role, I a.lead, .w (sl 1 cI a.conf) (g4 0 0), I a.log.start, I a.log.startTerm, .w (sl 3 Entry.c a.log.entries) (g5 0 2), I a.commit, I a.clock, I a.limit, .al 3 (some 12) 1 a.votes.length (g6 0 0) 0, .al 3 (some 13) 4 a.peers.length (g7 0 0) 0]), (3, .obj b3 [I a.id, I a.term_, I a.vote, I a.role, I a.lead, .u, I a.log.start, I a.log.startTerm, .u, I a.commit, I a.clock, I a.limit, .w (sl 1 cI a.votes) (g6 0 0), .w (sl 4 Peer.c a.peers) (g7 0 0)])] rfl (Le.of rfl) ?_
 refine RW.pullO (k := 2) (l := 3) (j := 12) 2 3 12 rfl rfl rfl (by decide) rfl rfl rfl rfl ?_
 refine RW.le [(2, .obj b2 [I a.id, I a.term_, I a.vote, I a.role, I a.lead, .w (sl 1 cI a.conf) (g4 0 0), I a.log.start, I a.log.startTerm, .w (sl 3 Entry.c a.log.entries) (g5 0 2), I a.commit, I a.clock, I a.limit, .w (sl 1 cI a.votes) (g6 0 0), .al 3 (some 13) 4 a.peers.length (g7 0 0) 0]), (3, .obj b3 [I a.id, I a.term_, I a.vote, I a.role, I a.lead, .u, I a.log.start, I a.log.startTerm, .u, I a.commit, I a.clock, I a.limit, .u, .w (sl 4 Peer.c a.peers) (g7 0 0)])] rfl (Le.of rfl) ?_
 refine RW.pullO (k := 2) (l := 3) (j := 13) 2 3 13 rfl rfl rfl (by decide) rfl rfl rfl rfl ?_
 refine RW.le [(2, .obj b2 [I a.id, I a.term_, I a.vote, I a.role, I a.lead, .w (sl 1 cI a.conf) (g4 0 0), I a.log.start, I a.log.startTerm, .w (sl 3 Entry.c a.log.entries) (g5 0 2), I a.commit, I a.clock, I a.limit, .w (sl 1 cI a.votes) (g6 0 0), .w (sl 4 Peer.c a.peers) (g7 0 0)])] rfl (Le.of rfl) ?_
 refine RW.nil ?_
 refine CW.le [(2, .obj b2 [I a.id, I a.term_, I a.vote, I a.role, I a.lead, .w (sl 1 cI a.conf) (g4 0 0), I a.log.start, I a.log.startTerm, .w (sl 3 Entry.c a.log.entries) (g5 0 2), I a.commit, I a.clock, I a.limit, .w (sl 1 cI a.votes) (g6 0 0), .w (sl 4 Peer.c a.peers) (g7 0 0)])] rfl (Le.of rfl) ?_
 refine CW.ret ?_
 exact Post.one (RV.c (f := fun e => (Node.c e).map .w) (e' := a) rfl rfl rfl rfl (DT.v (DT.v (DT.v (DT.v (DT.v (DT.w (DT.v (DT.v (DT.w (DT.v (DT.v (DT.v (DT.w (DT.w DT.e)))))))))))))) (by simp_all)) (AOs.a rfl AOs.e)
set_option maxHeartbeats 4000000 in
theorem laws_eqEntry_fn (a : Entry) (b : Entry) : Eng.Fn E.P 50 [.agg ((Entry.c a).map .r), .agg ((Entry.c b).map .r)] (.one (.one (.w (.v (.bool (eqEntry a b)))))) [.agg ((Entry.c a).map .r), .agg ((Entry.c b).map .r)] := by
 refine Eng.Fn.intro (E := E) (rvs := [.tmp 4]) Try.func50 rfl rfl rfl (by simp [outSlots, moved, rvSlot, sl]) ?_
 intro B g bo
 refine CW.le [(0, .agg ((Entry.c a).map .r)), (1, .agg ((Entry.c b).map .r))] rfl (Le.of rfl) ?_
 refine CW.seq ?_
 refine CW.region ?_
 refine RW.box (ds := ((Entry.c a).map .r)) rfl rfl rfl fun b1 => ?_
 refine RW.box (ds := ((Entry.c b).map .r)) rfl rfl rfl fun b2 => ?_
 refine RW.v rfl (V.as (d := Bo false) rfl rfl) ?_
 refine RW.nil ?_
 refine CW.le [(2, .obj b1 ((Entry.c a).map .r)), (3, .obj b2 ((Entry.c b).map .r))] rfl (Le.of rfl) ?_
 refine CW.seq ?_
 refine CW.seq ?_
 refine CW.region ?_
 refine RW.v rfl (V.field rfl rfl rfl rfl (by decide) rfl) ?_
 refine RW.v rfl (V.loadPrim (d := I a.term_) rfl rfl (.inl rfl) rfl rfl rfl) ?_
 refine RW.v rfl (V.field rfl rfl rfl rfl (by decide) rfl) ?_
 refine RW.v rfl (V.loadPrim (d := I b.term_) rfl rfl (.inl rfl) rfl rfl rfl) ?_
 refine RW.v rfl (V.cmpInt rfl rfl rfl rfl) ?_
 refine RW.nil ?_
 refine CW.le [(2, .obj b1 ((Entry.c a).map .r)), (3, .obj b2 ((Entry.c b).map .r)), (9, Bo (a.term_ != b.term_))] rfl (Le.of rfl) ?_
 refine CW.cond rfl (fun h3 => ?_) (fun h3 => ?_)
 ·skip
  refine CW.seq ?_
  refine CW.region ?_
  refine RW.v rfl (V.as (d := Bo false) rfl rfl) ?_
  refine RW.nil ?_
  refine CW.le [(4, Bo false)] rfl (Le.of rfl) ?_
  refine CW.ret ?_
  exact Post.one (RV.b rfl (by simp_all [eqEntry])) (AOs.a rfl (AOs.a rfl AOs.e))
 ·skip
  refine CW.skip ?_
  refine CW.le [(2, .obj b1 ((Entry.c a).map .r)), (3, .obj b2 ((Entry.c b).map .r))] rfl (Le.of rfl) ?_
  refine CW.seq ?_
  refine CW.seq ?_
  refine CW.region ?_
  refine RW.v rfl (V.field rfl rfl rfl rfl (by decide) rfl) ?_
  refine RW.v rfl (V.loadPrim (d := I a.kind) rfl rfl (.inl rfl) rfl rfl rfl) ?_
  refine RW.v rfl (V.field rfl rfl rfl rfl (by decide) rfl) ?_
  refine RW.v rfl (V.loadPrim (d := I b.kind) rfl rfl (.inl rfl) rfl rfl rfl) ?_
  refine RW.v rfl (V.cmpInt rfl rfl rfl rfl) ?_
  refine RW.nil ?_
  refine CW.le [(2, .obj b1 ((Entry.c a).map .r)), (3, .obj b2 ((Entry.c b).map .r)), (14, Bo (a.kind != b.kind))] rfl (Le.of rfl) ?_
  refine CW.cond rfl (fun h4 => ?_) (fun h4 => ?_)
  ·skip
   refine CW.seq ?_
   refine CW.region ?_
   refine RW.v rfl (V.as (d := Bo false) rfl rfl) ?_
   refine RW.nil ?_
   refine CW.le [(4, Bo false)] rfl (Le.of rfl) ?_
   refine CW.ret ?_
   exact Post.one (RV.b rfl (by simp_all [eqEntry])) (AOs.a rfl (AOs.a rfl AOs.e))
  ·skip
   refine CW.skip ?_
   refine CW.le [(2, .obj b1 ((Entry.c a).map .r)), (3, .obj b2 ((Entry.c b).map .r))] rfl (Le.of rfl) ?_
   refine CW.seq ?_
   refine CW.seq ?_
   refine CW.region ?_
   refine RW.v rfl (V.field rfl rfl rfl rfl (by decide) rfl) ?_
   refine RW.v rfl (V.loadPrim (d := S a.data) rfl rfl (.inl rfl) rfl rfl rfl) ?_
   refine RW.v rfl (V.field rfl rfl rfl rfl (by decide) rfl) ?_
   refine RW.v rfl (V.loadPrim (d := S b.data) rfl rfl (.inl rfl) rfl rfl rfl) ?_
   refine RW.v rfl (V.strCmp rfl rfl rfl rfl) ?_
   refine RW.nil ?_
   refine CW.le [(19, Bo (!(a.data.toList == b.data.toList)))] rfl (Le.of rfl) ?_
   refine CW.cond rfl (fun h5 => ?_) (fun h5 => ?_)
   ·skip
    refine CW.seq ?_
    refine CW.region ?_
    refine RW.v rfl (V.as (d := Bo false) rfl rfl) ?_
    refine RW.nil ?_
    refine CW.le [(4, Bo false)] rfl (Le.of rfl) ?_
    refine CW.ret ?_
    exact Post.one (RV.b rfl (by simp_all [eqEntry])) (AOs.a rfl (AOs.a rfl AOs.e))
   ·skip
    refine CW.skip ?_
    refine CW.le [] rfl (Le.of rfl) ?_
    refine CW.seq ?_
    refine CW.region ?_
    refine RW.v rfl (V.as (d := Bo true) rfl rfl) ?_
    refine RW.nil ?_
    refine CW.le [(4, Bo true)] rfl (Le.of rfl) ?_
    refine CW.ret ?_
    exact Post.one (RV.b rfl (by simp_all [eqEntry])) (AOs.a rfl (AOs.a rfl AOs.e))
set_option maxHeartbeats 4000000 in
theorem laws_eqEntryS_fn (a : List Entry) (b : List Entry) : Eng.Fn E.P 14 [.one (.r (sl 3 Entry.c a)), .one (.r (sl 3 Entry.c b))] (.one (.one (.w (.v (.bool (eqS eqEntry a b)))))) [.one (.r (sl 3 Entry.c a)), .one (.r (sl 3 Entry.c b))] := by
 refine Eng.Fn.intro (E := E) (rvs := [.tmp 4]) Try.func14 rfl rfl rfl (by simp [outSlots, moved, rvSlot, sl]) ?_
 intro B g bo
 refine CW.bound (x := .tmp 0) (n := a.length) (AsT.r) (fun hl0 => ?_)
 refine CW.bound (x := .tmp 1) (n := b.length) (AsT.r) (fun hl1 => ?_)
 refine CW.le [(0, .r (sl 3 Entry.c a)), (1, .r (sl 3 Entry.c b))] rfl (Le.of rfl) ?_
 refine CW.seq ?_
 refine CW.region ?_
 refine RW.v rfl (V.as (d := Bo false) rfl rfl) ?_
 refine RW.nil ?_
 refine CW.le [(0, .r (sl 3 Entry.c a)), (1, .r (sl 3 Entry.c b))] rfl (Le.of rfl) ?_
 refine CW.seq ?_
 refine CW.seq ?_
 refine CW.region ?_
 refine RW.v rfl (V.mv (d := .r (sl 3 Entry.c a)) rfl rfl) ?_
 refine RW.v rfl (V.lenT (n := a.length) rfl rfl rfl .r) ?_
 refine RW.v rfl (V.mv (d := .r (sl 3 Entry.c b)) rfl rfl) ?_
 refine RW.v rfl (V.lenT (n := b.length) rfl rfl rfl .r) ?_
 refine RW.v rfl (V.cmpInt rfl rfl rfl rfl) ?_
 refine RW.nil ?_
 refine CW.le [(0, .r (sl 3 Entry.c a)), (1, .r (sl 3 Entry.c b)), (10, Bo ((a.length : Int) != (b.length : Int)))] rfl (Le.of rfl) ?_
 refine CW.cond rfl (fun h1 => ?_) (fun h1 => ?_)
 ·skip
  refine CW.seq ?_
  refine CW.region ?_
  refine RW.v rfl (V.as (d := Bo false) rfl rfl) ?_
  refine RW.nil ?_
  refine CW.le [(4, Bo false)] rfl (Le.of rfl) ?_
  refine CW.ret ?_
  exact Post.one (RV.b rfl (by first | (simp_all [eqS, eqI, eqStr, eqB]; done) | exact (eqS_ne (by simp_all; omega)).symm)) (AOs.r (AOs.r AOs.e))
 ·skip
  refine CW.skip ?_
  refine CW.le [(0, .r (sl 3 Entry.c a)), (1, .r (sl 3 Entry.c b))] rfl (Le.of rfl) ?_
  refine CW.seq ?_
  refine CW.seq ?_
  refine CW.region ?_
  refine RW.v rfl (V.as (d := I 0) rfl rfl) ?_
  refine RW.nil ?_
  refine CW.le [(0, .r (sl 3 Entry.c a)), (1, .r (sl 3 Entry.c b)), (5, I 0)] rfl (Le.of rfl) ?_
  refine CW.block ?_
  refine CW.loopI 27 (fun (i : Nat) => [(0, .r (sl 3 Entry.c a)), (1, .r (sl 3 Entry.c b)), (5, I (i : Int))]) (fun (i : Nat) => i ≤ a.length ∧ eqS eqEntry (a.drop i) (b.drop i) = eqS eqEntry a b) (fun (i : Nat) => a.length - i) 0 rfl (Le.c rfl <| Le.c rfl <| Le.c rfl <| Le.e) ⟨by omega, by simp⟩ ?_
  rintro i ⟨hb, hr⟩
  have hlen : a.length = b.length := by simp at h1; omega
  refine CW.seq ?_
  refine CW.seq ?_
  refine CW.region ?_
  refine RW.v rfl (V.mv (d := I (i : Int)) rfl rfl) ?_
  refine RW.v rfl (V.mv (d := .r (sl 3 Entry.c a)) rfl rfl) ?_
  refine RW.v rfl (V.lenT (n := a.length) rfl rfl rfl .r) ?_
  refine RW.v rfl (V.cmpInt rfl rfl rfl rfl) ?_
  refine RW.nil ?_
  refine CW.le [(0, .r (sl 3 Entry.c a)), (1, .r (sl 3 Entry.c b)), (5, I (i : Int)), (14, Bo (decide ((i : Int) < (a.length : Int))))] rfl (Le.of rfl) ?_
  refine CW.cond rfl (fun h2 => ?_) (fun h2 => ?_)
  ·skip
   have hii : i < a.length := by have := h2; simp at this; first | exact this | omega | (simp; done) | (simp; omega)
   obtain ⟨ei, hei⟩ : ∃ e, a[i]? = some e := ⟨_, List.getElem?_eq_getElem hii⟩
   have hdi := drop_get hei
   have hib : i < b.length := by omega
   obtain ⟨eb, heb⟩ : ∃ e, b[i]? = some e := ⟨_, List.getElem?_eq_getElem hib⟩
   have hdb := drop_get heb
   refine CW.skip ?_
   refine CW.le [(0, .r (sl 3 Entry.c a)), (1, .r (sl 3 Entry.c b)), (5, I (i : Int))] rfl (Le.of rfl) ?_
   refine CW.seq ?_
   refine CW.block ?_
   refine CW.seq ?_
   refine CW.drawn (by kernel_rfl) ?_
   refine RQ.v rfl (V.mv (d := .r (sl 3 Entry.c a)) rfl rfl) ?_
   refine RQ.v rfl (V.mv (d := I (i : Int)) rfl rfl) ?_
   refine RQ.v rfl (V.indexS rfl rfl rfl rfl rfl rfl Entry.len hei) ?_
   refine RQ.v rfl (V.loadAggR rfl rfl rfl rfl (Nat.le_of_ble_eq_true rfl)) ?_
   refine RQ.v rfl (V.mv (d := .r (sl 3 Entry.c b)) rfl rfl) ?_
   refine RQ.v rfl (V.mv (d := I (i : Int)) rfl rfl) ?_
   refine RQ.v rfl (V.indexS rfl rfl rfl rfl rfl rfl Entry.len heb) ?_
   refine RQ.v rfl (V.loadAggR rfl rfl rfl rfl (Nat.le_of_ble_eq_true rfl)) ?_
   refine RQ.cons rfl (QOK.call (laws_eqEntry_fn ei eb) rfl (.cons (.agg (.cons (.r .r) (.cons (.r .r) (.cons (.r .r) (.nil))))) (.cons (.agg (.cons (.r .r) (.cons (.r .r) (.cons (.r .r) (.nil))))) (.nil))) ?_)
   refine RQ.v rfl (V.not rfl rfl) ?_
   refine RQ.nil ?_
   refine CW.le [(0, .r (sl 3 Entry.c a)), (1, .r (sl 3 Entry.c b)), (5, I (i : Int)), (26, Bo (!(eqEntry ei eb)))] rfl (Le.of rfl) ?_
   refine CW.cond rfl (fun h3 => ?_) (fun h3 => ?_)
   ·skip
    refine CW.seq ?_
    refine CW.region ?_
    refine RW.v rfl (V.as (d := Bo false) rfl rfl) ?_
    refine RW.nil ?_
    refine CW.le [(4, Bo false)] rfl (Le.of rfl) ?_
    refine CW.ret ?_
    exact Post.one (RV.b rfl (by first | (simp_all [eqS, eqI, eqStr, eqB]; done) | exact (eqS_ne (by simp_all; omega)).symm)) (AOs.r (AOs.r AOs.e))
   ·skip
    refine CW.skip ?_
    refine CW.le [(0, .r (sl 3 Entry.c a)), (1, .r (sl 3 Entry.c b)), (5, I (i : Int))] rfl (Le.of rfl) ?_
    refine CW.region ?_
    refine RW.v rfl (V.mv (d := I (i : Int)) rfl rfl) ?_
    refine RW.v rfl (V.inc rfl rfl rfl hii hl0) ?_
    refine RW.v rfl (V.as (d := I ((i + 1 : Nat) : Int)) rfl rfl) ?_
    refine RW.nil ?_
    exact ⟨i + 1, by omega, ⟨by omega, by simp_all [eqS, eqI, eqStr, eqB]⟩, rfl, Le.c rfl <| Le.c rfl <| Le.c rfl <| Le.e⟩
  ·skip
   have hii : a.length ≤ i := by have := h2; simp at this; first | exact this | omega | (simp; done) | (simp; omega)
   have hdi : a.drop i = [] := List.drop_eq_nil_of_le hii
   refine CW.exit ?_
   refine CW.le [] rfl (Le.of rfl) ?_
   refine CW.seq ?_
   refine CW.region ?_
   refine RW.v rfl (V.as (d := Bo true) rfl rfl) ?_
   refine RW.nil ?_
   refine CW.le [(4, Bo true)] rfl (Le.of rfl) ?_
   refine CW.ret ?_
   exact Post.one (RV.b rfl (by rw [← hr, hdi, List.drop_eq_nil_of_le (show b.length ≤ i by omega)]; rfl)) (AOs.r (AOs.r AOs.e))
set_option maxHeartbeats 4000000 in
theorem laws_eqIntS_fn (a : List Int) (b : List Int) : Eng.Fn E.P 27 [.one (.r (sl 1 cI a)), .one (.r (sl 1 cI b))] (.one (.one (.w (.v (.bool (eqS eqI a b)))))) [.one (.r (sl 1 cI a)), .one (.r (sl 1 cI b))] := by
 refine Eng.Fn.intro (E := E) (rvs := [.tmp 4]) Try.func27 rfl rfl rfl (by simp [outSlots, moved, rvSlot, sl]) ?_
 intro B g bo
 refine CW.bound (x := .tmp 0) (n := a.length) (AsT.r) (fun hl0 => ?_)
 refine CW.bound (x := .tmp 1) (n := b.length) (AsT.r) (fun hl1 => ?_)
 refine CW.le [(0, .r (sl 1 cI a)), (1, .r (sl 1 cI b))] rfl (Le.of rfl) ?_
 refine CW.seq ?_
 refine CW.region ?_
 refine RW.v rfl (V.as (d := Bo false) rfl rfl) ?_
 refine RW.nil ?_
 refine CW.le [(0, .r (sl 1 cI a)), (1, .r (sl 1 cI b))] rfl (Le.of rfl) ?_
 refine CW.seq ?_
 refine CW.seq ?_
 refine CW.region ?_
 refine RW.v rfl (V.mv (d := .r (sl 1 cI a)) rfl rfl) ?_
 refine RW.v rfl (V.lenT (n := a.length) rfl rfl rfl .r) ?_
 refine RW.v rfl (V.mv (d := .r (sl 1 cI b)) rfl rfl) ?_
 refine RW.v rfl (V.lenT (n := b.length) rfl rfl rfl .r) ?_
 refine RW.v rfl (V.cmpInt rfl rfl rfl rfl) ?_
 refine RW.nil ?_
 refine CW.le [(0, .r (sl 1 cI a)), (1, .r (sl 1 cI b)), (10, Bo ((a.length : Int) != (b.length : Int)))] rfl (Le.of rfl) ?_
 refine CW.cond rfl (fun h1 => ?_) (fun h1 => ?_)
 ·skip
  refine CW.seq ?_
  refine CW.region ?_
  refine RW.v rfl (V.as (d := Bo false) rfl rfl) ?_
  refine RW.nil ?_
  refine CW.le [(4, Bo false)] rfl (Le.of rfl) ?_
  refine CW.ret ?_
  exact Post.one (RV.b rfl (by first | (simp_all [eqS, eqI, eqStr, eqB]; done) | exact (eqS_ne (by simp_all; omega)).symm)) (AOs.r (AOs.r AOs.e))
 ·skip
  refine CW.skip ?_
  refine CW.le [(0, .r (sl 1 cI a)), (1, .r (sl 1 cI b))] rfl (Le.of rfl) ?_
  refine CW.seq ?_
  refine CW.seq ?_
  refine CW.region ?_
  refine RW.v rfl (V.as (d := I 0) rfl rfl) ?_
  refine RW.nil ?_
  refine CW.le [(0, .r (sl 1 cI a)), (1, .r (sl 1 cI b)), (5, I 0)] rfl (Le.of rfl) ?_
  refine CW.block ?_
  refine CW.loopI 26 (fun (i : Nat) => [(0, .r (sl 1 cI a)), (1, .r (sl 1 cI b)), (5, I (i : Int))]) (fun (i : Nat) => i ≤ a.length ∧ eqS eqI (a.drop i) (b.drop i) = eqS eqI a b) (fun (i : Nat) => a.length - i) 0 rfl (Le.c rfl <| Le.c rfl <| Le.c rfl <| Le.e) ⟨by omega, by simp⟩ ?_
  rintro i ⟨hb, hr⟩
  have hlen : a.length = b.length := by simp at h1; omega
  refine CW.seq ?_
  refine CW.seq ?_
  refine CW.region ?_
  refine RW.v rfl (V.mv (d := I (i : Int)) rfl rfl) ?_
  refine RW.v rfl (V.mv (d := .r (sl 1 cI a)) rfl rfl) ?_
  refine RW.v rfl (V.lenT (n := a.length) rfl rfl rfl .r) ?_
  refine RW.v rfl (V.cmpInt rfl rfl rfl rfl) ?_
  refine RW.nil ?_
  refine CW.le [(0, .r (sl 1 cI a)), (1, .r (sl 1 cI b)), (5, I (i : Int)), (14, Bo (decide ((i : Int) < (a.length : Int))))] rfl (Le.of rfl) ?_
  refine CW.cond rfl (fun h2 => ?_) (fun h2 => ?_)
  ·skip
   have hii : i < a.length := by have := h2; simp at this; first | exact this | omega | (simp; done) | (simp; omega)
   obtain ⟨ei, hei⟩ : ∃ e, a[i]? = some e := ⟨_, List.getElem?_eq_getElem hii⟩
   have hdi := drop_get hei
   have hib : i < b.length := by omega
   obtain ⟨eb, heb⟩ : ∃ e, b[i]? = some e := ⟨_, List.getElem?_eq_getElem hib⟩
   have hdb := drop_get heb
   refine CW.skip ?_
   refine CW.le [(0, .r (sl 1 cI a)), (1, .r (sl 1 cI b)), (5, I (i : Int))] rfl (Le.of rfl) ?_
   refine CW.seq ?_
   refine CW.block ?_
   refine CW.seq ?_
   refine CW.drawn (by kernel_rfl) ?_
   refine RQ.v rfl (V.mv (d := .r (sl 1 cI a)) rfl rfl) ?_
   refine RQ.v rfl (V.mv (d := I (i : Int)) rfl rfl) ?_
   refine RQ.v rfl (V.indexS rfl rfl rfl rfl rfl rfl cI.len hei) ?_
   refine RQ.v rfl (V.loadPrimR (t0 := .v (.int .i64 ei)) rfl rfl (.inl rfl) rfl rfl) ?_
   refine RQ.v rfl (V.mv (d := .r (sl 1 cI b)) rfl rfl) ?_
   refine RQ.v rfl (V.mv (d := I (i : Int)) rfl rfl) ?_
   refine RQ.v rfl (V.indexS rfl rfl rfl rfl rfl rfl cI.len heb) ?_
   refine RQ.v rfl (V.loadPrimR (t0 := .v (.int .i64 eb)) rfl rfl (.inl rfl) rfl rfl) ?_
   refine RQ.v rfl (V.cmpInt rfl rfl rfl rfl) ?_
   refine RQ.nil ?_
   refine CW.le [(0, .r (sl 1 cI a)), (1, .r (sl 1 cI b)), (5, I (i : Int)), (25, Bo (ei != eb))] rfl (Le.of rfl) ?_
   refine CW.cond rfl (fun h3 => ?_) (fun h3 => ?_)
   ·skip
    refine CW.seq ?_
    refine CW.region ?_
    refine RW.v rfl (V.as (d := Bo false) rfl rfl) ?_
    refine RW.nil ?_
    refine CW.le [(4, Bo false)] rfl (Le.of rfl) ?_
    refine CW.ret ?_
    exact Post.one (RV.b rfl (by first | (simp_all [eqS, eqI, eqStr, eqB]; done) | exact (eqS_ne (by simp_all; omega)).symm)) (AOs.r (AOs.r AOs.e))
   ·skip
    refine CW.skip ?_
    refine CW.le [(0, .r (sl 1 cI a)), (1, .r (sl 1 cI b)), (5, I (i : Int))] rfl (Le.of rfl) ?_
    refine CW.region ?_
    refine RW.v rfl (V.mv (d := I (i : Int)) rfl rfl) ?_
    refine RW.v rfl (V.inc rfl rfl rfl hii hl0) ?_
    refine RW.v rfl (V.as (d := I ((i + 1 : Nat) : Int)) rfl rfl) ?_
    refine RW.nil ?_
    exact ⟨i + 1, by omega, ⟨by omega, by simp_all [eqS, eqI, eqStr, eqB]⟩, rfl, Le.c rfl <| Le.c rfl <| Le.c rfl <| Le.e⟩
  ·skip
   have hii : a.length ≤ i := by have := h2; simp at this; first | exact this | omega | (simp; done) | (simp; omega)
   have hdi : a.drop i = [] := List.drop_eq_nil_of_le hii
   refine CW.exit ?_
   refine CW.le [] rfl (Le.of rfl) ?_
   refine CW.seq ?_
   refine CW.region ?_
   refine RW.v rfl (V.as (d := Bo true) rfl rfl) ?_
   refine RW.nil ?_
   refine CW.le [(4, Bo true)] rfl (Le.of rfl) ?_
   refine CW.ret ?_
   exact Post.one (RV.b rfl (by rw [← hr, hdi, List.drop_eq_nil_of_le (show b.length ≤ i by omega)]; rfl)) (AOs.r (AOs.r AOs.e))
set_option maxHeartbeats 4000000 in
theorem laws_eqLog_fn (a : Log) (b : Log) : Eng.Fn E.P 73 [.agg ((Log.c a).map .r), .agg ((Log.c b).map .r)] (.one (.one (.w (.v (.bool (eqLog a b)))))) [.agg ((Log.c a).map .r), .agg ((Log.c b).map .r)] := by
 refine Eng.Fn.intro (E := E) (rvs := [.tmp 4]) Try.func73 rfl rfl rfl (by simp [outSlots, moved, rvSlot, sl]) ?_
 intro B g bo
 refine CW.le [(0, .agg ((Log.c a).map .r)), (1, .agg ((Log.c b).map .r))] rfl (Le.of rfl) ?_
 refine CW.seq ?_
 refine CW.region ?_
 refine RW.box (ds := ((Log.c a).map .r)) rfl rfl rfl fun b1 => ?_
 refine RW.box (ds := ((Log.c b).map .r)) rfl rfl rfl fun b2 => ?_
 refine RW.v rfl (V.as (d := Bo false) rfl rfl) ?_
 refine RW.nil ?_
 refine CW.le [(2, .obj b1 ((Log.c a).map .r)), (3, .obj b2 ((Log.c b).map .r))] rfl (Le.of rfl) ?_
 refine CW.seq ?_
 refine CW.seq ?_
 refine CW.region ?_
 refine RW.v rfl (V.field rfl rfl rfl rfl (by decide) rfl) ?_
 refine RW.v rfl (V.loadPrim (d := I a.start) rfl rfl (.inl rfl) rfl rfl rfl) ?_
 refine RW.v rfl (V.field rfl rfl rfl rfl (by decide) rfl) ?_
 refine RW.v rfl (V.loadPrim (d := I b.start) rfl rfl (.inl rfl) rfl rfl rfl) ?_
 refine RW.v rfl (V.cmpInt rfl rfl rfl rfl) ?_
 refine RW.nil ?_
 refine CW.le [(2, .obj b1 ((Log.c a).map .r)), (3, .obj b2 ((Log.c b).map .r)), (9, Bo (a.start != b.start))] rfl (Le.of rfl) ?_
 refine CW.cond rfl (fun h3 => ?_) (fun h3 => ?_)
 ·skip
  refine CW.seq ?_
  refine CW.region ?_
  refine RW.v rfl (V.as (d := Bo false) rfl rfl) ?_
  refine RW.nil ?_
  refine CW.le [(4, Bo false)] rfl (Le.of rfl) ?_
  refine CW.ret ?_
  exact Post.one (RV.b rfl (by simp_all [eqLog])) (AOs.a rfl (AOs.a rfl AOs.e))
 ·skip
  refine CW.skip ?_
  refine CW.le [(2, .obj b1 ((Log.c a).map .r)), (3, .obj b2 ((Log.c b).map .r))] rfl (Le.of rfl) ?_
  refine CW.seq ?_
  refine CW.seq ?_
  refine CW.region ?_
  refine RW.v rfl (V.field rfl rfl rfl rfl (by decide) rfl) ?_
  refine RW.v rfl (V.loadPrim (d := I a.startTerm) rfl rfl (.inl rfl) rfl rfl rfl) ?_
  refine RW.v rfl (V.field rfl rfl rfl rfl (by decide) rfl) ?_
  refine RW.v rfl (V.loadPrim (d := I b.startTerm) rfl rfl (.inl rfl) rfl rfl rfl) ?_
  refine RW.v rfl (V.cmpInt rfl rfl rfl rfl) ?_
  refine RW.nil ?_
  refine CW.le [(2, .obj b1 ((Log.c a).map .r)), (3, .obj b2 ((Log.c b).map .r)), (14, Bo (a.startTerm != b.startTerm))] rfl (Le.of rfl) ?_
  refine CW.cond rfl (fun h4 => ?_) (fun h4 => ?_)
  ·skip
   refine CW.seq ?_
   refine CW.region ?_
   refine RW.v rfl (V.as (d := Bo false) rfl rfl) ?_
   refine RW.nil ?_
   refine CW.le [(4, Bo false)] rfl (Le.of rfl) ?_
   refine CW.ret ?_
   exact Post.one (RV.b rfl (by simp_all [eqLog])) (AOs.a rfl (AOs.a rfl AOs.e))
  ·skip
   refine CW.skip ?_
   refine CW.le [(2, .obj b1 ((Log.c a).map .r)), (3, .obj b2 ((Log.c b).map .r))] rfl (Le.of rfl) ?_
   refine CW.seq ?_
   refine CW.seq ?_
   refine CW.region ?_
   refine RW.v rfl (V.field rfl rfl rfl rfl (by decide) rfl) ?_
   refine RW.v rfl (V.loadPrim (d := .r (sl 3 Entry.c a.entries)) rfl rfl (.inr ⟨_, rfl⟩) rfl rfl rfl) ?_
   refine RW.v rfl (V.field rfl rfl rfl rfl (by decide) rfl) ?_
   refine RW.v rfl (V.loadPrim (d := .r (sl 3 Entry.c b.entries)) rfl rfl (.inr ⟨_, rfl⟩) rfl rfl rfl) ?_
   refine RW.call rfl (laws_eqEntryS_fn a.entries b.entries) rfl (.cons (.one (.r .r)) (.cons (.one (.r .r)) (.nil))) fun g5 => ?_
   refine RW.v rfl (V.not rfl rfl) ?_
   refine RW.nil ?_
   refine CW.le [(20, Bo (!(eqS eqEntry a.entries b.entries)))] rfl (Le.of rfl) ?_
   refine CW.cond rfl (fun h6 => ?_) (fun h6 => ?_)
   ·skip
    refine CW.seq ?_
    refine CW.region ?_
    refine RW.v rfl (V.as (d := Bo false) rfl rfl) ?_
    refine RW.nil ?_
    refine CW.le [(4, Bo false)] rfl (Le.of rfl) ?_
    refine CW.ret ?_
    exact Post.one (RV.b rfl (by simp_all [eqLog])) (AOs.a rfl (AOs.a rfl AOs.e))
   ·skip
    refine CW.skip ?_
    refine CW.le [] rfl (Le.of rfl) ?_
    refine CW.seq ?_
    refine CW.region ?_
    refine RW.v rfl (V.as (d := Bo true) rfl rfl) ?_
    refine RW.nil ?_
    refine CW.le [(4, Bo true)] rfl (Le.of rfl) ?_
    refine CW.ret ?_
    exact Post.one (RV.b rfl (by simp_all [eqLog])) (AOs.a rfl (AOs.a rfl AOs.e))
set_option maxHeartbeats 4000000 in
theorem laws_eqPeer_fn (a : Peer) (b : Peer) : Eng.Fn E.P 122 [.agg ((Peer.c a).map .r), .agg ((Peer.c b).map .r)] (.one (.one (.w (.v (.bool (eqPeer a b)))))) [.agg ((Peer.c a).map .r), .agg ((Peer.c b).map .r)] := by
 refine Eng.Fn.intro (E := E) (rvs := [.tmp 4]) Try.func122 rfl rfl rfl (by simp [outSlots, moved, rvSlot, sl]) ?_
 intro B g bo
 refine CW.le [(0, .agg ((Peer.c a).map .r)), (1, .agg ((Peer.c b).map .r))] rfl (Le.of rfl) ?_
 refine CW.seq ?_
 refine CW.region ?_
 refine RW.box (ds := ((Peer.c a).map .r)) rfl rfl rfl fun b1 => ?_
 refine RW.box (ds := ((Peer.c b).map .r)) rfl rfl rfl fun b2 => ?_
 refine RW.v rfl (V.as (d := Bo false) rfl rfl) ?_
 refine RW.nil ?_
 refine CW.le [(2, .obj b1 ((Peer.c a).map .r)), (3, .obj b2 ((Peer.c b).map .r))] rfl (Le.of rfl) ?_
 refine CW.seq ?_
 refine CW.seq ?_
 refine CW.region ?_
 refine RW.v rfl (V.field rfl rfl rfl rfl (by decide) rfl) ?_
 refine RW.v rfl (V.loadPrim (d := I a.id) rfl rfl (.inl rfl) rfl rfl rfl) ?_
 refine RW.v rfl (V.field rfl rfl rfl rfl (by decide) rfl) ?_
 refine RW.v rfl (V.loadPrim (d := I b.id) rfl rfl (.inl rfl) rfl rfl rfl) ?_
 refine RW.v rfl (V.cmpInt rfl rfl rfl rfl) ?_
 refine RW.nil ?_
 refine CW.le [(2, .obj b1 ((Peer.c a).map .r)), (3, .obj b2 ((Peer.c b).map .r)), (9, Bo (a.id != b.id))] rfl (Le.of rfl) ?_
 refine CW.cond rfl (fun h3 => ?_) (fun h3 => ?_)
 ·skip
  refine CW.seq ?_
  refine CW.region ?_
  refine RW.v rfl (V.as (d := Bo false) rfl rfl) ?_
  refine RW.nil ?_
  refine CW.le [(4, Bo false)] rfl (Le.of rfl) ?_
  refine CW.ret ?_
  exact Post.one (RV.b rfl (by simp_all [eqPeer])) (AOs.a rfl (AOs.a rfl AOs.e))
 ·skip
  refine CW.skip ?_
  refine CW.le [(2, .obj b1 ((Peer.c a).map .r)), (3, .obj b2 ((Peer.c b).map .r))] rfl (Le.of rfl) ?_
  refine CW.seq ?_
  refine CW.seq ?_
  refine CW.region ?_
  refine RW.v rfl (V.field rfl rfl rfl rfl (by decide) rfl) ?_
  refine RW.v rfl (V.loadPrim (d := I a.next) rfl rfl (.inl rfl) rfl rfl rfl) ?_
  refine RW.v rfl (V.field rfl rfl rfl rfl (by decide) rfl) ?_
  refine RW.v rfl (V.loadPrim (d := I b.next) rfl rfl (.inl rfl) rfl rfl rfl) ?_
  refine RW.v rfl (V.cmpInt rfl rfl rfl rfl) ?_
  refine RW.nil ?_
  refine CW.le [(2, .obj b1 ((Peer.c a).map .r)), (3, .obj b2 ((Peer.c b).map .r)), (14, Bo (a.next != b.next))] rfl (Le.of rfl) ?_
  refine CW.cond rfl (fun h4 => ?_) (fun h4 => ?_)
  ·skip
   refine CW.seq ?_
   refine CW.region ?_
   refine RW.v rfl (V.as (d := Bo false) rfl rfl) ?_
   refine RW.nil ?_
   refine CW.le [(4, Bo false)] rfl (Le.of rfl) ?_
   refine CW.ret ?_
   exact Post.one (RV.b rfl (by simp_all [eqPeer])) (AOs.a rfl (AOs.a rfl AOs.e))
  ·skip
   refine CW.skip ?_
   refine CW.le [(2, .obj b1 ((Peer.c a).map .r)), (3, .obj b2 ((Peer.c b).map .r))] rfl (Le.of rfl) ?_
   refine CW.seq ?_
   refine CW.seq ?_
   refine CW.region ?_
   refine RW.v rfl (V.field rfl rfl rfl rfl (by decide) rfl) ?_
   refine RW.v rfl (V.loadPrim (d := I a.match_) rfl rfl (.inl rfl) rfl rfl rfl) ?_
   refine RW.v rfl (V.field rfl rfl rfl rfl (by decide) rfl) ?_
   refine RW.v rfl (V.loadPrim (d := I b.match_) rfl rfl (.inl rfl) rfl rfl rfl) ?_
   refine RW.v rfl (V.cmpInt rfl rfl rfl rfl) ?_
   refine RW.nil ?_
   refine CW.le [(2, .obj b1 ((Peer.c a).map .r)), (3, .obj b2 ((Peer.c b).map .r)), (19, Bo (a.match_ != b.match_))] rfl (Le.of rfl) ?_
   refine CW.cond rfl (fun h5 => ?_) (fun h5 => ?_)
   ·skip
    refine CW.seq ?_
    refine CW.region ?_
    refine RW.v rfl (V.as (d := Bo false) rfl rfl) ?_
    refine RW.nil ?_
    refine CW.le [(4, Bo false)] rfl (Le.of rfl) ?_
    refine CW.ret ?_
    exact Post.one (RV.b rfl (by simp_all [eqPeer])) (AOs.a rfl (AOs.a rfl AOs.e))
   ·skip
    refine CW.skip ?_
    refine CW.le [(2, .obj b1 ((Peer.c a).map .r)), (3, .obj b2 ((Peer.c b).map .r))] rfl (Le.of rfl) ?_
    refine CW.seq ?_
    refine CW.seq ?_
    refine CW.region ?_
    refine RW.v rfl (V.field rfl rfl rfl rfl (by decide) rfl) ?_
    refine RW.v rfl (V.loadPrim (d := I a.sent) rfl rfl (.inl rfl) rfl rfl rfl) ?_
    refine RW.v rfl (V.field rfl rfl rfl rfl (by decide) rfl) ?_
    refine RW.v rfl (V.loadPrim (d := I b.sent) rfl rfl (.inl rfl) rfl rfl rfl) ?_
    refine RW.v rfl (V.cmpInt rfl rfl rfl rfl) ?_
    refine RW.nil ?_
    refine CW.le [(24, Bo (a.sent != b.sent))] rfl (Le.of rfl) ?_
    refine CW.cond rfl (fun h6 => ?_) (fun h6 => ?_)
    ·skip
     refine CW.seq ?_
     refine CW.region ?_
     refine RW.v rfl (V.as (d := Bo false) rfl rfl) ?_
     refine RW.nil ?_
     refine CW.le [(4, Bo false)] rfl (Le.of rfl) ?_
     refine CW.ret ?_
     exact Post.one (RV.b rfl (by simp_all [eqPeer])) (AOs.a rfl (AOs.a rfl AOs.e))
    ·skip
     refine CW.skip ?_
     refine CW.le [] rfl (Le.of rfl) ?_
     refine CW.seq ?_
     refine CW.region ?_
     refine RW.v rfl (V.as (d := Bo true) rfl rfl) ?_
     refine RW.nil ?_
     refine CW.le [(4, Bo true)] rfl (Le.of rfl) ?_
     refine CW.ret ?_
     exact Post.one (RV.b rfl (by simp_all [eqPeer])) (AOs.a rfl (AOs.a rfl AOs.e))
set_option maxHeartbeats 4000000 in
theorem laws_eqPeerS_fn (a : List Peer) (b : List Peer) : Eng.Fn E.P 74 [.one (.r (sl 4 Peer.c a)), .one (.r (sl 4 Peer.c b))] (.one (.one (.w (.v (.bool (eqS eqPeer a b)))))) [.one (.r (sl 4 Peer.c a)), .one (.r (sl 4 Peer.c b))] := by
 refine Eng.Fn.intro (E := E) (rvs := [.tmp 4]) Try.func74 rfl rfl rfl (by simp [outSlots, moved, rvSlot, sl]) ?_
 intro B g bo
 refine CW.bound (x := .tmp 0) (n := a.length) (AsT.r) (fun hl0 => ?_)
 refine CW.bound (x := .tmp 1) (n := b.length) (AsT.r) (fun hl1 => ?_)
 refine CW.le [(0, .r (sl 4 Peer.c a)), (1, .r (sl 4 Peer.c b))] rfl (Le.of rfl) ?_
 refine CW.seq ?_
 refine CW.region ?_
 refine RW.v rfl (V.as (d := Bo false) rfl rfl) ?_
 refine RW.nil ?_
 refine CW.le [(0, .r (sl 4 Peer.c a)), (1, .r (sl 4 Peer.c b))] rfl (Le.of rfl) ?_
 refine CW.seq ?_
 refine CW.seq ?_
 refine CW.region ?_
 refine RW.v rfl (V.mv (d := .r (sl 4 Peer.c a)) rfl rfl) ?_
 refine RW.v rfl (V.lenT (n := a.length) rfl rfl rfl .r) ?_
 refine RW.v rfl (V.mv (d := .r (sl 4 Peer.c b)) rfl rfl) ?_
 refine RW.v rfl (V.lenT (n := b.length) rfl rfl rfl .r) ?_
 refine RW.v rfl (V.cmpInt rfl rfl rfl rfl) ?_
 refine RW.nil ?_
 refine CW.le [(0, .r (sl 4 Peer.c a)), (1, .r (sl 4 Peer.c b)), (10, Bo ((a.length : Int) != (b.length : Int)))] rfl (Le.of rfl) ?_
 refine CW.cond rfl (fun h1 => ?_) (fun h1 => ?_)
 ·skip
  refine CW.seq ?_
  refine CW.region ?_
  refine RW.v rfl (V.as (d := Bo false) rfl rfl) ?_
  refine RW.nil ?_
  refine CW.le [(4, Bo false)] rfl (Le.of rfl) ?_
  refine CW.ret ?_
  exact Post.one (RV.b rfl (by first | (simp_all [eqS, eqI, eqStr, eqB]; done) | exact (eqS_ne (by simp_all; omega)).symm)) (AOs.r (AOs.r AOs.e))
 ·skip
  refine CW.skip ?_
  refine CW.le [(0, .r (sl 4 Peer.c a)), (1, .r (sl 4 Peer.c b))] rfl (Le.of rfl) ?_
  refine CW.seq ?_
  refine CW.seq ?_
  refine CW.region ?_
  refine RW.v rfl (V.as (d := I 0) rfl rfl) ?_
  refine RW.nil ?_
  refine CW.le [(0, .r (sl 4 Peer.c a)), (1, .r (sl 4 Peer.c b)), (5, I 0)] rfl (Le.of rfl) ?_
  refine CW.block ?_
  refine CW.loopI 27 (fun (i : Nat) => [(0, .r (sl 4 Peer.c a)), (1, .r (sl 4 Peer.c b)), (5, I (i : Int))]) (fun (i : Nat) => i ≤ a.length ∧ eqS eqPeer (a.drop i) (b.drop i) = eqS eqPeer a b) (fun (i : Nat) => a.length - i) 0 rfl (Le.c rfl <| Le.c rfl <| Le.c rfl <| Le.e) ⟨by omega, by simp⟩ ?_
  rintro i ⟨hb, hr⟩
  have hlen : a.length = b.length := by simp at h1; omega
  refine CW.seq ?_
  refine CW.seq ?_
  refine CW.region ?_
  refine RW.v rfl (V.mv (d := I (i : Int)) rfl rfl) ?_
  refine RW.v rfl (V.mv (d := .r (sl 4 Peer.c a)) rfl rfl) ?_
  refine RW.v rfl (V.lenT (n := a.length) rfl rfl rfl .r) ?_
  refine RW.v rfl (V.cmpInt rfl rfl rfl rfl) ?_
  refine RW.nil ?_
  refine CW.le [(0, .r (sl 4 Peer.c a)), (1, .r (sl 4 Peer.c b)), (5, I (i : Int)), (14, Bo (decide ((i : Int) < (a.length : Int))))] rfl (Le.of rfl) ?_
  refine CW.cond rfl (fun h2 => ?_) (fun h2 => ?_)
  ·skip
   have hii : i < a.length := by have := h2; simp at this; first | exact this | omega | (simp; done) | (simp; omega)
   obtain ⟨ei, hei⟩ : ∃ e, a[i]? = some e := ⟨_, List.getElem?_eq_getElem hii⟩
   have hdi := drop_get hei
   have hib : i < b.length := by omega
   obtain ⟨eb, heb⟩ : ∃ e, b[i]? = some e := ⟨_, List.getElem?_eq_getElem hib⟩
   have hdb := drop_get heb
   refine CW.skip ?_
   refine CW.le [(0, .r (sl 4 Peer.c a)), (1, .r (sl 4 Peer.c b)), (5, I (i : Int))] rfl (Le.of rfl) ?_
   refine CW.seq ?_
   refine CW.block ?_
   refine CW.seq ?_
   refine CW.drawn (by kernel_rfl) ?_
   refine RQ.v rfl (V.mv (d := .r (sl 4 Peer.c a)) rfl rfl) ?_
   refine RQ.v rfl (V.mv (d := I (i : Int)) rfl rfl) ?_
   refine RQ.v rfl (V.indexS rfl rfl rfl rfl rfl rfl Peer.len hei) ?_
   refine RQ.v rfl (V.loadAggR rfl rfl rfl rfl (Nat.le_of_ble_eq_true rfl)) ?_
   refine RQ.v rfl (V.mv (d := .r (sl 4 Peer.c b)) rfl rfl) ?_
   refine RQ.v rfl (V.mv (d := I (i : Int)) rfl rfl) ?_
   refine RQ.v rfl (V.indexS rfl rfl rfl rfl rfl rfl Peer.len heb) ?_
   refine RQ.v rfl (V.loadAggR rfl rfl rfl rfl (Nat.le_of_ble_eq_true rfl)) ?_
   refine RQ.cons rfl (QOK.call (laws_eqPeer_fn ei eb) rfl (.cons (.agg (.cons (.r .r) (.cons (.r .r) (.cons (.r .r) (.cons (.r .r) (.nil)))))) (.cons (.agg (.cons (.r .r) (.cons (.r .r) (.cons (.r .r) (.cons (.r .r) (.nil)))))) (.nil))) ?_)
   refine RQ.v rfl (V.not rfl rfl) ?_
   refine RQ.nil ?_
   refine CW.le [(0, .r (sl 4 Peer.c a)), (1, .r (sl 4 Peer.c b)), (5, I (i : Int)), (26, Bo (!(eqPeer ei eb)))] rfl (Le.of rfl) ?_
   refine CW.cond rfl (fun h3 => ?_) (fun h3 => ?_)
   ·skip
    refine CW.seq ?_
    refine CW.region ?_
    refine RW.v rfl (V.as (d := Bo false) rfl rfl) ?_
    refine RW.nil ?_
    refine CW.le [(4, Bo false)] rfl (Le.of rfl) ?_
    refine CW.ret ?_
    exact Post.one (RV.b rfl (by first | (simp_all [eqS, eqI, eqStr, eqB]; done) | exact (eqS_ne (by simp_all; omega)).symm)) (AOs.r (AOs.r AOs.e))
   ·skip
    refine CW.skip ?_
    refine CW.le [(0, .r (sl 4 Peer.c a)), (1, .r (sl 4 Peer.c b)), (5, I (i : Int))] rfl (Le.of rfl) ?_
    refine CW.region ?_
    refine RW.v rfl (V.mv (d := I (i : Int)) rfl rfl) ?_
    refine RW.v rfl (V.inc rfl rfl rfl hii hl0) ?_
    refine RW.v rfl (V.as (d := I ((i + 1 : Nat) : Int)) rfl rfl) ?_
    refine RW.nil ?_
    exact ⟨i + 1, by omega, ⟨by omega, by simp_all [eqS, eqI, eqStr, eqB]⟩, rfl, Le.c rfl <| Le.c rfl <| Le.c rfl <| Le.e⟩
  ·skip
   have hii : a.length ≤ i := by have := h2; simp at this; first | exact this | omega | (simp; done) | (simp; omega)
   have hdi : a.drop i = [] := List.drop_eq_nil_of_le hii
   refine CW.exit ?_
   refine CW.le [] rfl (Le.of rfl) ?_
   refine CW.seq ?_
   refine CW.region ?_
   refine RW.v rfl (V.as (d := Bo true) rfl rfl) ?_
   refine RW.nil ?_
   refine CW.le [(4, Bo true)] rfl (Le.of rfl) ?_
   refine CW.ret ?_
   exact Post.one (RV.b rfl (by rw [← hr, hdi, List.drop_eq_nil_of_le (show b.length ≤ i by omega)]; rfl)) (AOs.r (AOs.r AOs.e))
set_option maxHeartbeats 4000000 in
theorem laws_eqNode_fn (a : Node) (b : Node) : Eng.Fn E.P 23 [.agg ((Node.c a).map .r), .agg ((Node.c b).map .r)] (.one (.one (.w (.v (.bool (eqNode a b)))))) [.agg ((Node.c a).map .r), .agg ((Node.c b).map .r)] := by
 refine Eng.Fn.intro (E := E) (rvs := [.tmp 4]) Try.func23 rfl rfl rfl (by simp [outSlots, moved, rvSlot, sl]) ?_
 intro B g bo
 refine CW.le [(0, .agg ((Node.c a).map .r)), (1, .agg ((Node.c b).map .r))] rfl (Le.of rfl) ?_
 refine CW.seq ?_
 refine CW.region ?_
 refine RW.box (ds := ((Node.c a).map .r)) rfl rfl rfl fun b1 => ?_
 refine RW.box (ds := ((Node.c b).map .r)) rfl rfl rfl fun b2 => ?_
 refine RW.v rfl (V.as (d := Bo false) rfl rfl) ?_
 refine RW.nil ?_
 refine CW.le [(2, .obj b1 ((Node.c a).map .r)), (3, .obj b2 ((Node.c b).map .r))] rfl (Le.of rfl) ?_
 refine CW.seq ?_
 refine CW.seq ?_
 refine CW.region ?_
 refine RW.v rfl (V.field rfl rfl rfl rfl (by decide) rfl) ?_
 refine RW.v rfl (V.loadPrim (d := I a.id) rfl rfl (.inl rfl) rfl rfl rfl) ?_
 refine RW.v rfl (V.field rfl rfl rfl rfl (by decide) rfl) ?_
 refine RW.v rfl (V.loadPrim (d := I b.id) rfl rfl (.inl rfl) rfl rfl rfl) ?_
 refine RW.v rfl (V.cmpInt rfl rfl rfl rfl) ?_
 refine RW.nil ?_
 refine CW.le [(2, .obj b1 ((Node.c a).map .r)), (3, .obj b2 ((Node.c b).map .r)), (9, Bo (a.id != b.id))] rfl (Le.of rfl) ?_
 refine CW.cond rfl (fun h3 => ?_) (fun h3 => ?_)
 ·skip
  refine CW.seq ?_
  refine CW.region ?_
  refine RW.v rfl (V.as (d := Bo false) rfl rfl) ?_
  refine RW.nil ?_
  refine CW.le [(4, Bo false)] rfl (Le.of rfl) ?_
  refine CW.ret ?_
  exact Post.one (RV.b rfl (by simp_all [eqNode])) (AOs.a rfl (AOs.a rfl AOs.e))
 ·skip
  refine CW.skip ?_
  refine CW.le [(2, .obj b1 ((Node.c a).map .r)), (3, .obj b2 ((Node.c b).map .r))] rfl (Le.of rfl) ?_
  refine CW.seq ?_
  refine CW.seq ?_
  refine CW.region ?_
  refine RW.v rfl (V.field rfl rfl rfl rfl (by decide) rfl) ?_
  refine RW.v rfl (V.loadPrim (d := I a.term_) rfl rfl (.inl rfl) rfl rfl rfl) ?_
  refine RW.v rfl (V.field rfl rfl rfl rfl (by decide) rfl) ?_
  refine RW.v rfl (V.loadPrim (d := I b.term_) rfl rfl (.inl rfl) rfl rfl rfl) ?_
  refine RW.v rfl (V.cmpInt rfl rfl rfl rfl) ?_
  refine RW.nil ?_
  refine CW.le [(2, .obj b1 ((Node.c a).map .r)), (3, .obj b2 ((Node.c b).map .r)), (14, Bo (a.term_ != b.term_))] rfl (Le.of rfl) ?_
  refine CW.cond rfl (fun h4 => ?_) (fun h4 => ?_)
  ·skip
   refine CW.seq ?_
   refine CW.region ?_
   refine RW.v rfl (V.as (d := Bo false) rfl rfl) ?_
   refine RW.nil ?_
   refine CW.le [(4, Bo false)] rfl (Le.of rfl) ?_
   refine CW.ret ?_
   exact Post.one (RV.b rfl (by simp_all [eqNode])) (AOs.a rfl (AOs.a rfl AOs.e))
  ·skip
   refine CW.skip ?_
   refine CW.le [(2, .obj b1 ((Node.c a).map .r)), (3, .obj b2 ((Node.c b).map .r))] rfl (Le.of rfl) ?_
   refine CW.seq ?_
   refine CW.seq ?_
   refine CW.region ?_
   refine RW.v rfl (V.field rfl rfl rfl rfl (by decide) rfl) ?_
   refine RW.v rfl (V.loadPrim (d := I a.vote) rfl rfl (.inl rfl) rfl rfl rfl) ?_
   refine RW.v rfl (V.field rfl rfl rfl rfl (by decide) rfl) ?_
   refine RW.v rfl (V.loadPrim (d := I b.vote) rfl rfl (.inl rfl) rfl rfl rfl) ?_
   refine RW.v rfl (V.cmpInt rfl rfl rfl rfl) ?_
   refine RW.nil ?_
   refine CW.le [(2, .obj b1 ((Node.c a).map .r)), (3, .obj b2 ((Node.c b).map .r)), (19, Bo (a.vote != b.vote))] rfl (Le.of rfl) ?_
   refine CW.cond rfl (fun h5 => ?_) (fun h5 => ?_)
   ·skip
    refine CW.seq ?_
    refine CW.region ?_
    refine RW.v rfl (V.as (d := Bo false) rfl rfl) ?_
    refine RW.nil ?_
    refine CW.le [(4, Bo false)] rfl (Le.of rfl) ?_
    refine CW.ret ?_
    exact Post.one (RV.b rfl (by simp_all [eqNode])) (AOs.a rfl (AOs.a rfl AOs.e))
   ·skip
    refine CW.skip ?_
    refine CW.le [(2, .obj b1 ((Node.c a).map .r)), (3, .obj b2 ((Node.c b).map .r))] rfl (Le.of rfl) ?_
    refine CW.seq ?_
    refine CW.seq ?_
    refine CW.region ?_
    refine RW.v rfl (V.field rfl rfl rfl rfl (by decide) rfl) ?_
    refine RW.v rfl (V.loadPrim (d := I a.role) rfl rfl (.inl rfl) rfl rfl rfl) ?_
    refine RW.v rfl (V.field rfl rfl rfl rfl (by decide) rfl) ?_
    refine RW.v rfl (V.loadPrim (d := I b.role) rfl rfl (.inl rfl) rfl rfl rfl) ?_
    refine RW.v rfl (V.cmpInt rfl rfl rfl rfl) ?_
    refine RW.nil ?_
    refine CW.le [(2, .obj b1 ((Node.c a).map .r)), (3, .obj b2 ((Node.c b).map .r)), (24, Bo (a.role != b.role))] rfl (Le.of rfl) ?_
    refine CW.cond rfl (fun h6 => ?_) (fun h6 => ?_)
    ·skip
     refine CW.seq ?_
     refine CW.region ?_
     refine RW.v rfl (V.as (d := Bo false) rfl rfl) ?_
     refine RW.nil ?_
     refine CW.le [(4, Bo false)] rfl (Le.of rfl) ?_
     refine CW.ret ?_
     exact Post.one (RV.b rfl (by simp_all [eqNode])) (AOs.a rfl (AOs.a rfl AOs.e))
    ·skip
     refine CW.skip ?_
     refine CW.le [(2, .obj b1 ((Node.c a).map .r)), (3, .obj b2 ((Node.c b).map .r))] rfl (Le.of rfl) ?_
     refine CW.seq ?_
     refine CW.seq ?_
     refine CW.region ?_
     refine RW.v rfl (V.field rfl rfl rfl rfl (by decide) rfl) ?_
     refine RW.v rfl (V.loadPrim (d := I a.lead) rfl rfl (.inl rfl) rfl rfl rfl) ?_
     refine RW.v rfl (V.field rfl rfl rfl rfl (by decide) rfl) ?_
     refine RW.v rfl (V.loadPrim (d := I b.lead) rfl rfl (.inl rfl) rfl rfl rfl) ?_
     refine RW.v rfl (V.cmpInt rfl rfl rfl rfl) ?_
     refine RW.nil ?_
     refine CW.le [(2, .obj b1 ((Node.c a).map .r)), (3, .obj b2 ((Node.c b).map .r)), (29, Bo (a.lead != b.lead))] rfl (Le.of rfl) ?_
     refine CW.cond rfl (fun h7 => ?_) (fun h7 => ?_)
     ·skip
      refine CW.seq ?_
      refine CW.region ?_
      refine RW.v rfl (V.as (d := Bo false) rfl rfl) ?_
      refine RW.nil ?_
      refine CW.le [(4, Bo false)] rfl (Le.of rfl) ?_
      refine CW.ret ?_
      exact Post.one (RV.b rfl (by simp_all [eqNode])) (AOs.a rfl (AOs.a rfl AOs.e))
     ·skip
      refine CW.skip ?_
      refine CW.le [(2, .obj b1 ((Node.c a).map .r)), (3, .obj b2 ((Node.c b).map .r))] rfl (Le.of rfl) ?_
      refine CW.seq ?_
      refine CW.seq ?_
      refine CW.region ?_
      refine RW.v rfl (V.field rfl rfl rfl rfl (by decide) rfl) ?_
      refine RW.v rfl (V.loadPrim (d := .r (sl 1 cI a.conf)) rfl rfl (.inr ⟨_, rfl⟩) rfl rfl rfl) ?_
      refine RW.v rfl (V.field rfl rfl rfl rfl (by decide) rfl) ?_
      refine RW.v rfl (V.loadPrim (d := .r (sl 1 cI b.conf)) rfl rfl (.inr ⟨_, rfl⟩) rfl rfl rfl) ?_
      refine RW.call rfl (laws_eqIntS_fn a.conf b.conf) rfl (.cons (.one (.r .r)) (.cons (.one (.r .r)) (.nil))) fun g8 => ?_
      refine RW.v rfl (V.not rfl rfl) ?_
      refine RW.nil ?_
      refine CW.le [(2, .obj b1 ((Node.c a).map .r)), (3, .obj b2 ((Node.c b).map .r)), (35, Bo (!(eqS eqI a.conf b.conf)))] rfl (Le.of rfl) ?_
      refine CW.cond rfl (fun h9 => ?_) (fun h9 => ?_)
      ·skip
       refine CW.seq ?_
       refine CW.region ?_
       refine RW.v rfl (V.as (d := Bo false) rfl rfl) ?_
       refine RW.nil ?_
       refine CW.le [(4, Bo false)] rfl (Le.of rfl) ?_
       refine CW.ret ?_
       exact Post.one (RV.b rfl (by simp_all [eqNode])) (AOs.a rfl (AOs.a rfl AOs.e))
      ·skip
       refine CW.skip ?_
       refine CW.le [(2, .obj b1 ((Node.c a).map .r)), (3, .obj b2 ((Node.c b).map .r))] rfl (Le.of rfl) ?_
       refine CW.seq ?_
       refine CW.seq ?_
       refine CW.region ?_
       refine RW.v rfl (V.field rfl rfl rfl rfl (by decide) rfl) ?_
       refine RW.v rfl (V.loadAgg rfl rfl rfl rfl rfl (Nat.le_of_ble_eq_true rfl)) ?_
       refine RW.v rfl (V.field rfl rfl rfl rfl (by decide) rfl) ?_
       refine RW.v rfl (V.loadAgg rfl rfl rfl rfl rfl (Nat.le_of_ble_eq_true rfl)) ?_
       refine RW.call rfl (laws_eqLog_fn a.log b.log) rfl (.cons (.agg (.cons (.r .r) (.cons (.r .r) (.cons (.r .r) (.nil))))) (.cons (.agg (.cons (.r .r) (.cons (.r .r) (.cons (.r .r) (.nil))))) (.nil))) fun g10 => ?_
       refine RW.v rfl (V.not rfl rfl) ?_
       refine RW.nil ?_
       refine CW.le [(2, .obj b1 ((Node.c a).map .r)), (3, .obj b2 ((Node.c b).map .r)), (41, Bo (!(eqLog a.log b.log)))] rfl (Le.of rfl) ?_
       refine CW.cond rfl (fun h11 => ?_) (fun h11 => ?_)
       ·skip
        refine CW.seq ?_
        refine CW.region ?_
        refine RW.v rfl (V.as (d := Bo false) rfl rfl) ?_
        refine RW.nil ?_
        refine CW.le [(4, Bo false)] rfl (Le.of rfl) ?_
        refine CW.ret ?_
        exact Post.one (RV.b rfl (by simp_all [eqNode])) (AOs.a rfl (AOs.a rfl AOs.e))
       ·skip
        refine CW.skip ?_
        refine CW.le [(2, .obj b1 ((Node.c a).map .r)), (3, .obj b2 ((Node.c b).map .r))] rfl (Le.of rfl) ?_
        refine CW.seq ?_
        refine CW.seq ?_
        refine CW.region ?_
        refine RW.v rfl (V.field rfl rfl rfl rfl (by decide) rfl) ?_
        refine RW.v rfl (V.loadPrim (d := I a.commit) rfl rfl (.inl rfl) rfl rfl rfl) ?_
        refine RW.v rfl (V.field rfl rfl rfl rfl (by decide) rfl) ?_
        refine RW.v rfl (V.loadPrim (d := I b.commit) rfl rfl (.inl rfl) rfl rfl rfl) ?_
        refine RW.v rfl (V.cmpInt rfl rfl rfl rfl) ?_
        refine RW.nil ?_
        refine CW.le [(2, .obj b1 ((Node.c a).map .r)), (3, .obj b2 ((Node.c b).map .r)), (46, Bo (a.commit != b.commit))] rfl (Le.of rfl) ?_
        refine CW.cond rfl (fun h12 => ?_) (fun h12 => ?_)
        ·skip
         refine CW.seq ?_
         refine CW.region ?_
         refine RW.v rfl (V.as (d := Bo false) rfl rfl) ?_
         refine RW.nil ?_
         refine CW.le [(4, Bo false)] rfl (Le.of rfl) ?_
         refine CW.ret ?_
         exact Post.one (RV.b rfl (by simp_all [eqNode])) (AOs.a rfl (AOs.a rfl AOs.e))
        ·skip
         refine CW.skip ?_
         refine CW.le [(2, .obj b1 ((Node.c a).map .r)), (3, .obj b2 ((Node.c b).map .r))] rfl (Le.of rfl) ?_
         refine CW.seq ?_
         refine CW.seq ?_
         refine CW.region ?_
         refine RW.v rfl (V.field rfl rfl rfl rfl (by decide) rfl) ?_
         refine RW.v rfl (V.loadPrim (d := I a.clock) rfl rfl (.inl rfl) rfl rfl rfl) ?_
         refine RW.v rfl (V.field rfl rfl rfl rfl (by decide) rfl) ?_
         refine RW.v rfl (V.loadPrim (d := I b.clock) rfl rfl (.inl rfl) rfl rfl rfl) ?_
         refine RW.v rfl (V.cmpInt rfl rfl rfl rfl) ?_
         refine RW.nil ?_
         refine CW.le [(2, .obj b1 ((Node.c a).map .r)), (3, .obj b2 ((Node.c b).map .r)), (51, Bo (a.clock != b.clock))] rfl (Le.of rfl) ?_
         refine CW.cond rfl (fun h13 => ?_) (fun h13 => ?_)
         ·skip
          refine CW.seq ?_
          refine CW.region ?_
          refine RW.v rfl (V.as (d := Bo false) rfl rfl) ?_
          refine RW.nil ?_
          refine CW.le [(4, Bo false)] rfl (Le.of rfl) ?_
          refine CW.ret ?_
          exact Post.one (RV.b rfl (by simp_all [eqNode])) (AOs.a rfl (AOs.a rfl AOs.e))
         ·skip
          refine CW.skip ?_
          refine CW.le [(2, .obj b1 ((Node.c a).map .r)), (3, .obj b2 ((Node.c b).map .r))] rfl (Le.of rfl) ?_
          refine CW.seq ?_
          refine CW.seq ?_
          refine CW.region ?_
          refine RW.v rfl (V.field rfl rfl rfl rfl (by decide) rfl) ?_
          refine RW.v rfl (V.loadPrim (d := I a.limit) rfl rfl (.inl rfl) rfl rfl rfl) ?_
          refine RW.v rfl (V.field rfl rfl rfl rfl (by decide) rfl) ?_
          refine RW.v rfl (V.loadPrim (d := I b.limit) rfl rfl (.inl rfl) rfl rfl rfl) ?_
          refine RW.v rfl (V.cmpInt rfl rfl rfl rfl) ?_
          refine RW.nil ?_
          refine CW.le [(2, .obj b1 ((Node.c a).map .r)), (3, .obj b2 ((Node.c b).map .r)), (56, Bo (a.limit != b.limit))] rfl (Le.of rfl) ?_
          refine CW.cond rfl (fun h14 => ?_) (fun h14 => ?_)
          ·skip
           refine CW.seq ?_
           refine CW.region ?_
           refine RW.v rfl (V.as (d := Bo false) rfl rfl) ?_
           refine RW.nil ?_
           refine CW.le [(4, Bo false)] rfl (Le.of rfl) ?_
           refine CW.ret ?_
           exact Post.one (RV.b rfl (by simp_all [eqNode])) (AOs.a rfl (AOs.a rfl AOs.e))
          ·skip
           refine CW.skip ?_
           refine CW.le [(2, .obj b1 ((Node.c a).map .r)), (3, .obj b2 ((Node.c b).map .r))] rfl (Le.of rfl) ?_
           refine CW.seq ?_
           refine CW.seq ?_
           refine CW.region ?_
           refine RW.v rfl (V.field rfl rfl rfl rfl (by decide) rfl) ?_
           refine RW.v rfl (V.loadPrim (d := .r (sl 1 cI a.votes)) rfl rfl (.inr ⟨_, rfl⟩) rfl rfl rfl) ?_
           refine RW.v rfl (V.field rfl rfl rfl rfl (by decide) rfl) ?_
           refine RW.v rfl (V.loadPrim (d := .r (sl 1 cI b.votes)) rfl rfl (.inr ⟨_, rfl⟩) rfl rfl rfl) ?_
           refine RW.call rfl (laws_eqIntS_fn a.votes b.votes) rfl (.cons (.one (.r .r)) (.cons (.one (.r .r)) (.nil))) fun g15 => ?_
           refine RW.v rfl (V.not rfl rfl) ?_
           refine RW.nil ?_
           refine CW.le [(2, .obj b1 ((Node.c a).map .r)), (3, .obj b2 ((Node.c b).map .r)), (62, Bo (!(eqS eqI a.votes b.votes)))] rfl (Le.of rfl) ?_
           refine CW.cond rfl (fun h16 => ?_) (fun h16 => ?_)
           ·skip
            refine CW.seq ?_
            refine CW.region ?_
            refine RW.v rfl (V.as (d := Bo false) rfl rfl) ?_
            refine RW.nil ?_
            refine CW.le [(4, Bo false)] rfl (Le.of rfl) ?_
            refine CW.ret ?_
            exact Post.one (RV.b rfl (by simp_all [eqNode])) (AOs.a rfl (AOs.a rfl AOs.e))
           ·skip
            refine CW.skip ?_
            refine CW.le [(2, .obj b1 ((Node.c a).map .r)), (3, .obj b2 ((Node.c b).map .r))] rfl (Le.of rfl) ?_
            refine CW.seq ?_
            refine CW.seq ?_
            refine CW.region ?_
            refine RW.v rfl (V.field rfl rfl rfl rfl (by decide) rfl) ?_
            refine RW.v rfl (V.loadPrim (d := .r (sl 4 Peer.c a.peers)) rfl rfl (.inr ⟨_, rfl⟩) rfl rfl rfl) ?_
            refine RW.v rfl (V.field rfl rfl rfl rfl (by decide) rfl) ?_
            refine RW.v rfl (V.loadPrim (d := .r (sl 4 Peer.c b.peers)) rfl rfl (.inr ⟨_, rfl⟩) rfl rfl rfl) ?_
            refine RW.call rfl (laws_eqPeerS_fn a.peers b.peers) rfl (.cons (.one (.r .r)) (.cons (.one (.r .r)) (.nil))) fun g17 => ?_
            refine RW.v rfl (V.not rfl rfl) ?_
            refine RW.nil ?_
            refine CW.le [(68, Bo (!(eqS eqPeer a.peers b.peers)))] rfl (Le.of rfl) ?_
            refine CW.cond rfl (fun h18 => ?_) (fun h18 => ?_)
            ·skip
             refine CW.seq ?_
             refine CW.region ?_
             refine RW.v rfl (V.as (d := Bo false) rfl rfl) ?_
             refine RW.nil ?_
             refine CW.le [(4, Bo false)] rfl (Le.of rfl) ?_
             refine CW.ret ?_
             exact Post.one (RV.b rfl (by simp_all [eqNode])) (AOs.a rfl (AOs.a rfl AOs.e))
            ·skip
             refine CW.skip ?_
             refine CW.le [] rfl (Le.of rfl) ?_
             refine CW.seq ?_
             refine CW.region ?_
             refine RW.v rfl (V.as (d := Bo true) rfl rfl) ?_
             refine RW.nil ?_
             refine CW.le [(4, Bo true)] rfl (Le.of rfl) ?_
             refine CW.ret ?_
             exact Post.one (RV.b rfl (by simp_all [eqNode])) (AOs.a rfl (AOs.a rfl AOs.e))
set_option maxHeartbeats 4000000 in
theorem laws_markText_fn (k : Int) (hk : k ≤ 9223372036854775807) : Eng.Fn E.P 52 [.one (.r (.v (.int .i64 k)))] (.one (.one (.w (.v (.string (mtext k)))))) [.one (.r (.v (.int .i64 k)))] := by
 refine Eng.Fn.intro (E := E) (rvs := [.tmp 2]) Try.func52 rfl rfl rfl (by simp [outSlots, moved, rvSlot, sl]) ?_
 intro B g bo
 refine CW.le [(0, I k)] rfl (Le.of rfl) ?_
 refine CW.seq ?_
 refine CW.region ?_
 refine RW.v rfl (V.as (d := S (⟨#[]⟩ : ByteArray)) rfl rfl) ?_
 refine RW.nil ?_
 refine CW.le [(0, I k)] rfl (Le.of rfl) ?_
 refine CW.seq ?_
 refine CW.seq ?_
 refine CW.region ?_
 refine RW.v rfl (V.mv (d := I k) rfl rfl) ?_
 refine RW.v rfl (V.cmpInt rfl rfl rfl rfl) ?_
 refine RW.nil ?_
 refine CW.le [(0, I k), (5, Bo (decide (k ≤ 0)))] rfl (Le.of rfl) ?_
 refine CW.cond rfl (fun h1 => ?_) (fun h1 => ?_)
 ·skip
  refine CW.seq ?_
  refine CW.region ?_
  refine RW.v rfl (V.as (d := S (⟨#[109, 48]⟩ : ByteArray)) rfl rfl) ?_
  refine RW.nil ?_
  refine CW.le [(2, S (⟨#[109, 48]⟩ : ByteArray))] rfl (Le.of rfl) ?_
  refine CW.ret ?_
  exact Post.one (RV.s rfl (by simp_all [mtext])) (AOs.r AOs.e)
 ·skip
  refine CW.skip ?_
  refine CW.le [(0, I k)] rfl (Le.of rfl) ?_
  refine CW.seq ?_
  refine CW.region ?_
  refine RW.v rfl (V.as (d := S (⟨#[]⟩ : ByteArray)) rfl rfl) ?_
  refine RW.nil ?_
  refine CW.le [(0, I k), (3, S (⟨#[]⟩ : ByteArray))] rfl (Le.of rfl) ?_
  refine CW.seq ?_
  refine CW.block ?_
  refine CW.loopI 20 (fun (x : Int × ByteArray) => match x with | (n, out) => [(0, I n), (3, S out)]) (fun (x : Int × ByteArray) => match x with | (n, out) => 0 ≤ n ∧ out.size ≤ 60 ∧ n * 10 ^ out.size ≤ 9223372036854775807 ∧ dgs n.toNat out = dgs k.toNat ⟨#[]⟩) (fun (x : Int × ByteArray) => match x with | (n, out) => n.toNat) (_, _) rfl (Le.c rfl <| Le.c rfl <| Le.e) ⟨by simp at h1; omega, by decide, by show k * 10 ^ 0 ≤ _; omega, rfl⟩ ?_
  rintro ⟨n, out⟩ ⟨h0, hs, hp, hr⟩
  refine CW.seq ?_
  refine CW.seq ?_
  refine CW.region ?_
  refine RW.v rfl (V.mv (d := I n) rfl rfl) ?_
  refine RW.v rfl (V.cmpInt rfl rfl rfl rfl) ?_
  refine RW.nil ?_
  refine CW.le [(0, I n), (3, S out), (7, Bo (decide (n > 0)))] rfl (Le.of rfl) ?_
  refine CW.cond rfl (fun h2 => ?_) (fun h2 => ?_)
  ·skip
   refine CW.skip ?_
   refine CW.le [(0, I n), (3, S out)] rfl (Le.of rfl) ?_
   refine CW.block ?_
   refine CW.seq ?_
   refine CW.region ?_
   refine RW.v rfl (V.mv (d := I n) rfl rfl) ?_
   refine RW.v rfl (V.rem rfl rfl rfl (by decide)) ?_
   refine RW.v rfl (V.arInt rfl rfl rfl rfl) ?_
   refine RW.v rfl (V.convInt (k := .u8) (k' := .i64) rfl (by kernel_rfl) (by kernel_rfl) rfl) ?_
   refine RW.build1c (c := cU) (v := (IntKind.u8.wrap (IntKind.i64.wrap (48 + (Int.tmod n 10))))) (u := .v (.int .u8 (IntKind.u8.wrap (IntKind.i64.wrap (48 + (Int.tmod n 10)))))) rfl rfl rfl rfl rfl rfl (.inl rfl) rfl rfl fun X3 => ?_
   refine RW.v rfl (V.bytesStr (l := [(IntKind.u8.wrap (IntKind.i64.wrap (48 + (Int.tmod n 10))))]) rfl rfl rfl (by kernel_rfl) (by kernel_rfl) (.al (k := none) (i := 12) (sz := 1) (V := X3) rfl rfl nofun)) ?_
   refine RW.v rfl (V.mv (d := S out) rfl rfl) ?_
   refine RW.v rfl (V.cat rfl rfl rfl (by simp only [bytesOf_one, maxLen]; first | omega | (show 1 + out.size ≤ _; omega))) ?_
   refine RW.v rfl (V.as (d := S ((bytesOf ([(IntKind.u8.wrap (IntKind.i64.wrap (48 + (Int.tmod n 10))))])) ++ out)) rfl rfl) ?_
   refine RW.nil ?_
   refine CW.le [(0, I n), (3, S ((bytesOf ([(IntKind.u8.wrap (IntKind.i64.wrap (48 + (Int.tmod n 10))))])) ++ out))] rfl (Le.of rfl) ?_
   refine CW.region ?_
   refine RW.v rfl (V.mv (d := I n) rfl rfl) ?_
   refine RW.v rfl (V.quo rfl rfl rfl (by decide)) ?_
   refine RW.v rfl (V.as (d := I (IntKind.i64.wrap (Int.tdiv n 10))) rfl rfl) ?_
   refine RW.nil ?_
   exact ⟨(_, _), by have := mt_dec h0 hp h2; simp only []; omega, mt_step h0 hp hr h2, rfl, Le.c rfl <| Le.c rfl <| Le.e⟩
  ·skip
   refine CW.exit ?_
   refine CW.le [(3, S out)] rfl (Le.of rfl) ?_
   refine CW.seq ?_
   refine CW.region ?_
   refine RW.v rfl (V.mv (d := S out) rfl rfl) ?_
   refine RW.v rfl (V.cat rfl rfl rfl (by simp only [bytesOf_one, maxLen]; first | omega | (show 1 + out.size ≤ _; omega))) ?_
   refine RW.v rfl (V.as (d := S ((⟨#[109]⟩ : ByteArray) ++ out)) rfl rfl) ?_
   refine RW.nil ?_
   refine CW.le [(2, S ((⟨#[109]⟩ : ByteArray) ++ out))] rfl (Le.of rfl) ?_
   refine CW.ret ?_
   exact Post.one (RV.s rfl (by rw [mtext_dgs (by simpa using h1), ← hr, dgs, dif_pos (by simp at h2; omega)])) (AOs.r AOs.e)
set_option maxHeartbeats 4000000 in
theorem laws_markIntS_fn (a : List Int) (k : Int) (hk : k ≤ 9223372036854775807) : Eng.Fn E.P 28 [.one (.w (sl 1 cI a)), .one (.r (.v (.int .i64 k)))] (.one (.one (.w (.v (.int .i64 ((mkL mkI a k).2)))))) [.one (.w (sl 1 cI ((mkL mkI a k).1))), .one (.r (.v (.int .i64 k)))] := by
 refine Eng.Fn.intro (E := E) (rvs := [.tmp 4]) Try.func28 rfl rfl rfl (by simp [outSlots, moved, rvSlot, sl]) ?_
 intro B g bo
 refine CW.bound (x := .tmp 0) (n := a.length) (AsT.al rfl rfl nofun) (fun hl0 => ?_)
 refine CW.le [(0, .w (sl 1 cI a) (g 0 0)), (1, I k)] rfl (Le.of rfl) ?_
 have hl0b : a.length ≤ maxLen := hl0
 refine CW.seq ?_
 refine CW.region ?_
 refine RW.v rfl (V.as (d := I 0) rfl rfl) ?_
 refine RW.nil ?_
 refine CW.le [(0, .w (sl 1 cI a) (g 0 0)), (1, I k)] rfl (Le.of rfl) ?_
 refine CW.seq ?_
 refine CW.seq ?_
 refine CW.region ?_
 refine RW.v rfl (V.as (d := I 0) rfl rfl) ?_
 refine RW.nil ?_
 refine CW.le [(0, .w (sl 1 cI a) (g 0 0)), (1, I k), (5, I 0)] rfl (Le.of rfl) ?_
 refine CW.block ?_
 refine CW.loopI 19 (fun (x : Nat × Int × List Int) => match x with | (i, l, b) => [(0, .w (sl 1 cI b) (g 0 0)), (1, I l), (5, I (i : Int))]) (fun (x : Nat × Int × List Int) => match x with | (i, l, b) => i ≤ b.length ∧ l ≤ 9223372036854775807 ∧ b.length = a.length ∧ b.drop i = a.drop i ∧ (b.take i ++ (mkL mkI (a.drop i) l).1, (mkL mkI (a.drop i) l).2) = mkL mkI a k) (fun (x : Nat × Int × List Int) => match x with | (i, l, b) => a.length - i) (0, _, _) rfl (Le.c rfl <| Le.c rfl <| Le.c rfl <| Le.e) ⟨by omega, hk, rfl, rfl, by simp⟩ ?_
 rintro ⟨i, l, b⟩ ⟨hb, hlk, hlen, hdr, hr⟩
 refine CW.seq ?_
 refine CW.seq ?_
 refine CW.region ?_
 refine RW.v rfl (V.mv (d := I (i : Int)) rfl rfl) ?_
 refine RW.v rfl (V.mv (d := .al 0 none 1 b.length (g 0 0) 0) rfl rfl) ?_
 refine RW.v rfl (V.lenT (n := b.length) rfl rfl rfl (.al rfl rfl nofun)) ?_
 refine RW.v rfl (V.cmpInt rfl rfl rfl rfl) ?_
 refine RW.nil ?_
 refine CW.le [(0, .w (sl 1 cI b) (g 0 0)), (1, I l), (5, I (i : Int)), (9, Bo (decide ((i : Int) < (b.length : Int))))] rfl (Le.of rfl) ?_
 refine CW.cond rfl (fun h1 => ?_) (fun h1 => ?_)
 ·skip
  have hii : i < b.length := by have := h1; simp at this; first | exact this | omega | (simp; done) | (simp; omega)
  obtain ⟨ei, hei⟩ : ∃ e, b[i]? = some e := ⟨_, List.getElem?_eq_getElem hii⟩
  have hdi := drop_get hei
  refine CW.skip ?_
  refine CW.le [(0, .w (sl 1 cI b) (g 0 0)), (1, I l), (5, I (i : Int))] rfl (Le.of rfl) ?_
  refine CW.seq ?_
  refine CW.block ?_
  refine CW.seq ?_
  refine CW.region ?_
  refine RW.v rfl (V.mv (d := .al 0 none 1 b.length (g 0 0) 0) rfl rfl) ?_
  refine RW.v rfl (V.mv (d := I (i : Int)) rfl rfl) ?_
  refine RW.v rfl (V.mv (d := I l) rfl rfl) ?_
  refine RW.v rfl (V.indexW rfl rfl rfl rfl rfl rfl rfl (by first | omega | (simp; omega))) ?_
  refine RW.storeS1 (v := l) (c := cI) (u := .v (.int .i64 l)) rfl rfl rfl rfl rfl rfl rfl (.inl rfl) rfl cI.len (by first | omega | (simp; omega)) rfl ?_
  refine RW.nil ?_
  refine CW.le [(0, .w (sl 1 cI (b.set i l)) (g 0 0)), (1, I l), (5, I (i : Int))] rfl (Le.of rfl) ?_
  refine CW.region ?_
  refine RW.v rfl (V.mv (d := I l) rfl rfl) ?_
  refine RW.v rfl (V.arInt rfl rfl rfl rfl) ?_
  refine RW.v rfl (V.as (d := I (IntKind.i64.wrap (l + 1))) rfl rfl) ?_
  refine RW.nil ?_
  refine CW.le [(0, .w (sl 1 cI (b.set i l)) (g 0 0)), (1, I (IntKind.i64.wrap (l + 1))), (5, I (i : Int))] rfl (Le.of rfl) ?_
  refine CW.region ?_
  refine RW.v rfl (V.mv (d := I (i : Int)) rfl rfl) ?_
  refine RW.v rfl (V.inc rfl rfl rfl hii (by omega)) ?_
  refine RW.v rfl (V.as (d := I ((i + 1 : Nat) : Int)) rfl rfl) ?_
  refine RW.nil ?_
  exact ⟨(i + 1, (IntKind.i64.wrap (l + 1)), (b.set i l)), by simp only []; omega, mk_step mkI (l) ((IntKind.i64.wrap (l + 1))) hei hlen hdr hr (by first | rfl | simp only [List.set_set]) rfl (by first | exact wrap_le _ | (apply mkL_le; assumption)), rfl, Le.c rfl <| Le.c rfl <| Le.c rfl <| Le.e⟩
 ·skip
  have hii : b.length ≤ i := by have := h1; simp at this; first | exact this | omega | (simp; done) | (simp; omega)
  have hdi : b.drop i = [] := List.drop_eq_nil_of_le hii
  refine CW.exit ?_
  refine CW.le [(0, .w (sl 1 cI b) (g 0 0)), (1, I l)] rfl (Le.of rfl) ?_
  refine CW.seq ?_
  refine CW.region ?_
  refine RW.v rfl (V.mv (d := I l) rfl rfl) ?_
  refine RW.v rfl (V.as (d := I l) rfl rfl) ?_
  refine RW.nil ?_
  refine CW.le [(0, .w (sl 1 cI b) (g 0 0)), (4, I l)] rfl (Le.of rfl) ?_
  refine CW.ret ?_
  exact Post.one (RV.i rfl (by rw [← hr, ← hdr, hdi]; rfl)) (AOs.w (by show _ = D.w _ _; exact congrArg (fun l => D.w (sl _ cI l) _) (by rw [← hr, ← hdr, hdi]; show b = b.take i ++ []; rw [List.append_nil, List.take_of_length_le hii])) (AOs.r AOs.e))
set_option maxHeartbeats 4000000 in
theorem laws_markEntryS_fn (a : List Entry) (k : Int) (hk : k ≤ 9223372036854775807) : Eng.Fn E.P 17 [.one (.w (sl 3 Entry.c a)), .one (.r (.v (.int .i64 k)))] (.one (.one (.w (.v (.int .i64 ((mkL mkEEntry a k).2)))))) [.one (.w (sl 3 Entry.c ((mkL mkEEntry a k).1))), .one (.r (.v (.int .i64 k)))] := by
 refine Eng.Fn.intro (E := E) (rvs := [.tmp 4]) Try.func17 rfl rfl rfl (by simp [outSlots, moved, rvSlot, sl]) ?_
 intro B g bo
 refine CW.bound (x := .tmp 0) (n := a.length) (AsT.al rfl rfl nofun) (fun hl0 => ?_)
 refine CW.le [(0, .w (sl 3 Entry.c a) (g 0 0)), (1, I k)] rfl (Le.of rfl) ?_
 have hl0b : a.length ≤ maxLen := hl0
 refine CW.seq ?_
 refine CW.region ?_
 refine RW.v rfl (V.as (d := I 0) rfl rfl) ?_
 refine RW.nil ?_
 refine CW.le [(0, .w (sl 3 Entry.c a) (g 0 0)), (1, I k)] rfl (Le.of rfl) ?_
 refine CW.seq ?_
 refine CW.seq ?_
 refine CW.region ?_
 refine RW.v rfl (V.as (d := I 0) rfl rfl) ?_
 refine RW.nil ?_
 refine CW.le [(0, .w (sl 3 Entry.c a) (g 0 0)), (1, I k), (5, I 0)] rfl (Le.of rfl) ?_
 refine CW.block ?_
 refine CW.loopI 35 (fun (x : Nat × Int × List Entry) => match x with | (i, l, b) => [(0, .w (sl 3 Entry.c b) (g 0 0)), (1, I l), (5, I (i : Int))]) (fun (x : Nat × Int × List Entry) => match x with | (i, l, b) => i ≤ b.length ∧ l ≤ 9223372036854775807 ∧ b.length = a.length ∧ b.drop i = a.drop i ∧ (b.take i ++ (mkL mkEEntry (a.drop i) l).1, (mkL mkEEntry (a.drop i) l).2) = mkL mkEEntry a k) (fun (x : Nat × Int × List Entry) => match x with | (i, l, b) => a.length - i) (0, _, _) rfl (Le.c rfl <| Le.c rfl <| Le.c rfl <| Le.e) ⟨by omega, hk, rfl, rfl, by simp⟩ ?_
 rintro ⟨i, l, b⟩ ⟨hb, hlk, hlen, hdr, hr⟩
 refine CW.seq ?_
 refine CW.seq ?_
 refine CW.region ?_
 refine RW.v rfl (V.mv (d := I (i : Int)) rfl rfl) ?_
 refine RW.v rfl (V.mv (d := .al 0 none 3 b.length (g 0 0) 0) rfl rfl) ?_
 refine RW.v rfl (V.lenT (n := b.length) rfl rfl rfl (.al rfl rfl nofun)) ?_
 refine RW.v rfl (V.cmpInt rfl rfl rfl rfl) ?_
 refine RW.nil ?_
 refine CW.le [(0, .w (sl 3 Entry.c b) (g 0 0)), (1, I l), (5, I (i : Int)), (9, Bo (decide ((i : Int) < (b.length : Int))))] rfl (Le.of rfl) ?_
 refine CW.cond rfl (fun h1 => ?_) (fun h1 => ?_)
 ·skip
  have hii : i < b.length := by have := h1; simp at this; first | exact this | omega | (simp; done) | (simp; omega)
  obtain ⟨ei, hei⟩ : ∃ e, b[i]? = some e := ⟨_, List.getElem?_eq_getElem hii⟩
  have hdi := drop_get hei
  refine CW.skip ?_
  refine CW.le [(0, .w (sl 3 Entry.c b) (g 0 0)), (1, I l), (5, I (i : Int))] rfl (Le.of rfl) ?_
  refine CW.seq ?_
  refine CW.block ?_
  refine CW.seq ?_
  refine CW.region ?_
  refine RW.v rfl (V.mv (d := .al 0 none 3 b.length (g 0 0) 0) rfl rfl) ?_
  refine RW.v rfl (V.mv (d := I (i : Int)) rfl rfl) ?_
  refine RW.v rfl (V.mv (d := I l) rfl rfl) ?_
  refine RW.v rfl (V.indexW rfl rfl rfl rfl rfl rfl rfl (by first | omega | (simp; omega))) ?_
  refine RW.v rfl (V.fieldE rfl rfl rfl rfl (by decide) rfl) ?_
  refine RW.storeF (m := i) (off := 0) (v := ei) (v' := (⟨l, ei.kind, ei.data⟩ : Entry)) (u := .v (.int .i64 l)) (c := Entry.c) rfl rfl rfl rfl rfl rfl rfl (.inl rfl) Entry.len hei (by decide) rfl rfl ?_
  refine RW.nil ?_
  refine CW.le [(0, .w (sl 3 Entry.c (b.set i (⟨l, ei.kind, ei.data⟩ : Entry))) (g 0 0)), (1, I l), (5, I (i : Int))] rfl (Le.of rfl) ?_
  refine CW.seq ?_
  refine CW.region ?_
  refine RW.v rfl (V.mv (d := I l) rfl rfl) ?_
  refine RW.v rfl (V.arInt rfl rfl rfl rfl) ?_
  refine RW.v rfl (V.as (d := I (IntKind.i64.wrap (l + 1))) rfl rfl) ?_
  refine RW.nil ?_
  refine CW.le [(0, .w (sl 3 Entry.c (b.set i (⟨l, ei.kind, ei.data⟩ : Entry))) (g 0 0)), (1, I (IntKind.i64.wrap (l + 1))), (5, I (i : Int))] rfl (Le.of rfl) ?_
  refine CW.seq ?_
  refine CW.region ?_
  refine RW.v rfl (V.mv (d := .al 0 none 3 ((b.set i (⟨l, ei.kind, ei.data⟩ : Entry)).length) (g 0 0) 0) rfl rfl) ?_
  refine RW.v rfl (V.mv (d := I (i : Int)) rfl rfl) ?_
  refine RW.v rfl (V.mv (d := I (IntKind.i64.wrap (l + 1))) rfl rfl) ?_
  refine RW.v rfl (V.indexW rfl rfl rfl rfl rfl rfl rfl (by first | omega | (simp; omega))) ?_
  refine RW.v rfl (V.fieldE rfl rfl rfl rfl (by decide) rfl) ?_
  refine RW.storeF (m := i) (off := 1) (v := (⟨l, ei.kind, ei.data⟩ : Entry)) (v' := (⟨l, (IntKind.i64.wrap (l + 1)), ei.data⟩ : Entry)) (u := .v (.int .i64 (IntKind.i64.wrap (l + 1)))) (c := Entry.c) rfl rfl rfl rfl rfl rfl rfl (.inl rfl) Entry.len (List.getElem?_set_self (by first | omega | (simp; omega))) (by decide) rfl rfl ?_
  refine RW.nil ?_
  refine CW.le [(0, .w (sl 3 Entry.c ((b.set i (⟨l, ei.kind, ei.data⟩ : Entry)).set i (⟨l, (IntKind.i64.wrap (l + 1)), ei.data⟩ : Entry))) (g 0 0)), (1, I (IntKind.i64.wrap (l + 1))), (5, I (i : Int))] rfl (Le.of rfl) ?_
  refine CW.seq ?_
  refine CW.region ?_
  refine RW.v rfl (V.mv (d := I (IntKind.i64.wrap (l + 1))) rfl rfl) ?_
  refine RW.v rfl (V.arInt rfl rfl rfl rfl) ?_
  refine RW.v rfl (V.as (d := I (IntKind.i64.wrap ((IntKind.i64.wrap (l + 1)) + 1))) rfl rfl) ?_
  refine RW.nil ?_
  refine CW.le [(0, .w (sl 3 Entry.c ((b.set i (⟨l, ei.kind, ei.data⟩ : Entry)).set i (⟨l, (IntKind.i64.wrap (l + 1)), ei.data⟩ : Entry))) (g 0 0)), (1, I (IntKind.i64.wrap ((IntKind.i64.wrap (l + 1)) + 1))), (5, I (i : Int))] rfl (Le.of rfl) ?_
  refine CW.seq ?_
  refine CW.region ?_
  refine RW.v rfl (V.mv (d := .al 0 none 3 (((b.set i (⟨l, ei.kind, ei.data⟩ : Entry)).set i (⟨l, (IntKind.i64.wrap (l + 1)), ei.data⟩ : Entry)).length) (g 0 0) 0) rfl rfl) ?_
  refine RW.v rfl (V.mv (d := I (i : Int)) rfl rfl) ?_
  refine RW.v rfl (V.mv (d := I (IntKind.i64.wrap ((IntKind.i64.wrap (l + 1)) + 1))) rfl rfl) ?_
  refine RW.call rfl (laws_markText_fn (IntKind.i64.wrap ((IntKind.i64.wrap (l + 1)) + 1)) (by first | exact hlk | exact wrap_le _ | simp only [mkL_le, mkI_le, mkS_le, mkB_le, mkEEntry_le, mkEPeer_le, mkEApplied_le])) rfl (.cons (.one (.r .r)) (.nil)) fun g2 => ?_
  refine RW.v rfl (V.indexW rfl rfl rfl rfl rfl rfl rfl (by first | omega | (simp; omega))) ?_
  refine RW.v rfl (V.fieldE rfl rfl rfl rfl (by decide) rfl) ?_
  refine RW.storeF (m := i) (off := 2) (v := (⟨l, (IntKind.i64.wrap (l + 1)), ei.data⟩ : Entry)) (v' := (⟨l, (IntKind.i64.wrap (l + 1)), (mtext (IntKind.i64.wrap ((IntKind.i64.wrap (l + 1)) + 1)))⟩ : Entry)) (u := .v (.string (mtext (IntKind.i64.wrap ((IntKind.i64.wrap (l + 1)) + 1))))) (c := Entry.c) rfl rfl rfl rfl rfl rfl rfl (.inl rfl) Entry.len (List.getElem?_set_self (by first | omega | (simp; omega))) (by decide) rfl rfl ?_
  refine RW.nil ?_
  refine CW.le [(0, .w (sl 3 Entry.c (((b.set i (⟨l, ei.kind, ei.data⟩ : Entry)).set i (⟨l, (IntKind.i64.wrap (l + 1)), ei.data⟩ : Entry)).set i (⟨l, (IntKind.i64.wrap (l + 1)), (mtext (IntKind.i64.wrap ((IntKind.i64.wrap (l + 1)) + 1)))⟩ : Entry))) (g 0 0)), (1, I (IntKind.i64.wrap ((IntKind.i64.wrap (l + 1)) + 1))), (5, I (i : Int))] rfl (Le.of rfl) ?_
  refine CW.region ?_
  refine RW.v rfl (V.mv (d := I (IntKind.i64.wrap ((IntKind.i64.wrap (l + 1)) + 1))) rfl rfl) ?_
  refine RW.v rfl (V.arInt rfl rfl rfl rfl) ?_
  refine RW.v rfl (V.as (d := I (IntKind.i64.wrap ((IntKind.i64.wrap ((IntKind.i64.wrap (l + 1)) + 1)) + 1))) rfl rfl) ?_
  refine RW.nil ?_
  refine CW.le [(0, .w (sl 3 Entry.c (((b.set i (⟨l, ei.kind, ei.data⟩ : Entry)).set i (⟨l, (IntKind.i64.wrap (l + 1)), ei.data⟩ : Entry)).set i (⟨l, (IntKind.i64.wrap (l + 1)), (mtext (IntKind.i64.wrap ((IntKind.i64.wrap (l + 1)) + 1)))⟩ : Entry))) (g 0 0)), (1, I (IntKind.i64.wrap ((IntKind.i64.wrap ((IntKind.i64.wrap (l + 1)) + 1)) + 1))), (5, I (i : Int))] rfl (Le.of rfl) ?_
  refine CW.region ?_
  refine RW.v rfl (V.mv (d := I (i : Int)) rfl rfl) ?_
  refine RW.v rfl (V.inc rfl rfl rfl hii (by omega)) ?_
  refine RW.v rfl (V.as (d := I ((i + 1 : Nat) : Int)) rfl rfl) ?_
  refine RW.nil ?_
  exact ⟨(i + 1, (IntKind.i64.wrap ((IntKind.i64.wrap ((IntKind.i64.wrap (l + 1)) + 1)) + 1)), (((b.set i (⟨l, ei.kind, ei.data⟩ : Entry)).set i (⟨l, (IntKind.i64.wrap (l + 1)), ei.data⟩ : Entry)).set i (⟨l, (IntKind.i64.wrap (l + 1)), (mtext (IntKind.i64.wrap ((IntKind.i64.wrap (l + 1)) + 1)))⟩ : Entry))), by simp only []; omega, mk_step mkEEntry ((⟨l, (IntKind.i64.wrap (l + 1)), (mtext (IntKind.i64.wrap ((IntKind.i64.wrap (l + 1)) + 1)))⟩ : Entry)) ((IntKind.i64.wrap ((IntKind.i64.wrap ((IntKind.i64.wrap (l + 1)) + 1)) + 1))) hei hlen hdr hr (by first | rfl | simp only [List.set_set]) rfl (by first | exact wrap_le _ | (apply mkL_le; assumption)), rfl, Le.c rfl <| Le.c rfl <| Le.c rfl <| Le.e⟩
 ·skip
  have hii : b.length ≤ i := by have := h1; simp at this; first | exact this | omega | (simp; done) | (simp; omega)
  have hdi : b.drop i = [] := List.drop_eq_nil_of_le hii
  refine CW.exit ?_
  refine CW.le [(0, .w (sl 3 Entry.c b) (g 0 0)), (1, I l)] rfl (Le.of rfl) ?_
  refine CW.seq ?_
  refine CW.region ?_
  refine RW.v rfl (V.mv (d := I l) rfl rfl) ?_
  refine RW.v rfl (V.as (d := I l) rfl rfl) ?_
  refine RW.nil ?_
  refine CW.le [(0, .w (sl 3 Entry.c b) (g 0 0)), (4, I l)] rfl (Le.of rfl) ?_
  refine CW.ret ?_
  exact Post.one (RV.i rfl (by rw [← hr, ← hdr, hdi]; rfl)) (AOs.w (by show _ = D.w _ _; exact congrArg (fun l => D.w (sl _ Entry.c l) _) (by rw [← hr, ← hdr, hdi]; show b = b.take i ++ []; rw [List.append_nil, List.take_of_length_le hii])) (AOs.r AOs.e))
set_option maxHeartbeats 4000000 in
theorem laws_markLog_fn (a : Log) (k : Int) (hk : k ≤ 9223372036854775807) : Eng.Fn E.P 76 [.agg ((Log.c a).map .w), .one (.r (.v (.int .i64 k)))] (.one (.one (.w (.v (.int .i64 ((mkVLog a k).2)))))) [.agg ((Log.c ((mkVLog a k).1)).map .w), .one (.r (.v (.int .i64 k)))] := by
 refine Eng.Fn.intro (E := E) (rvs := [.tmp 4]) Try.func76 rfl rfl rfl (by simp [outSlots, moved, rvSlot, sl]) ?_
 intro B g bo
 refine CW.le [(0, .agg [I a.start, I a.startTerm, .w (sl 3 Entry.c a.entries) (g 0 2)]), (1, I k)] rfl (Le.of rfl) ?_
 refine CW.seq ?_
 refine CW.region ?_
 refine RW.box (ds := [I a.start, I a.startTerm, .al 0 (some 2) 3 a.entries.length (g 0 2) 0]) rfl rfl rfl fun b1 => ?_
 refine RW.v rfl (V.as (d := I 0) rfl rfl) ?_
 refine RW.nil ?_
 refine CW.le [(0, .agg [I a.start, I a.startTerm, .w (sl 3 Entry.c a.entries) (g 0 2)]), (1, I k), (2, .obj b1 [I a.start, I a.startTerm, .al 0 (some 2) 3 a.entries.length (g 0 2) 0])] rfl (Le.of rfl) ?_
 refine CW.seq ?_
 refine CW.region ?_
 refine RW.v rfl (V.field rfl rfl rfl rfl (by decide) rfl) ?_
 refine RW.v rfl (V.loadPrim (d := .al 0 (some 2) 3 a.entries.length (g 0 2) 0) rfl rfl (.inr ⟨_, rfl⟩) rfl rfl rfl) ?_
 refine RW.v rfl (V.mv (d := I k) rfl rfl) ?_
 refine RW.callW (k := 0) (laws_markEntryS_fn a.entries k (by repeat (first | exact hk | apply mkL_le | apply mkI_le | apply mkS_le | apply mkB_le | apply mkEEntry_le | apply mkEPeer_le | apply mkEApplied_le | apply mkVLog_le | apply mkVNode_le))) rfl rfl (Nat.le_of_ble_eq_true rfl) (by decide) (.here (AsW.cellA rfl) (.cons (.one (.r .r)) (.nil))) rfl fun g2 q3 => ?_
 refine RW.v rfl (V.as (d := I ((mkL mkEEntry a.entries k).2)) rfl rfl) ?_
 refine RW.nil ?_
 refine CW.le [(0, .agg [I a.start, I a.startTerm, .w (sl 3 Entry.c ((mkL mkEEntry a.entries k).1)) (g 0 2)]), (1, I ((mkL mkEEntry a.entries k).2))] rfl (Le.of rfl) ?_
 refine CW.seq ?_
 refine CW.region ?_
 refine RW.v rfl (V.mv (d := I ((mkL mkEEntry a.entries k).2)) rfl rfl) ?_
 refine RW.v rfl (V.as (d := I ((mkL mkEEntry a.entries k).2)) rfl rfl) ?_
 refine RW.nil ?_
 refine CW.le [(0, .agg [I a.start, I a.startTerm, .w (sl 3 Entry.c ((mkL mkEEntry a.entries k).1)) (g 0 2)]), (4, I ((mkL mkEEntry a.entries k).2))] rfl (Le.of rfl) ?_
 refine CW.ret ?_
 exact Post.one (RV.i rfl (by rfl)) (AOs.ag rfl (AOc.r rfl (AOc.r rfl (AOc.w rfl AOc.e))) (AOs.r AOs.e))
set_option maxHeartbeats 4000000 in
theorem laws_markPeerS_fn (a : List Peer) (k : Int) (hk : k ≤ 9223372036854775807) : Eng.Fn E.P 77 [.one (.w (sl 4 Peer.c a)), .one (.r (.v (.int .i64 k)))] (.one (.one (.w (.v (.int .i64 ((mkL mkEPeer a k).2)))))) [.one (.w (sl 4 Peer.c ((mkL mkEPeer a k).1))), .one (.r (.v (.int .i64 k)))] := by
 refine Eng.Fn.intro (E := E) (rvs := [.tmp 4]) Try.func77 rfl rfl rfl (by simp [outSlots, moved, rvSlot, sl]) ?_
 intro B g bo
 refine CW.bound (x := .tmp 0) (n := a.length) (AsT.al rfl rfl nofun) (fun hl0 => ?_)
 refine CW.le [(0, .w (sl 4 Peer.c a) (g 0 0)), (1, I k)] rfl (Le.of rfl) ?_
 have hl0b : a.length ≤ maxLen := hl0
 refine CW.seq ?_
 refine CW.region ?_
 refine RW.v rfl (V.as (d := I 0) rfl rfl) ?_
 refine RW.nil ?_
 refine CW.le [(0, .w (sl 4 Peer.c a) (g 0 0)), (1, I k)] rfl (Le.of rfl) ?_
 refine CW.seq ?_
 refine CW.seq ?_
 refine CW.region ?_
 refine RW.v rfl (V.as (d := I 0) rfl rfl) ?_
 refine RW.nil ?_
 refine CW.le [(0, .w (sl 4 Peer.c a) (g 0 0)), (1, I k), (5, I 0)] rfl (Le.of rfl) ?_
 refine CW.block ?_
 refine CW.loopI 41 (fun (x : Nat × Int × List Peer) => match x with | (i, l, b) => [(0, .w (sl 4 Peer.c b) (g 0 0)), (1, I l), (5, I (i : Int))]) (fun (x : Nat × Int × List Peer) => match x with | (i, l, b) => i ≤ b.length ∧ l ≤ 9223372036854775807 ∧ b.length = a.length ∧ b.drop i = a.drop i ∧ (b.take i ++ (mkL mkEPeer (a.drop i) l).1, (mkL mkEPeer (a.drop i) l).2) = mkL mkEPeer a k) (fun (x : Nat × Int × List Peer) => match x with | (i, l, b) => a.length - i) (0, _, _) rfl (Le.c rfl <| Le.c rfl <| Le.c rfl <| Le.e) ⟨by omega, hk, rfl, rfl, by simp⟩ ?_
 rintro ⟨i, l, b⟩ ⟨hb, hlk, hlen, hdr, hr⟩
 refine CW.seq ?_
 refine CW.seq ?_
 refine CW.region ?_
 refine RW.v rfl (V.mv (d := I (i : Int)) rfl rfl) ?_
 refine RW.v rfl (V.mv (d := .al 0 none 4 b.length (g 0 0) 0) rfl rfl) ?_
 refine RW.v rfl (V.lenT (n := b.length) rfl rfl rfl (.al rfl rfl nofun)) ?_
 refine RW.v rfl (V.cmpInt rfl rfl rfl rfl) ?_
 refine RW.nil ?_
 refine CW.le [(0, .w (sl 4 Peer.c b) (g 0 0)), (1, I l), (5, I (i : Int)), (9, Bo (decide ((i : Int) < (b.length : Int))))] rfl (Le.of rfl) ?_
 refine CW.cond rfl (fun h1 => ?_) (fun h1 => ?_)
 ·skip
  have hii : i < b.length := by have := h1; simp at this; first | exact this | omega | (simp; done) | (simp; omega)
  obtain ⟨ei, hei⟩ : ∃ e, b[i]? = some e := ⟨_, List.getElem?_eq_getElem hii⟩
  have hdi := drop_get hei
  refine CW.skip ?_
  refine CW.le [(0, .w (sl 4 Peer.c b) (g 0 0)), (1, I l), (5, I (i : Int))] rfl (Le.of rfl) ?_
  refine CW.seq ?_
  refine CW.block ?_
  refine CW.seq ?_
  refine CW.region ?_
  refine RW.v rfl (V.mv (d := .al 0 none 4 b.length (g 0 0) 0) rfl rfl) ?_
  refine RW.v rfl (V.mv (d := I (i : Int)) rfl rfl) ?_
  refine RW.v rfl (V.mv (d := I l) rfl rfl) ?_
  refine RW.v rfl (V.indexW rfl rfl rfl rfl rfl rfl rfl (by first | omega | (simp; omega))) ?_
  refine RW.v rfl (V.fieldE rfl rfl rfl rfl (by decide) rfl) ?_
  refine RW.storeF (m := i) (off := 0) (v := ei) (v' := (⟨l, ei.next, ei.match_, ei.sent⟩ : Peer)) (u := .v (.int .i64 l)) (c := Peer.c) rfl rfl rfl rfl rfl rfl rfl (.inl rfl) Peer.len hei (by decide) rfl rfl ?_
  refine RW.nil ?_
  refine CW.le [(0, .w (sl 4 Peer.c (b.set i (⟨l, ei.next, ei.match_, ei.sent⟩ : Peer))) (g 0 0)), (1, I l), (5, I (i : Int))] rfl (Le.of rfl) ?_
  refine CW.seq ?_
  refine CW.region ?_
  refine RW.v rfl (V.mv (d := I l) rfl rfl) ?_
  refine RW.v rfl (V.arInt rfl rfl rfl rfl) ?_
  refine RW.v rfl (V.as (d := I (IntKind.i64.wrap (l + 1))) rfl rfl) ?_
  refine RW.nil ?_
  refine CW.le [(0, .w (sl 4 Peer.c (b.set i (⟨l, ei.next, ei.match_, ei.sent⟩ : Peer))) (g 0 0)), (1, I (IntKind.i64.wrap (l + 1))), (5, I (i : Int))] rfl (Le.of rfl) ?_
  refine CW.seq ?_
  refine CW.region ?_
  refine RW.v rfl (V.mv (d := .al 0 none 4 ((b.set i (⟨l, ei.next, ei.match_, ei.sent⟩ : Peer)).length) (g 0 0) 0) rfl rfl) ?_
  refine RW.v rfl (V.mv (d := I (i : Int)) rfl rfl) ?_
  refine RW.v rfl (V.mv (d := I (IntKind.i64.wrap (l + 1))) rfl rfl) ?_
  refine RW.v rfl (V.indexW rfl rfl rfl rfl rfl rfl rfl (by first | omega | (simp; omega))) ?_
  refine RW.v rfl (V.fieldE rfl rfl rfl rfl (by decide) rfl) ?_
  refine RW.storeF (m := i) (off := 1) (v := (⟨l, ei.next, ei.match_, ei.sent⟩ : Peer)) (v' := (⟨l, (IntKind.i64.wrap (l + 1)), ei.match_, ei.sent⟩ : Peer)) (u := .v (.int .i64 (IntKind.i64.wrap (l + 1)))) (c := Peer.c) rfl rfl rfl rfl rfl rfl rfl (.inl rfl) Peer.len (List.getElem?_set_self (by first | omega | (simp; omega))) (by decide) rfl rfl ?_
  refine RW.nil ?_
  refine CW.le [(0, .w (sl 4 Peer.c ((b.set i (⟨l, ei.next, ei.match_, ei.sent⟩ : Peer)).set i (⟨l, (IntKind.i64.wrap (l + 1)), ei.match_, ei.sent⟩ : Peer))) (g 0 0)), (1, I (IntKind.i64.wrap (l + 1))), (5, I (i : Int))] rfl (Le.of rfl) ?_
  refine CW.seq ?_
  refine CW.region ?_
  refine RW.v rfl (V.mv (d := I (IntKind.i64.wrap (l + 1))) rfl rfl) ?_
  refine RW.v rfl (V.arInt rfl rfl rfl rfl) ?_
  refine RW.v rfl (V.as (d := I (IntKind.i64.wrap ((IntKind.i64.wrap (l + 1)) + 1))) rfl rfl) ?_
  refine RW.nil ?_
  refine CW.le [(0, .w (sl 4 Peer.c ((b.set i (⟨l, ei.next, ei.match_, ei.sent⟩ : Peer)).set i (⟨l, (IntKind.i64.wrap (l + 1)), ei.match_, ei.sent⟩ : Peer))) (g 0 0)), (1, I (IntKind.i64.wrap ((IntKind.i64.wrap (l + 1)) + 1))), (5, I (i : Int))] rfl (Le.of rfl) ?_
  refine CW.seq ?_
  refine CW.region ?_
  refine RW.v rfl (V.mv (d := .al 0 none 4 (((b.set i (⟨l, ei.next, ei.match_, ei.sent⟩ : Peer)).set i (⟨l, (IntKind.i64.wrap (l + 1)), ei.match_, ei.sent⟩ : Peer)).length) (g 0 0) 0) rfl rfl) ?_
  refine RW.v rfl (V.mv (d := I (i : Int)) rfl rfl) ?_
  refine RW.v rfl (V.mv (d := I (IntKind.i64.wrap ((IntKind.i64.wrap (l + 1)) + 1))) rfl rfl) ?_
  refine RW.v rfl (V.indexW rfl rfl rfl rfl rfl rfl rfl (by first | omega | (simp; omega))) ?_
  refine RW.v rfl (V.fieldE rfl rfl rfl rfl (by decide) rfl) ?_
  refine RW.storeF (m := i) (off := 2) (v := (⟨l, (IntKind.i64.wrap (l + 1)), ei.match_, ei.sent⟩ : Peer)) (v' := (⟨l, (IntKind.i64.wrap (l + 1)), (IntKind.i64.wrap ((IntKind.i64.wrap (l + 1)) + 1)), ei.sent⟩ : Peer)) (u := .v (.int .i64 (IntKind.i64.wrap ((IntKind.i64.wrap (l + 1)) + 1)))) (c := Peer.c) rfl rfl rfl rfl rfl rfl rfl (.inl rfl) Peer.len (List.getElem?_set_self (by first | omega | (simp; omega))) (by decide) rfl rfl ?_
  refine RW.nil ?_
  refine CW.le [(0, .w (sl 4 Peer.c (((b.set i (⟨l, ei.next, ei.match_, ei.sent⟩ : Peer)).set i (⟨l, (IntKind.i64.wrap (l + 1)), ei.match_, ei.sent⟩ : Peer)).set i (⟨l, (IntKind.i64.wrap (l + 1)), (IntKind.i64.wrap ((IntKind.i64.wrap (l + 1)) + 1)), ei.sent⟩ : Peer))) (g 0 0)), (1, I (IntKind.i64.wrap ((IntKind.i64.wrap (l + 1)) + 1))), (5, I (i : Int))] rfl (Le.of rfl) ?_
  refine CW.seq ?_
  refine CW.region ?_
  refine RW.v rfl (V.mv (d := I (IntKind.i64.wrap ((IntKind.i64.wrap (l + 1)) + 1))) rfl rfl) ?_
  refine RW.v rfl (V.arInt rfl rfl rfl rfl) ?_
  refine RW.v rfl (V.as (d := I (IntKind.i64.wrap ((IntKind.i64.wrap ((IntKind.i64.wrap (l + 1)) + 1)) + 1))) rfl rfl) ?_
  refine RW.nil ?_
  refine CW.le [(0, .w (sl 4 Peer.c (((b.set i (⟨l, ei.next, ei.match_, ei.sent⟩ : Peer)).set i (⟨l, (IntKind.i64.wrap (l + 1)), ei.match_, ei.sent⟩ : Peer)).set i (⟨l, (IntKind.i64.wrap (l + 1)), (IntKind.i64.wrap ((IntKind.i64.wrap (l + 1)) + 1)), ei.sent⟩ : Peer))) (g 0 0)), (1, I (IntKind.i64.wrap ((IntKind.i64.wrap ((IntKind.i64.wrap (l + 1)) + 1)) + 1))), (5, I (i : Int))] rfl (Le.of rfl) ?_
  refine CW.seq ?_
  refine CW.region ?_
  refine RW.v rfl (V.mv (d := .al 0 none 4 ((((b.set i (⟨l, ei.next, ei.match_, ei.sent⟩ : Peer)).set i (⟨l, (IntKind.i64.wrap (l + 1)), ei.match_, ei.sent⟩ : Peer)).set i (⟨l, (IntKind.i64.wrap (l + 1)), (IntKind.i64.wrap ((IntKind.i64.wrap (l + 1)) + 1)), ei.sent⟩ : Peer)).length) (g 0 0) 0) rfl rfl) ?_
  refine RW.v rfl (V.mv (d := I (i : Int)) rfl rfl) ?_
  refine RW.v rfl (V.mv (d := I (IntKind.i64.wrap ((IntKind.i64.wrap ((IntKind.i64.wrap (l + 1)) + 1)) + 1))) rfl rfl) ?_
  refine RW.v rfl (V.indexW rfl rfl rfl rfl rfl rfl rfl (by first | omega | (simp; omega))) ?_
  refine RW.v rfl (V.fieldE rfl rfl rfl rfl (by decide) rfl) ?_
  refine RW.storeF (m := i) (off := 3) (v := (⟨l, (IntKind.i64.wrap (l + 1)), (IntKind.i64.wrap ((IntKind.i64.wrap (l + 1)) + 1)), ei.sent⟩ : Peer)) (v' := (⟨l, (IntKind.i64.wrap (l + 1)), (IntKind.i64.wrap ((IntKind.i64.wrap (l + 1)) + 1)), (IntKind.i64.wrap ((IntKind.i64.wrap ((IntKind.i64.wrap (l + 1)) + 1)) + 1))⟩ : Peer)) (u := .v (.int .i64 (IntKind.i64.wrap ((IntKind.i64.wrap ((IntKind.i64.wrap (l + 1)) + 1)) + 1)))) (c := Peer.c) rfl rfl rfl rfl rfl rfl rfl (.inl rfl) Peer.len (List.getElem?_set_self (by first | omega | (simp; omega))) (by decide) rfl rfl ?_
  refine RW.nil ?_
  refine CW.le [(0, .w (sl 4 Peer.c ((((b.set i (⟨l, ei.next, ei.match_, ei.sent⟩ : Peer)).set i (⟨l, (IntKind.i64.wrap (l + 1)), ei.match_, ei.sent⟩ : Peer)).set i (⟨l, (IntKind.i64.wrap (l + 1)), (IntKind.i64.wrap ((IntKind.i64.wrap (l + 1)) + 1)), ei.sent⟩ : Peer)).set i (⟨l, (IntKind.i64.wrap (l + 1)), (IntKind.i64.wrap ((IntKind.i64.wrap (l + 1)) + 1)), (IntKind.i64.wrap ((IntKind.i64.wrap ((IntKind.i64.wrap (l + 1)) + 1)) + 1))⟩ : Peer))) (g 0 0)), (1, I (IntKind.i64.wrap ((IntKind.i64.wrap ((IntKind.i64.wrap (l + 1)) + 1)) + 1))), (5, I (i : Int))] rfl (Le.of rfl) ?_
  refine CW.region ?_
  refine RW.v rfl (V.mv (d := I (IntKind.i64.wrap ((IntKind.i64.wrap ((IntKind.i64.wrap (l + 1)) + 1)) + 1))) rfl rfl) ?_
  refine RW.v rfl (V.arInt rfl rfl rfl rfl) ?_
  refine RW.v rfl (V.as (d := I (IntKind.i64.wrap ((IntKind.i64.wrap ((IntKind.i64.wrap ((IntKind.i64.wrap (l + 1)) + 1)) + 1)) + 1))) rfl rfl) ?_
  refine RW.nil ?_
  refine CW.le [(0, .w (sl 4 Peer.c ((((b.set i (⟨l, ei.next, ei.match_, ei.sent⟩ : Peer)).set i (⟨l, (IntKind.i64.wrap (l + 1)), ei.match_, ei.sent⟩ : Peer)).set i (⟨l, (IntKind.i64.wrap (l + 1)), (IntKind.i64.wrap ((IntKind.i64.wrap (l + 1)) + 1)), ei.sent⟩ : Peer)).set i (⟨l, (IntKind.i64.wrap (l + 1)), (IntKind.i64.wrap ((IntKind.i64.wrap (l + 1)) + 1)), (IntKind.i64.wrap ((IntKind.i64.wrap ((IntKind.i64.wrap (l + 1)) + 1)) + 1))⟩ : Peer))) (g 0 0)), (1, I (IntKind.i64.wrap ((IntKind.i64.wrap ((IntKind.i64.wrap ((IntKind.i64.wrap (l + 1)) + 1)) + 1)) + 1))), (5, I (i : Int))] rfl (Le.of rfl) ?_
  refine CW.region ?_
  refine RW.v rfl (V.mv (d := I (i : Int)) rfl rfl) ?_
  refine RW.v rfl (V.inc rfl rfl rfl hii (by omega)) ?_
  refine RW.v rfl (V.as (d := I ((i + 1 : Nat) : Int)) rfl rfl) ?_
  refine RW.nil ?_
  exact ⟨(i + 1, (IntKind.i64.wrap ((IntKind.i64.wrap ((IntKind.i64.wrap ((IntKind.i64.wrap (l + 1)) + 1)) + 1)) + 1)), ((((b.set i (⟨l, ei.next, ei.match_, ei.sent⟩ : Peer)).set i (⟨l, (IntKind.i64.wrap (l + 1)), ei.match_, ei.sent⟩ : Peer)).set i (⟨l, (IntKind.i64.wrap (l + 1)), (IntKind.i64.wrap ((IntKind.i64.wrap (l + 1)) + 1)), ei.sent⟩ : Peer)).set i (⟨l, (IntKind.i64.wrap (l + 1)), (IntKind.i64.wrap ((IntKind.i64.wrap (l + 1)) + 1)), (IntKind.i64.wrap ((IntKind.i64.wrap ((IntKind.i64.wrap (l + 1)) + 1)) + 1))⟩ : Peer))), by simp only []; omega, mk_step mkEPeer ((⟨l, (IntKind.i64.wrap (l + 1)), (IntKind.i64.wrap ((IntKind.i64.wrap (l + 1)) + 1)), (IntKind.i64.wrap ((IntKind.i64.wrap ((IntKind.i64.wrap (l + 1)) + 1)) + 1))⟩ : Peer)) ((IntKind.i64.wrap ((IntKind.i64.wrap ((IntKind.i64.wrap ((IntKind.i64.wrap (l + 1)) + 1)) + 1)) + 1))) hei hlen hdr hr (by first | rfl | simp only [List.set_set]) rfl (by first | exact wrap_le _ | (apply mkL_le; assumption)), rfl, Le.c rfl <| Le.c rfl <| Le.c rfl <| Le.e⟩
 ·skip
  have hii : b.length ≤ i := by have := h1; simp at this; first | exact this | omega | (simp; done) | (simp; omega)
  have hdi : b.drop i = [] := List.drop_eq_nil_of_le hii
  refine CW.exit ?_
  refine CW.le [(0, .w (sl 4 Peer.c b) (g 0 0)), (1, I l)] rfl (Le.of rfl) ?_
  refine CW.seq ?_
  refine CW.region ?_
  refine RW.v rfl (V.mv (d := I l) rfl rfl) ?_
  refine RW.v rfl (V.as (d := I l) rfl rfl) ?_
  refine RW.nil ?_
  refine CW.le [(0, .w (sl 4 Peer.c b) (g 0 0)), (4, I l)] rfl (Le.of rfl) ?_
  refine CW.ret ?_
  exact Post.one (RV.i rfl (by rw [← hr, ← hdr, hdi]; rfl)) (AOs.w (by show _ = D.w _ _; exact congrArg (fun l => D.w (sl _ Peer.c l) _) (by rw [← hr, ← hdr, hdi]; show b = b.take i ++ []; rw [List.append_nil, List.take_of_length_le hii])) (AOs.r AOs.e))
set_option maxHeartbeats 4000000 in
theorem laws_markNode_fn (a : Node) (k : Int) (hk : k ≤ 9223372036854775807) : Eng.Fn E.P 29 [.agg ((Node.c a).map .w), .one (.r (.v (.int .i64 k)))] (.one (.one (.w (.v (.int .i64 ((mkVNode a k).2)))))) [.agg ((Node.c ((mkVNode a k).1)).map .w), .one (.r (.v (.int .i64 k)))] := by
 refine Eng.Fn.intro (E := E) (rvs := [.tmp 4]) Try.func29 rfl rfl rfl (by simp [outSlots, moved, rvSlot, sl]) ?_
 intro B g bo
 refine CW.le [(0, .agg [I a.id, I a.term_, I a.vote, I a.role, I a.lead, .w (sl 1 cI a.conf) (g 0 5), I a.log.start, I a.log.startTerm, .w (sl 3 Entry.c a.log.entries) (g 0 8), I a.commit, I a.clock, I a.limit, .w (sl 1 cI a.votes) (g 0 12), .w (sl 4 Peer.c a.peers) (g 0 13)]), (1, I k)] rfl (Le.of rfl) ?_
 refine CW.seq ?_
 refine CW.region ?_
 refine RW.box (ds := [I a.id, I a.term_, I a.vote, I a.role, I a.lead, .al 0 (some 5) 1 a.conf.length (g 0 5) 0, I a.log.start, I a.log.startTerm, .al 0 (some 8) 3 a.log.entries.length (g 0 8) 0, I a.commit, I a.clock, I a.limit, .al 0 (some 12) 1 a.votes.length (g 0 12) 0, .al 0 (some 13) 4 a.peers.length (g 0 13) 0]) rfl rfl rfl fun b1 => ?_
 refine RW.v rfl (V.as (d := I 0) rfl rfl) ?_
 refine RW.nil ?_
 refine CW.le [(0, .agg [I a.id, I a.term_, I a.vote, I a.role, I a.lead, .w (sl 1 cI a.conf) (g 0 5), I a.log.start, I a.log.startTerm, .w (sl 3 Entry.c a.log.entries) (g 0 8), I a.commit, I a.clock, I a.limit, .w (sl 1 cI a.votes) (g 0 12), .w (sl 4 Peer.c a.peers) (g 0 13)]), (1, I k), (2, .obj b1 [I a.id, I a.term_, I a.vote, I a.role, I a.lead, .al 0 (some 5) 1 a.conf.length (g 0 5) 0, I a.log.start, I a.log.startTerm, .al 0 (some 8) 3 a.log.entries.length (g 0 8) 0, I a.commit, I a.clock, I a.limit, .al 0 (some 12) 1 a.votes.length (g 0 12) 0, .al 0 (some 13) 4 a.peers.length (g 0 13) 0])] rfl (Le.of rfl) ?_
 refine CW.seq ?_
 refine CW.region ?_
 refine RW.v rfl (V.field rfl rfl rfl rfl (by decide) rfl) ?_
 refine RW.v rfl (V.loadPrim (d := .al 0 (some 5) 1 a.conf.length (g 0 5) 0) rfl rfl (.inr ⟨_, rfl⟩) rfl rfl rfl) ?_
 refine RW.v rfl (V.mv (d := I k) rfl rfl) ?_
 refine RW.callW (k := 0) (laws_markIntS_fn a.conf k (by repeat (first | exact hk | apply mkL_le | apply mkI_le | apply mkS_le | apply mkB_le | apply mkEEntry_le | apply mkEPeer_le | apply mkEApplied_le | apply mkVLog_le | apply mkVNode_le))) rfl rfl (Nat.le_of_ble_eq_true rfl) (by decide) (.here (AsW.cellA rfl) (.cons (.one (.r .r)) (.nil))) rfl fun g2 q3 => ?_
 refine RW.v rfl (V.as (d := I ((mkL mkI a.conf k).2)) rfl rfl) ?_
 refine RW.nil ?_
 refine CW.le [(0, .agg [I a.id, I a.term_, I a.vote, I a.role, I a.lead, .w (sl 1 cI ((mkL mkI a.conf k).1)) (g 0 5), I a.log.start, I a.log.startTerm, .w (sl 3 Entry.c a.log.entries) (g 0 8), I a.commit, I a.clock, I a.limit, .w (sl 1 cI a.votes) (g 0 12), .w (sl 4 Peer.c a.peers) (g 0 13)]), (1, I ((mkL mkI a.conf k).2)), (2, .obj b1 [I a.id, I a.term_, I a.vote, I a.role, I a.lead, .al 0 (some 5) 1 a.conf.length (g 0 5) 0, I a.log.start, I a.log.startTerm, .al 0 (some 8) 3 a.log.entries.length (g 0 8) 0, I a.commit, I a.clock, I a.limit, .al 0 (some 12) 1 a.votes.length (g 0 12) 0, .al 0 (some 13) 4 a.peers.length (g 0 13) 0])] rfl (Le.of rfl) ?_
 refine CW.seq ?_
 refine CW.region ?_
 refine RW.v rfl (V.field rfl rfl rfl rfl (by decide) rfl) ?_
 refine RW.v rfl (V.loadAgg rfl rfl rfl rfl rfl (Nat.le_of_ble_eq_true rfl)) ?_
 refine RW.v rfl (V.mv (d := I ((mkL mkI a.conf k).2)) rfl rfl) ?_
 refine RW.callW (k := 0) (laws_markLog_fn a.log ((mkL mkI a.conf k).2) (by repeat (first | exact hk | apply mkL_le | apply mkI_le | apply mkS_le | apply mkB_le | apply mkEEntry_le | apply mkEPeer_le | apply mkEApplied_le | apply mkVLog_le | apply mkVNode_le))) rfl rfl (Nat.le_of_ble_eq_true rfl) (by decide) (.here (AsW.partA rfl (One.there (One.there (One.here (xs := []))))) (.cons (.one (.r .r)) (.nil))) rfl fun g4 q5 => ?_
 refine RW.v rfl (V.as (d := I ((mkVLog a.log ((mkL mkI a.conf k).2)).2)) rfl rfl) ?_
 refine RW.nil ?_
 refine CW.le [(0, .agg [I a.id, I a.term_, I a.vote, I a.role, I a.lead, .w (sl 1 cI ((mkL mkI a.conf k).1)) (g 0 5), I a.log.start, I a.log.startTerm, .w (sl 3 Entry.c (((mkVLog a.log ((mkL mkI a.conf k).2)).1).entries)) (g 0 8), I a.commit, I a.clock, I a.limit, .w (sl 1 cI a.votes) (g 0 12), .w (sl 4 Peer.c a.peers) (g 0 13)]), (1, I ((mkVLog a.log ((mkL mkI a.conf k).2)).2)), (2, .obj b1 [I a.id, I a.term_, I a.vote, I a.role, I a.lead, .al 0 (some 5) 1 a.conf.length (g 0 5) 0, I a.log.start, I a.log.startTerm, .al 0 (some 8) 3 a.log.entries.length (g 0 8) 0, I a.commit, I a.clock, I a.limit, .al 0 (some 12) 1 a.votes.length (g 0 12) 0, .al 0 (some 13) 4 a.peers.length (g 0 13) 0])] rfl (Le.of rfl) ?_
 refine CW.seq ?_
 refine CW.region ?_
 refine RW.v rfl (V.field rfl rfl rfl rfl (by decide) rfl) ?_
 refine RW.v rfl (V.loadPrim (d := .al 0 (some 12) 1 a.votes.length (g 0 12) 0) rfl rfl (.inr ⟨_, rfl⟩) rfl rfl rfl) ?_
 refine RW.v rfl (V.mv (d := I ((mkVLog a.log ((mkL mkI a.conf k).2)).2)) rfl rfl) ?_
 refine RW.callW (k := 0) (laws_markIntS_fn a.votes ((mkVLog a.log ((mkL mkI a.conf k).2)).2) (by repeat (first | exact hk | apply mkL_le | apply mkI_le | apply mkS_le | apply mkB_le | apply mkEEntry_le | apply mkEPeer_le | apply mkEApplied_le | apply mkVLog_le | apply mkVNode_le))) rfl rfl (Nat.le_of_ble_eq_true rfl) (by decide) (.here (AsW.cellA rfl) (.cons (.one (.r .r)) (.nil))) rfl fun g6 q7 => ?_
 refine RW.v rfl (V.as (d := I ((mkL mkI a.votes ((mkVLog a.log ((mkL mkI a.conf k).2)).2)).2)) rfl rfl) ?_
 refine RW.nil ?_
 refine CW.le [(0, .agg [I a.id, I a.term_, I a.vote, I a.role, I a.lead, .w (sl 1 cI ((mkL mkI a.conf k).1)) (g 0 5), I a.log.start, I a.log.startTerm, .w (sl 3 Entry.c (((mkVLog a.log ((mkL mkI a.conf k).2)).1).entries)) (g 0 8), I a.commit, I a.clock, I a.limit, .w (sl 1 cI ((mkL mkI a.votes ((mkVLog a.log ((mkL mkI a.conf k).2)).2)).1)) (g 0 12), .w (sl 4 Peer.c a.peers) (g 0 13)]), (1, I ((mkL mkI a.votes ((mkVLog a.log ((mkL mkI a.conf k).2)).2)).2)), (2, .obj b1 [I a.id, I a.term_, I a.vote, I a.role, I a.lead, .al 0 (some 5) 1 a.conf.length (g 0 5) 0, I a.log.start, I a.log.startTerm, .al 0 (some 8) 3 a.log.entries.length (g 0 8) 0, I a.commit, I a.clock, I a.limit, .al 0 (some 12) 1 a.votes.length (g 0 12) 0, .al 0 (some 13) 4 a.peers.length (g 0 13) 0])] rfl (Le.of rfl) ?_
 refine CW.seq ?_
 refine CW.region ?_
 refine RW.v rfl (V.field rfl rfl rfl rfl (by decide) rfl) ?_
 refine RW.v rfl (V.loadPrim (d := .al 0 (some 13) 4 a.peers.length (g 0 13) 0) rfl rfl (.inr ⟨_, rfl⟩) rfl rfl rfl) ?_
 refine RW.v rfl (V.mv (d := I ((mkL mkI a.votes ((mkVLog a.log ((mkL mkI a.conf k).2)).2)).2)) rfl rfl) ?_
 refine RW.callW (k := 0) (laws_markPeerS_fn a.peers ((mkL mkI a.votes ((mkVLog a.log ((mkL mkI a.conf k).2)).2)).2) (by repeat (first | exact hk | apply mkL_le | apply mkI_le | apply mkS_le | apply mkB_le | apply mkEEntry_le | apply mkEPeer_le | apply mkEApplied_le | apply mkVLog_le | apply mkVNode_le))) rfl rfl (Nat.le_of_ble_eq_true rfl) (by decide) (.here (AsW.cellA rfl) (.cons (.one (.r .r)) (.nil))) rfl fun g8 q9 => ?_
 refine RW.v rfl (V.as (d := I ((mkL mkEPeer a.peers ((mkL mkI a.votes ((mkVLog a.log ((mkL mkI a.conf k).2)).2)).2)).2)) rfl rfl) ?_
 refine RW.nil ?_
 refine CW.le [(0, .agg [I a.id, I a.term_, I a.vote, I a.role, I a.lead, .w (sl 1 cI ((mkL mkI a.conf k).1)) (g 0 5), I a.log.start, I a.log.startTerm, .w (sl 3 Entry.c (((mkVLog a.log ((mkL mkI a.conf k).2)).1).entries)) (g 0 8), I a.commit, I a.clock, I a.limit, .w (sl 1 cI ((mkL mkI a.votes ((mkVLog a.log ((mkL mkI a.conf k).2)).2)).1)) (g 0 12), .w (sl 4 Peer.c ((mkL mkEPeer a.peers ((mkL mkI a.votes ((mkVLog a.log ((mkL mkI a.conf k).2)).2)).2)).1)) (g 0 13)]), (1, I ((mkL mkEPeer a.peers ((mkL mkI a.votes ((mkVLog a.log ((mkL mkI a.conf k).2)).2)).2)).2))] rfl (Le.of rfl) ?_
 refine CW.seq ?_
 refine CW.region ?_
 refine RW.v rfl (V.mv (d := I ((mkL mkEPeer a.peers ((mkL mkI a.votes ((mkVLog a.log ((mkL mkI a.conf k).2)).2)).2)).2)) rfl rfl) ?_
 refine RW.v rfl (V.as (d := I ((mkL mkEPeer a.peers ((mkL mkI a.votes ((mkVLog a.log ((mkL mkI a.conf k).2)).2)).2)).2)) rfl rfl) ?_
 refine RW.nil ?_
 refine CW.le [(0, .agg [I a.id, I a.term_, I a.vote, I a.role, I a.lead, .w (sl 1 cI ((mkL mkI a.conf k).1)) (g 0 5), I a.log.start, I a.log.startTerm, .w (sl 3 Entry.c (((mkVLog a.log ((mkL mkI a.conf k).2)).1).entries)) (g 0 8), I a.commit, I a.clock, I a.limit, .w (sl 1 cI ((mkL mkI a.votes ((mkVLog a.log ((mkL mkI a.conf k).2)).2)).1)) (g 0 12), .w (sl 4 Peer.c ((mkL mkEPeer a.peers ((mkL mkI a.votes ((mkVLog a.log ((mkL mkI a.conf k).2)).2)).2)).1)) (g 0 13)]), (4, I ((mkL mkEPeer a.peers ((mkL mkI a.votes ((mkVLog a.log ((mkL mkI a.conf k).2)).2)).2)).2))] rfl (Le.of rfl) ?_
 refine CW.ret ?_
 exact Post.one (RV.i rfl (by rfl)) (AOs.ag rfl (AOc.r rfl (AOc.r rfl (AOc.r rfl (AOc.r rfl (AOc.r rfl (AOc.w rfl (AOc.r rfl (AOc.r rfl (AOc.w rfl (AOc.r rfl (AOc.r rfl (AOc.r rfl (AOc.w rfl (AOc.w rfl AOc.e)))))))))))))) (AOs.r AOs.e))
set_option maxHeartbeats 4000000 in
theorem laws_heldIntS_fn (a : List Int) (k : Int) (hk : k ≤ 9223372036854775807) : Eng.Fn E.P 78 [.one (.r (sl 1 cI a)), .one (.r (.v (.int .i64 k)))] (.one (.one (.w (.v (.int .i64 ((hdL hdI a k).getD (-1))))))) [.one (.r (sl 1 cI a)), .one (.r (.v (.int .i64 k)))] := by
 refine Eng.Fn.intro (E := E) (rvs := [.tmp 4]) Try.func78 rfl rfl rfl (by simp [outSlots, moved, rvSlot, sl]) ?_
 intro B g bo
 refine CW.bound (x := .tmp 0) (n := a.length) (AsT.r) (fun hl0 => ?_)
 refine CW.le [(0, .r (sl 1 cI a)), (1, I k)] rfl (Le.of rfl) ?_
 refine CW.seq ?_
 refine CW.region ?_
 refine RW.v rfl (V.as (d := I 0) rfl rfl) ?_
 refine RW.nil ?_
 refine CW.le [(0, .r (sl 1 cI a)), (1, I k)] rfl (Le.of rfl) ?_
 refine CW.seq ?_
 refine CW.seq ?_
 refine CW.region ?_
 refine RW.v rfl (V.as (d := I 0) rfl rfl) ?_
 refine RW.nil ?_
 refine CW.le [(0, .r (sl 1 cI a)), (1, I k), (5, I 0)] rfl (Le.of rfl) ?_
 refine CW.block ?_
 refine CW.loopI 21 (fun (x : Nat × Int) => match x with | (i, l) => [(0, .r (sl 1 cI a)), (1, I l), (5, I (i : Int))]) (fun (x : Nat × Int) => match x with | (i, l) => i ≤ a.length ∧ l ≤ 9223372036854775807 ∧ hdL hdI (a.drop i) l = hdL hdI a k) (fun (x : Nat × Int) => match x with | (i, l) => a.length - i) (0, _) rfl (Le.c rfl <| Le.c rfl <| Le.c rfl <| Le.e) ⟨by omega, hk, by simp⟩ ?_
 rintro ⟨i, l⟩ ⟨hb, hlk, hr⟩
 refine CW.seq ?_
 refine CW.seq ?_
 refine CW.region ?_
 refine RW.v rfl (V.mv (d := I (i : Int)) rfl rfl) ?_
 refine RW.v rfl (V.mv (d := .r (sl 1 cI a)) rfl rfl) ?_
 refine RW.v rfl (V.lenT (n := a.length) rfl rfl rfl .r) ?_
 refine RW.v rfl (V.cmpInt rfl rfl rfl rfl) ?_
 refine RW.nil ?_
 refine CW.le [(0, .r (sl 1 cI a)), (1, I l), (5, I (i : Int)), (9, Bo (decide ((i : Int) < (a.length : Int))))] rfl (Le.of rfl) ?_
 refine CW.cond rfl (fun h1 => ?_) (fun h1 => ?_)
 ·skip
  have hii : i < a.length := by have := h1; simp at this; first | exact this | omega | (simp; done) | (simp; omega)
  obtain ⟨ei, hei⟩ : ∃ e, a[i]? = some e := ⟨_, List.getElem?_eq_getElem hii⟩
  have hdi := drop_get hei
  refine CW.skip ?_
  refine CW.le [(0, .r (sl 1 cI a)), (1, I l), (5, I (i : Int))] rfl (Le.of rfl) ?_
  refine CW.seq ?_
  refine CW.block ?_
  refine CW.seq ?_
  refine CW.seq ?_
  refine CW.region ?_
  refine RW.v rfl (V.mv (d := .r (sl 1 cI a)) rfl rfl) ?_
  refine RW.v rfl (V.mv (d := I (i : Int)) rfl rfl) ?_
  refine RW.v rfl (V.indexS rfl rfl rfl rfl rfl rfl cI.len hei) ?_
  refine RW.v rfl (V.loadPrimR (t0 := .v (.int .i64 ei)) rfl rfl (.inl rfl) rfl rfl) ?_
  refine RW.v rfl (V.mv (d := I l) rfl rfl) ?_
  refine RW.v rfl (V.cmpInt rfl rfl rfl rfl) ?_
  refine RW.nil ?_
  refine CW.le [(0, .r (sl 1 cI a)), (1, I l), (5, I (i : Int)), (17, Bo (ei != l))] rfl (Le.of rfl) ?_
  refine CW.cond rfl (fun h2 => ?_) (fun h2 => ?_)
  ·skip
   refine CW.seq ?_
   refine CW.region ?_
   refine RW.v rfl (V.as (d := I (-1)) rfl rfl) ?_
   refine RW.nil ?_
   refine CW.le [(4, I (-1))] rfl (Le.of rfl) ?_
   refine CW.ret ?_
   exact Post.one (RV.i rfl (by rw [← hr, hdi]; clear hr; first | rfl | (simp_all [hdL, hdI, inc]; done) | grind [hdL, hdI, inc])) (AOs.r (AOs.r AOs.e))
  ·skip
   refine CW.skip ?_
   refine CW.le [(0, .r (sl 1 cI a)), (1, I l), (5, I (i : Int))] rfl (Le.of rfl) ?_
   refine CW.region ?_
   refine RW.v rfl (V.mv (d := I l) rfl rfl) ?_
   refine RW.v rfl (V.arInt rfl rfl rfl rfl) ?_
   refine RW.v rfl (V.as (d := I (IntKind.i64.wrap (l + 1))) rfl rfl) ?_
   refine RW.nil ?_
   refine CW.le [(0, .r (sl 1 cI a)), (1, I (IntKind.i64.wrap (l + 1))), (5, I (i : Int))] rfl (Le.of rfl) ?_
   refine CW.region ?_
   refine RW.v rfl (V.mv (d := I (i : Int)) rfl rfl) ?_
   refine RW.v rfl (V.inc rfl rfl rfl hii hl0) ?_
   refine RW.v rfl (V.as (d := I ((i + 1 : Nat) : Int)) rfl rfl) ?_
   refine RW.nil ?_
   exact ⟨(i + 1, _), by simp only []; omega, ⟨by omega, by first | exact wrap_le _ | omega, by rw [← hr, hdi]; clear hr; first | rfl | (simp_all [hdL, hdI, inc]; done) | grind [hdL, hdI, inc]⟩, rfl, Le.c rfl <| Le.c rfl <| Le.c rfl <| Le.e⟩
 ·skip
  have hii : a.length ≤ i := by have := h1; simp at this; first | exact this | omega | (simp; done) | (simp; omega)
  have hdi : a.drop i = [] := List.drop_eq_nil_of_le hii
  refine CW.exit ?_
  refine CW.le [(1, I l)] rfl (Le.of rfl) ?_
  refine CW.seq ?_
  refine CW.region ?_
  refine RW.v rfl (V.mv (d := I l) rfl rfl) ?_
  refine RW.v rfl (V.as (d := I l) rfl rfl) ?_
  refine RW.nil ?_
  refine CW.le [(4, I l)] rfl (Le.of rfl) ?_
  refine CW.ret ?_
  exact Post.one (RV.i rfl (by rw [← hr, hdi]; clear hr; first | rfl | (simp_all [hdL, hdI, inc]; done) | grind [hdL, hdI, inc])) (AOs.r (AOs.r AOs.e))
set_option maxHeartbeats 4000000 in
theorem laws_heldEntryS_fn (a : List Entry) (k : Int) (hk : k ≤ 9223372036854775807) : Eng.Fn E.P 18 [.one (.r (sl 3 Entry.c a)), .one (.r (.v (.int .i64 k)))] (.one (.one (.w (.v (.int .i64 ((hdL hdEEntry a k).getD (-1))))))) [.one (.r (sl 3 Entry.c a)), .one (.r (.v (.int .i64 k)))] := by
 refine Eng.Fn.intro (E := E) (rvs := [.tmp 4]) Try.func18 rfl rfl rfl (by simp [outSlots, moved, rvSlot, sl]) ?_
 intro B g bo
 refine CW.bound (x := .tmp 0) (n := a.length) (AsT.r) (fun hl0 => ?_)
 refine CW.le [(0, .r (sl 3 Entry.c a)), (1, I k)] rfl (Le.of rfl) ?_
 refine CW.seq ?_
 refine CW.region ?_
 refine RW.v rfl (V.as (d := I 0) rfl rfl) ?_
 refine RW.nil ?_
 refine CW.le [(0, .r (sl 3 Entry.c a)), (1, I k)] rfl (Le.of rfl) ?_
 refine CW.seq ?_
 refine CW.seq ?_
 refine CW.region ?_
 refine RW.v rfl (V.as (d := I 0) rfl rfl) ?_
 refine RW.nil ?_
 refine CW.le [(0, .r (sl 3 Entry.c a)), (1, I k), (5, I 0)] rfl (Le.of rfl) ?_
 refine CW.block ?_
 refine CW.loopI 41 (fun (x : Nat × Int) => match x with | (i, l) => [(0, .r (sl 3 Entry.c a)), (1, I l), (5, I (i : Int))]) (fun (x : Nat × Int) => match x with | (i, l) => i ≤ a.length ∧ l ≤ 9223372036854775807 ∧ hdL hdEEntry (a.drop i) l = hdL hdEEntry a k) (fun (x : Nat × Int) => match x with | (i, l) => a.length - i) (0, _) rfl (Le.c rfl <| Le.c rfl <| Le.c rfl <| Le.e) ⟨by omega, hk, by simp⟩ ?_
 rintro ⟨i, l⟩ ⟨hb, hlk, hr⟩
 refine CW.seq ?_
 refine CW.seq ?_
 refine CW.region ?_
 refine RW.v rfl (V.mv (d := I (i : Int)) rfl rfl) ?_
 refine RW.v rfl (V.mv (d := .r (sl 3 Entry.c a)) rfl rfl) ?_
 refine RW.v rfl (V.lenT (n := a.length) rfl rfl rfl .r) ?_
 refine RW.v rfl (V.cmpInt rfl rfl rfl rfl) ?_
 refine RW.nil ?_
 refine CW.le [(0, .r (sl 3 Entry.c a)), (1, I l), (5, I (i : Int)), (9, Bo (decide ((i : Int) < (a.length : Int))))] rfl (Le.of rfl) ?_
 refine CW.cond rfl (fun h1 => ?_) (fun h1 => ?_)
 ·skip
  have hii : i < a.length := by have := h1; simp at this; first | exact this | omega | (simp; done) | (simp; omega)
  obtain ⟨ei, hei⟩ : ∃ e, a[i]? = some e := ⟨_, List.getElem?_eq_getElem hii⟩
  have hdi := drop_get hei
  refine CW.skip ?_
  refine CW.le [(0, .r (sl 3 Entry.c a)), (1, I l), (5, I (i : Int))] rfl (Le.of rfl) ?_
  refine CW.seq ?_
  refine CW.block ?_
  refine CW.seq ?_
  refine CW.seq ?_
  refine CW.region ?_
  refine RW.v rfl (V.mv (d := .r (sl 3 Entry.c a)) rfl rfl) ?_
  refine RW.v rfl (V.mv (d := I (i : Int)) rfl rfl) ?_
  refine RW.v rfl (V.indexS rfl rfl rfl rfl rfl rfl Entry.len hei) ?_
  refine RW.v rfl (V.fieldR rfl rfl rfl rfl (by decide) rfl (Nat.le_of_ble_eq_true rfl)) ?_
  refine RW.v rfl (V.loadPrimR (t0 := .v (.int .i64 ei.term_)) rfl rfl (.inl rfl) rfl rfl) ?_
  refine RW.v rfl (V.mv (d := I l) rfl rfl) ?_
  refine RW.v rfl (V.cmpInt rfl rfl rfl rfl) ?_
  refine RW.nil ?_
  refine CW.le [(0, .r (sl 3 Entry.c a)), (1, I l), (5, I (i : Int)), (18, Bo (ei.term_ != l))] rfl (Le.of rfl) ?_
  refine CW.cond rfl (fun h2 => ?_) (fun h2 => ?_)
  ·skip
   refine CW.seq ?_
   refine CW.region ?_
   refine RW.v rfl (V.as (d := I (-1)) rfl rfl) ?_
   refine RW.nil ?_
   refine CW.le [(4, I (-1))] rfl (Le.of rfl) ?_
   refine CW.ret ?_
   exact Post.one (RV.i rfl (by rw [← hr, hdi]; clear hr; first | rfl | (simp_all [hdL, hdEEntry, hdI, hdS, inc]; done) | grind [hdL, hdEEntry, hdI, hdS, inc])) (AOs.r (AOs.r AOs.e))
  ·skip
   refine CW.skip ?_
   refine CW.le [(0, .r (sl 3 Entry.c a)), (1, I l), (5, I (i : Int))] rfl (Le.of rfl) ?_
   refine CW.seq ?_
   refine CW.region ?_
   refine RW.v rfl (V.mv (d := I l) rfl rfl) ?_
   refine RW.v rfl (V.arInt rfl rfl rfl rfl) ?_
   refine RW.v rfl (V.as (d := I (IntKind.i64.wrap (l + 1))) rfl rfl) ?_
   refine RW.nil ?_
   refine CW.le [(0, .r (sl 3 Entry.c a)), (1, I (IntKind.i64.wrap (l + 1))), (5, I (i : Int))] rfl (Le.of rfl) ?_
   refine CW.seq ?_
   refine CW.seq ?_
   refine CW.region ?_
   refine RW.v rfl (V.mv (d := .r (sl 3 Entry.c a)) rfl rfl) ?_
   refine RW.v rfl (V.mv (d := I (i : Int)) rfl rfl) ?_
   refine RW.v rfl (V.indexS rfl rfl rfl rfl rfl rfl Entry.len hei) ?_
   refine RW.v rfl (V.fieldR rfl rfl rfl rfl (by decide) rfl (Nat.le_of_ble_eq_true rfl)) ?_
   refine RW.v rfl (V.loadPrimR (t0 := .v (.int .i64 ei.kind)) rfl rfl (.inl rfl) rfl rfl) ?_
   refine RW.v rfl (V.mv (d := I (IntKind.i64.wrap (l + 1))) rfl rfl) ?_
   refine RW.v rfl (V.cmpInt rfl rfl rfl rfl) ?_
   refine RW.nil ?_
   refine CW.le [(0, .r (sl 3 Entry.c a)), (1, I (IntKind.i64.wrap (l + 1))), (5, I (i : Int)), (27, Bo (ei.kind != (IntKind.i64.wrap (l + 1))))] rfl (Le.of rfl) ?_
   refine CW.cond rfl (fun h3 => ?_) (fun h3 => ?_)
   ·skip
    refine CW.seq ?_
    refine CW.region ?_
    refine RW.v rfl (V.as (d := I (-1)) rfl rfl) ?_
    refine RW.nil ?_
    refine CW.le [(4, I (-1))] rfl (Le.of rfl) ?_
    refine CW.ret ?_
    exact Post.one (RV.i rfl (by rw [← hr, hdi]; clear hr; first | rfl | (simp_all [hdL, hdEEntry, hdI, hdS, inc]; done) | grind [hdL, hdEEntry, hdI, hdS, inc])) (AOs.r (AOs.r AOs.e))
   ·skip
    refine CW.skip ?_
    refine CW.le [(0, .r (sl 3 Entry.c a)), (1, I (IntKind.i64.wrap (l + 1))), (5, I (i : Int))] rfl (Le.of rfl) ?_
    refine CW.seq ?_
    refine CW.region ?_
    refine RW.v rfl (V.mv (d := I (IntKind.i64.wrap (l + 1))) rfl rfl) ?_
    refine RW.v rfl (V.arInt rfl rfl rfl rfl) ?_
    refine RW.v rfl (V.as (d := I (IntKind.i64.wrap ((IntKind.i64.wrap (l + 1)) + 1))) rfl rfl) ?_
    refine RW.nil ?_
    refine CW.le [(0, .r (sl 3 Entry.c a)), (1, I (IntKind.i64.wrap ((IntKind.i64.wrap (l + 1)) + 1))), (5, I (i : Int))] rfl (Le.of rfl) ?_
    refine CW.seq ?_
    refine CW.anyJ 41 (fun (go4_6_1 : (Nat → Nat → Value)) => [(0, .r (sl 3 Entry.c a)), (1, I (IntKind.i64.wrap ((IntKind.i64.wrap (l + 1)) + 1))), (5, I (i : Int)), (37, Bo (!(ei.data.toList == (mtext (IntKind.i64.wrap ((IntKind.i64.wrap (l + 1)) + 1))).toList)))]) (fun all hall K hK => ?_) ?_
    ·skip
     have ro4_11111111 : ∀ (go4_6_1 : Nat → Nat → Value), RA E B all 0 #[true, true, true, true, true, true, true, true] ⟨41, [(0, .r (sl 3 Entry.c a)), (1, I (IntKind.i64.wrap ((IntKind.i64.wrap (l + 1)) + 1))), (5, I (i : Int)), (37, Bo (!(ei.data.toList == (mtext (IntKind.i64.wrap ((IntKind.i64.wrap (l + 1)) + 1))).toList)))]⟩ K := by
      intro go4_6_1
      exact RA.of hall (RA.fin (by kernel_rfl) (hK go4_6_1 _ rfl (Le.of rfl)))
     have ro4_11111110 : ∀ (go4_6_1 : Nat → Nat → Value), RA E B all 1 #[true, true, true, true, true, true, true, false] ⟨41, [(0, .r (sl 3 Entry.c a)), (1, I (IntKind.i64.wrap ((IntKind.i64.wrap (l + 1)) + 1))), (5, I (i : Int)), (34, S ei.data), (36, S (mtext (IntKind.i64.wrap ((IntKind.i64.wrap (l + 1)) + 1))))]⟩ K := by
      intro go4_6_1
      refine RA.of hall (RA.step (L := [7]) (by kernel_rfl) (by simp) (RA.each ?_ (RA.each0)))
      ·skip
       refine RO.v rfl rfl (V.strCmp rfl rfl rfl rfl) rfl ?_
       exact RA.to hall (RA.lr (ro4_11111111 go4_6_1) rfl rfl)
     have ro4_11110110 : ∀ (go4_6_1 : Nat → Nat → Value), RA E B all 2 #[true, true, true, true, false, true, true, false] ⟨41, [(0, .r (sl 3 Entry.c a)), (1, I (IntKind.i64.wrap ((IntKind.i64.wrap (l + 1)) + 1))), (5, I (i : Int)), (33, .rp [.v (.string ei.data)]), (36, S (mtext (IntKind.i64.wrap ((IntKind.i64.wrap (l + 1)) + 1))))]⟩ K := by
      intro go4_6_1
      refine RA.of hall (RA.step (L := [4]) (by kernel_rfl) (by simp) (RA.each ?_ (RA.each0)))
      ·skip
       refine RO.v rfl rfl (V.loadPrimR (t0 := .v (.string ei.data)) rfl rfl (.inl rfl) rfl rfl) rfl ?_
       exact RA.to hall (RA.lr (ro4_11111110 go4_6_1) rfl rfl)
     have ro4_11111100 : RA E B all 2 #[true, true, true, true, true, true, false, false] ⟨41, [(0, .r (sl 3 Entry.c a)), (1, I (IntKind.i64.wrap ((IntKind.i64.wrap (l + 1)) + 1))), (5, I (i : Int)), (34, S ei.data), (35, I (IntKind.i64.wrap ((IntKind.i64.wrap (l + 1)) + 1)))]⟩ K := by
      refine RA.of hall (RA.step (L := [6]) (by kernel_rfl) (by simp) (RA.each ?_ (RA.each0)))
      ·skip
       refine RO.call rfl rfl (laws_markText_fn (IntKind.i64.wrap ((IntKind.i64.wrap (l + 1)) + 1)) (by first | exact hlk | exact wrap_le _)) rfl (.cons (.one (.r .r)) (.nil)) rfl fun go4_6_1 => ?_
       exact RA.to hall (RA.lr (ro4_11111110 go4_6_1) rfl rfl)
     have ro4_11100110 : ∀ (go4_6_1 : Nat → Nat → Value), RA E B all 3 #[true, true, true, false, false, true, true, false] ⟨41, [(0, .r (sl 3 Entry.c a)), (1, I (IntKind.i64.wrap ((IntKind.i64.wrap (l + 1)) + 1))), (5, I (i : Int)), (32, .rp (Entry.c ei)), (36, S (mtext (IntKind.i64.wrap ((IntKind.i64.wrap (l + 1)) + 1))))]⟩ K := by
      intro go4_6_1
      refine RA.of hall (RA.step (L := [3]) (by kernel_rfl) (by simp) (RA.each ?_ (RA.each0)))
      ·skip
       refine RO.v rfl rfl (V.fieldR rfl rfl rfl rfl (by decide) rfl (Nat.le_of_ble_eq_true rfl)) rfl ?_
       exact RA.to hall (RA.lr (ro4_11110110 go4_6_1) rfl rfl)
     have ro4_11110100 : RA E B all 3 #[true, true, true, true, false, true, false, false] ⟨41, [(0, .r (sl 3 Entry.c a)), (1, I (IntKind.i64.wrap ((IntKind.i64.wrap (l + 1)) + 1))), (5, I (i : Int)), (33, .rp [.v (.string ei.data)]), (35, I (IntKind.i64.wrap ((IntKind.i64.wrap (l + 1)) + 1)))]⟩ K := by
      refine RA.of hall (RA.step (L := [4, 6]) (by kernel_rfl) (by simp) (RA.each ?_ (RA.each ?_ (RA.each0))))
      ·skip
       refine RO.v rfl rfl (V.loadPrimR (t0 := .v (.string ei.data)) rfl rfl (.inl rfl) rfl rfl) rfl ?_
       exact RA.to hall (RA.lr ro4_11111100 rfl rfl)
      ·skip
       refine RO.call rfl rfl (laws_markText_fn (IntKind.i64.wrap ((IntKind.i64.wrap (l + 1)) + 1)) (by first | exact hlk | exact wrap_le _)) rfl (.cons (.one (.r .r)) (.nil)) rfl fun go4_6_1 => ?_
       exact RA.to hall (RA.lr (ro4_11110110 go4_6_1) rfl rfl)
     have ro4_11111000 : RA E B all 3 #[true, true, true, true, true, false, false, false] ⟨41, [(0, .r (sl 3 Entry.c a)), (1, I (IntKind.i64.wrap ((IntKind.i64.wrap (l + 1)) + 1))), (5, I (i : Int)), (34, S ei.data)]⟩ K := by
      refine RA.of hall (RA.step (L := [5]) (by kernel_rfl) (by simp) (RA.each ?_ (RA.each0)))
      ·skip
       refine RO.v rfl rfl (V.mv (d := I (IntKind.i64.wrap ((IntKind.i64.wrap (l + 1)) + 1))) rfl rfl) rfl ?_
       exact RA.to hall (RA.lr ro4_11111100 rfl rfl)
     have ro4_11000110 : ∀ (go4_6_1 : Nat → Nat → Value), RA E B all 4 #[true, true, false, false, false, true, true, false] ⟨41, [(0, .r (sl 3 Entry.c a)), (1, I (IntKind.i64.wrap ((IntKind.i64.wrap (l + 1)) + 1))), (5, I (i : Int)), (30, .r (sl 3 Entry.c a)), (31, I (i : Int)), (36, S (mtext (IntKind.i64.wrap ((IntKind.i64.wrap (l + 1)) + 1))))]⟩ K := by
      intro go4_6_1
      refine RA.of hall (RA.step (L := [2]) (by kernel_rfl) (by simp) (RA.each ?_ (RA.each0)))
      ·skip
       refine RO.v rfl rfl (V.indexS rfl rfl rfl rfl rfl rfl Entry.len hei) rfl ?_
       exact RA.to hall (RA.lr (ro4_11100110 go4_6_1) rfl rfl)
     have ro4_11100100 : RA E B all 4 #[true, true, true, false, false, true, false, false] ⟨41, [(0, .r (sl 3 Entry.c a)), (1, I (IntKind.i64.wrap ((IntKind.i64.wrap (l + 1)) + 1))), (5, I (i : Int)), (32, .rp (Entry.c ei)), (35, I (IntKind.i64.wrap ((IntKind.i64.wrap (l + 1)) + 1)))]⟩ K := by
      refine RA.of hall (RA.step (L := [3, 6]) (by kernel_rfl) (by simp) (RA.each ?_ (RA.each ?_ (RA.each0))))
      ·skip
       refine RO.v rfl rfl (V.fieldR rfl rfl rfl rfl (by decide) rfl (Nat.le_of_ble_eq_true rfl)) rfl ?_
       exact RA.to hall (RA.lr ro4_11110100 rfl rfl)
      ·skip
       refine RO.call rfl rfl (laws_markText_fn (IntKind.i64.wrap ((IntKind.i64.wrap (l + 1)) + 1)) (by first | exact hlk | exact wrap_le _)) rfl (.cons (.one (.r .r)) (.nil)) rfl fun go4_6_1 => ?_
       exact RA.to hall (RA.lr (ro4_11100110 go4_6_1) rfl rfl)
     have ro4_11110000 : RA E B all 4 #[true, true, true, true, false, false, false, false] ⟨41, [(0, .r (sl 3 Entry.c a)), (1, I (IntKind.i64.wrap ((IntKind.i64.wrap (l + 1)) + 1))), (5, I (i : Int)), (33, .rp [.v (.string ei.data)])]⟩ K := by
      refine RA.of hall (RA.step (L := [4, 5]) (by kernel_rfl) (by simp) (RA.each ?_ (RA.each ?_ (RA.each0))))
      ·skip
       refine RO.v rfl rfl (V.loadPrimR (t0 := .v (.string ei.data)) rfl rfl (.inl rfl) rfl rfl) rfl ?_
       exact RA.to hall (RA.lr ro4_11111000 rfl rfl)
      ·skip
       refine RO.v rfl rfl (V.mv (d := I (IntKind.i64.wrap ((IntKind.i64.wrap (l + 1)) + 1))) rfl rfl) rfl ?_
       exact RA.to hall (RA.lr ro4_11110100 rfl rfl)
     have ro4_01000110 : ∀ (go4_6_1 : Nat → Nat → Value), RA E B all 5 #[false, true, false, false, false, true, true, false] ⟨41, [(0, .r (sl 3 Entry.c a)), (1, I (IntKind.i64.wrap ((IntKind.i64.wrap (l + 1)) + 1))), (5, I (i : Int)), (31, I (i : Int)), (36, S (mtext (IntKind.i64.wrap ((IntKind.i64.wrap (l + 1)) + 1))))]⟩ K := by
      intro go4_6_1
      refine RA.of hall (RA.step (L := [0]) (by kernel_rfl) (by simp) (RA.each ?_ (RA.each0)))
      ·skip
       refine RO.v rfl rfl (V.mv (d := .r (sl 3 Entry.c a)) rfl rfl) rfl ?_
       exact RA.to hall (RA.lr (ro4_11000110 go4_6_1) rfl rfl)
     have ro4_10000110 : ∀ (go4_6_1 : Nat → Nat → Value), RA E B all 5 #[true, false, false, false, false, true, true, false] ⟨41, [(0, .r (sl 3 Entry.c a)), (1, I (IntKind.i64.wrap ((IntKind.i64.wrap (l + 1)) + 1))), (5, I (i : Int)), (30, .r (sl 3 Entry.c a)), (36, S (mtext (IntKind.i64.wrap ((IntKind.i64.wrap (l + 1)) + 1))))]⟩ K := by
      intro go4_6_1
      refine RA.of hall (RA.step (L := [1]) (by kernel_rfl) (by simp) (RA.each ?_ (RA.each0)))
      ·skip
       refine RO.v rfl rfl (V.mv (d := I (i : Int)) rfl rfl) rfl ?_
       exact RA.to hall (RA.lr (ro4_11000110 go4_6_1) rfl rfl)
     have ro4_11000100 : RA E B all 5 #[true, true, false, false, false, true, false, false] ⟨41, [(0, .r (sl 3 Entry.c a)), (1, I (IntKind.i64.wrap ((IntKind.i64.wrap (l + 1)) + 1))), (5, I (i : Int)), (30, .r (sl 3 Entry.c a)), (31, I (i : Int)), (35, I (IntKind.i64.wrap ((IntKind.i64.wrap (l + 1)) + 1)))]⟩ K := by
      refine RA.of hall (RA.step (L := [2, 6]) (by kernel_rfl) (by simp) (RA.each ?_ (RA.each ?_ (RA.each0))))
      ·skip
       refine RO.v rfl rfl (V.indexS rfl rfl rfl rfl rfl rfl Entry.len hei) rfl ?_
       exact RA.to hall (RA.lr ro4_11100100 rfl rfl)
      ·skip
       refine RO.call rfl rfl (laws_markText_fn (IntKind.i64.wrap ((IntKind.i64.wrap (l + 1)) + 1)) (by first | exact hlk | exact wrap_le _)) rfl (.cons (.one (.r .r)) (.nil)) rfl fun go4_6_1 => ?_
       exact RA.to hall (RA.lr (ro4_11000110 go4_6_1) rfl rfl)
     have ro4_11100000 : RA E B all 5 #[true, true, true, false, false, false, false, false] ⟨41, [(0, .r (sl 3 Entry.c a)), (1, I (IntKind.i64.wrap ((IntKind.i64.wrap (l + 1)) + 1))), (5, I (i : Int)), (32, .rp (Entry.c ei))]⟩ K := by
      refine RA.of hall (RA.step (L := [3, 5]) (by kernel_rfl) (by simp) (RA.each ?_ (RA.each ?_ (RA.each0))))
      ·skip
       refine RO.v rfl rfl (V.fieldR rfl rfl rfl rfl (by decide) rfl (Nat.le_of_ble_eq_true rfl)) rfl ?_
       exact RA.to hall (RA.lr ro4_11110000 rfl rfl)
      ·skip
       refine RO.v rfl rfl (V.mv (d := I (IntKind.i64.wrap ((IntKind.i64.wrap (l + 1)) + 1))) rfl rfl) rfl ?_
       exact RA.to hall (RA.lr ro4_11100100 rfl rfl)
     have ro4_00000110 : ∀ (go4_6_1 : Nat → Nat → Value), RA E B all 6 #[false, false, false, false, false, true, true, false] ⟨41, [(0, .r (sl 3 Entry.c a)), (1, I (IntKind.i64.wrap ((IntKind.i64.wrap (l + 1)) + 1))), (5, I (i : Int)), (36, S (mtext (IntKind.i64.wrap ((IntKind.i64.wrap (l + 1)) + 1))))]⟩ K := by
      intro go4_6_1
      refine RA.of hall (RA.step (L := [0, 1]) (by kernel_rfl) (by simp) (RA.each ?_ (RA.each ?_ (RA.each0))))
      ·skip
       refine RO.v rfl rfl (V.mv (d := .r (sl 3 Entry.c a)) rfl rfl) rfl ?_
       exact RA.to hall (RA.lr (ro4_10000110 go4_6_1) rfl rfl)
      ·skip
       refine RO.v rfl rfl (V.mv (d := I (i : Int)) rfl rfl) rfl ?_
       exact RA.to hall (RA.lr (ro4_01000110 go4_6_1) rfl rfl)
     have ro4_01000100 : RA E B all 6 #[false, true, false, false, false, true, false, false] ⟨41, [(0, .r (sl 3 Entry.c a)), (1, I (IntKind.i64.wrap ((IntKind.i64.wrap (l + 1)) + 1))), (5, I (i : Int)), (31, I (i : Int)), (35, I (IntKind.i64.wrap ((IntKind.i64.wrap (l + 1)) + 1)))]⟩ K := by
      refine RA.of hall (RA.step (L := [0, 6]) (by kernel_rfl) (by simp) (RA.each ?_ (RA.each ?_ (RA.each0))))
      ·skip
       refine RO.v rfl rfl (V.mv (d := .r (sl 3 Entry.c a)) rfl rfl) rfl ?_
       exact RA.to hall (RA.lr ro4_11000100 rfl rfl)
      ·skip
       refine RO.call rfl rfl (laws_markText_fn (IntKind.i64.wrap ((IntKind.i64.wrap (l + 1)) + 1)) (by first | exact hlk | exact wrap_le _)) rfl (.cons (.one (.r .r)) (.nil)) rfl fun go4_6_1 => ?_
       exact RA.to hall (RA.lr (ro4_01000110 go4_6_1) rfl rfl)
     have ro4_10000100 : RA E B all 6 #[true, false, false, false, false, true, false, false] ⟨41, [(0, .r (sl 3 Entry.c a)), (1, I (IntKind.i64.wrap ((IntKind.i64.wrap (l + 1)) + 1))), (5, I (i : Int)), (30, .r (sl 3 Entry.c a)), (35, I (IntKind.i64.wrap ((IntKind.i64.wrap (l + 1)) + 1)))]⟩ K := by
      refine RA.of hall (RA.step (L := [1, 6]) (by kernel_rfl) (by simp) (RA.each ?_ (RA.each ?_ (RA.each0))))
      ·skip
       refine RO.v rfl rfl (V.mv (d := I (i : Int)) rfl rfl) rfl ?_
       exact RA.to hall (RA.lr ro4_11000100 rfl rfl)
      ·skip
       refine RO.call rfl rfl (laws_markText_fn (IntKind.i64.wrap ((IntKind.i64.wrap (l + 1)) + 1)) (by first | exact hlk | exact wrap_le _)) rfl (.cons (.one (.r .r)) (.nil)) rfl fun go4_6_1 => ?_
       exact RA.to hall (RA.lr (ro4_10000110 go4_6_1) rfl rfl)
     have ro4_11000000 : RA E B all 6 #[true, true, false, false, false, false, false, false] ⟨41, [(0, .r (sl 3 Entry.c a)), (1, I (IntKind.i64.wrap ((IntKind.i64.wrap (l + 1)) + 1))), (5, I (i : Int)), (30, .r (sl 3 Entry.c a)), (31, I (i : Int))]⟩ K := by
      refine RA.of hall (RA.step (L := [2, 5]) (by kernel_rfl) (by simp) (RA.each ?_ (RA.each ?_ (RA.each0))))
      ·skip
       refine RO.v rfl rfl (V.indexS rfl rfl rfl rfl rfl rfl Entry.len hei) rfl ?_
       exact RA.to hall (RA.lr ro4_11100000 rfl rfl)
      ·skip
       refine RO.v rfl rfl (V.mv (d := I (IntKind.i64.wrap ((IntKind.i64.wrap (l + 1)) + 1))) rfl rfl) rfl ?_
       exact RA.to hall (RA.lr ro4_11000100 rfl rfl)
     have ro4_00000100 : RA E B all 7 #[false, false, false, false, false, true, false, false] ⟨41, [(0, .r (sl 3 Entry.c a)), (1, I (IntKind.i64.wrap ((IntKind.i64.wrap (l + 1)) + 1))), (5, I (i : Int)), (35, I (IntKind.i64.wrap ((IntKind.i64.wrap (l + 1)) + 1)))]⟩ K := by
      refine RA.of hall (RA.step (L := [0, 1, 6]) (by kernel_rfl) (by simp) (RA.each ?_ (RA.each ?_ (RA.each ?_ (RA.each0)))))
      ·skip
       refine RO.v rfl rfl (V.mv (d := .r (sl 3 Entry.c a)) rfl rfl) rfl ?_
       exact RA.to hall (RA.lr ro4_10000100 rfl rfl)
      ·skip
       refine RO.v rfl rfl (V.mv (d := I (i : Int)) rfl rfl) rfl ?_
       exact RA.to hall (RA.lr ro4_01000100 rfl rfl)
      ·skip
       refine RO.call rfl rfl (laws_markText_fn (IntKind.i64.wrap ((IntKind.i64.wrap (l + 1)) + 1)) (by first | exact hlk | exact wrap_le _)) rfl (.cons (.one (.r .r)) (.nil)) rfl fun go4_6_1 => ?_
       exact RA.to hall (RA.lr (ro4_00000110 go4_6_1) rfl rfl)
     have ro4_01000000 : RA E B all 7 #[false, true, false, false, false, false, false, false] ⟨41, [(0, .r (sl 3 Entry.c a)), (1, I (IntKind.i64.wrap ((IntKind.i64.wrap (l + 1)) + 1))), (5, I (i : Int)), (31, I (i : Int))]⟩ K := by
      refine RA.of hall (RA.step (L := [0, 5]) (by kernel_rfl) (by simp) (RA.each ?_ (RA.each ?_ (RA.each0))))
      ·skip
       refine RO.v rfl rfl (V.mv (d := .r (sl 3 Entry.c a)) rfl rfl) rfl ?_
       exact RA.to hall (RA.lr ro4_11000000 rfl rfl)
      ·skip
       refine RO.v rfl rfl (V.mv (d := I (IntKind.i64.wrap ((IntKind.i64.wrap (l + 1)) + 1))) rfl rfl) rfl ?_
       exact RA.to hall (RA.lr ro4_01000100 rfl rfl)
     have ro4_10000000 : RA E B all 7 #[true, false, false, false, false, false, false, false] ⟨41, [(0, .r (sl 3 Entry.c a)), (1, I (IntKind.i64.wrap ((IntKind.i64.wrap (l + 1)) + 1))), (5, I (i : Int)), (30, .r (sl 3 Entry.c a))]⟩ K := by
      refine RA.of hall (RA.step (L := [1, 5]) (by kernel_rfl) (by simp) (RA.each ?_ (RA.each ?_ (RA.each0))))
      ·skip
       refine RO.v rfl rfl (V.mv (d := I (i : Int)) rfl rfl) rfl ?_
       exact RA.to hall (RA.lr ro4_11000000 rfl rfl)
      ·skip
       refine RO.v rfl rfl (V.mv (d := I (IntKind.i64.wrap ((IntKind.i64.wrap (l + 1)) + 1))) rfl rfl) rfl ?_
       exact RA.to hall (RA.lr ro4_10000100 rfl rfl)
     have ro4_00000000 : RA E B all 8 #[false, false, false, false, false, false, false, false] ⟨41, [(0, .r (sl 3 Entry.c a)), (1, I (IntKind.i64.wrap ((IntKind.i64.wrap (l + 1)) + 1))), (5, I (i : Int))]⟩ K := by
      refine RA.of hall (RA.step (L := [0, 1, 5]) (by kernel_rfl) (by simp) (RA.each ?_ (RA.each ?_ (RA.each ?_ (RA.each0)))))
      ·skip
       refine RO.v rfl rfl (V.mv (d := .r (sl 3 Entry.c a)) rfl rfl) rfl ?_
       exact RA.to hall (RA.lr ro4_10000000 rfl rfl)
      ·skip
       refine RO.v rfl rfl (V.mv (d := I (i : Int)) rfl rfl) rfl ?_
       exact RA.to hall (RA.lr ro4_01000000 rfl rfl)
      ·skip
       refine RO.v rfl rfl (V.mv (d := I (IntKind.i64.wrap ((IntKind.i64.wrap (l + 1)) + 1))) rfl rfl) rfl ?_
       exact RA.to hall (RA.lr ro4_00000100 rfl rfl)
     exact RA.start (by kernel_rfl) (by kernel_rfl) (RA.lr ro4_00000000 rfl rfl)
    ·rintro go4_6_1
     refine CW.cond rfl (fun h5 => ?_) (fun h5 => ?_)
     ·skip
      refine CW.seq ?_
      refine CW.region ?_
      refine RW.v rfl (V.as (d := I (-1)) rfl rfl) ?_
      refine RW.nil ?_
      refine CW.le [(4, I (-1))] rfl (Le.of rfl) ?_
      refine CW.ret ?_
      exact Post.one (RV.i rfl (by rw [← hr, hdi]; clear hr; first | rfl | (simp_all [hdL, hdEEntry, hdI, hdS, inc]; done) | grind [hdL, hdEEntry, hdI, hdS, inc])) (AOs.r (AOs.r AOs.e))
     ·skip
      refine CW.skip ?_
      refine CW.le [(0, .r (sl 3 Entry.c a)), (1, I (IntKind.i64.wrap ((IntKind.i64.wrap (l + 1)) + 1))), (5, I (i : Int))] rfl (Le.of rfl) ?_
      refine CW.region ?_
      refine RW.v rfl (V.mv (d := I (IntKind.i64.wrap ((IntKind.i64.wrap (l + 1)) + 1))) rfl rfl) ?_
      refine RW.v rfl (V.arInt rfl rfl rfl rfl) ?_
      refine RW.v rfl (V.as (d := I (IntKind.i64.wrap ((IntKind.i64.wrap ((IntKind.i64.wrap (l + 1)) + 1)) + 1))) rfl rfl) ?_
      refine RW.nil ?_
      refine CW.le [(0, .r (sl 3 Entry.c a)), (1, I (IntKind.i64.wrap ((IntKind.i64.wrap ((IntKind.i64.wrap (l + 1)) + 1)) + 1))), (5, I (i : Int))] rfl (Le.of rfl) ?_
      refine CW.region ?_
      refine RW.v rfl (V.mv (d := I (i : Int)) rfl rfl) ?_
      refine RW.v rfl (V.inc rfl rfl rfl hii hl0) ?_
      refine RW.v rfl (V.as (d := I ((i + 1 : Nat) : Int)) rfl rfl) ?_
      refine RW.nil ?_
      exact ⟨(i + 1, _), by simp only []; omega, ⟨by omega, by first | exact wrap_le _ | omega, by rw [← hr, hdi]; clear hr; first | rfl | (simp_all [hdL, hdEEntry, hdI, hdS, inc]; done) | grind [hdL, hdEEntry, hdI, hdS, inc]⟩, rfl, Le.c rfl <| Le.c rfl <| Le.c rfl <| Le.e⟩
 ·skip
  have hii : a.length ≤ i := by have := h1; simp at this; first | exact this | omega | (simp; done) | (simp; omega)
  have hdi : a.drop i = [] := List.drop_eq_nil_of_le hii
  refine CW.exit ?_
  refine CW.le [(1, I l)] rfl (Le.of rfl) ?_
  refine CW.seq ?_
  refine CW.region ?_
  refine RW.v rfl (V.mv (d := I l) rfl rfl) ?_
  refine RW.v rfl (V.as (d := I l) rfl rfl) ?_
  refine RW.nil ?_
  refine CW.le [(4, I l)] rfl (Le.of rfl) ?_
  refine CW.ret ?_
  exact Post.one (RV.i rfl (by rw [← hr, hdi]; clear hr; first | rfl | (simp_all [hdL, hdEEntry, hdI, hdS, inc]; done) | grind [hdL, hdEEntry, hdI, hdS, inc])) (AOs.r (AOs.r AOs.e))
set_option maxHeartbeats 4000000 in
theorem laws_heldLog_fn (a : Log) (k : Int) (hk : k ≤ 9223372036854775807) : Eng.Fn E.P 79 [.agg ((Log.c a).map .r), .one (.r (.v (.int .i64 k)))] (.one (.one (.w (.v (.int .i64 ((hdVLog a k).getD (-1))))))) [.agg ((Log.c a).map .r), .one (.r (.v (.int .i64 k)))] := by
 refine Eng.Fn.intro (E := E) (rvs := [.tmp 4]) Try.func79 rfl rfl rfl (by simp [outSlots, moved, rvSlot, sl]) ?_
 intro B g bo
 refine CW.le [(0, .agg ((Log.c a).map .r)), (1, I k)] rfl (Le.of rfl) ?_
 refine CW.seq ?_
 refine CW.region ?_
 refine RW.box (ds := ((Log.c a).map .r)) rfl rfl rfl fun b1 => ?_
 refine RW.v rfl (V.as (d := I 0) rfl rfl) ?_
 refine RW.nil ?_
 refine CW.le [(1, I k), (2, .obj b1 ((Log.c a).map .r))] rfl (Le.of rfl) ?_
 refine CW.seq ?_
 refine CW.region ?_
 refine RW.v rfl (V.field rfl rfl rfl rfl (by decide) rfl) ?_
 refine RW.v rfl (V.loadPrim (d := .r (sl 3 Entry.c a.entries)) rfl rfl (.inr ⟨_, rfl⟩) rfl rfl rfl) ?_
 refine RW.v rfl (V.mv (d := I k) rfl rfl) ?_
 refine RW.call rfl (laws_heldEntryS_fn a.entries k (by repeat (first | exact hk | apply leD | apply hdL_le | apply hdN_le | exact hdI_le | exact hdS_le | exact hdB_le | exact hdEEntry_le | exact hdEPeer_le | exact hdVLog_le | exact hdVNode_le))) rfl (.cons (.one (.r .r)) (.cons (.one (.r .r)) (.nil))) fun g2 => ?_
 refine RW.v rfl (V.as (d := I ((hdL hdEEntry a.entries k).getD (-1))) rfl rfl) ?_
 refine RW.nil ?_
 refine CW.le [(1, I ((hdL hdEEntry a.entries k).getD (-1)))] rfl (Le.of rfl) ?_
 refine CW.seq ?_
 refine CW.seq ?_
 refine CW.region ?_
 refine RW.v rfl (V.mv (d := I ((hdL hdEEntry a.entries k).getD (-1))) rfl rfl) ?_
 refine RW.v rfl (V.cmpInt rfl rfl rfl rfl) ?_
 refine RW.nil ?_
 refine CW.le [(1, I ((hdL hdEEntry a.entries k).getD (-1))), (10, Bo (decide (((hdL hdEEntry a.entries k).getD (-1)) < 0)))] rfl (Le.of rfl) ?_
 refine CW.cond rfl (fun h3 => ?_) (fun h3 => ?_)
 ·skip
  refine CW.seq ?_
  refine CW.region ?_
  refine RW.v rfl (V.as (d := I (-1)) rfl rfl) ?_
  refine RW.nil ?_
  refine CW.le [(4, I (-1))] rfl (Le.of rfl) ?_
  refine CW.ret ?_
  exact Post.one (RV.i rfl (by simp_all [hdVLog, hdN_ok, hdN_bad])) (AOs.a rfl (AOs.r AOs.e))
 ·skip
  refine CW.skip ?_
  refine CW.le [(1, I ((hdL hdEEntry a.entries k).getD (-1)))] rfl (Le.of rfl) ?_
  refine CW.seq ?_
  refine CW.region ?_
  refine RW.v rfl (V.mv (d := I ((hdL hdEEntry a.entries k).getD (-1))) rfl rfl) ?_
  refine RW.v rfl (V.as (d := I ((hdL hdEEntry a.entries k).getD (-1))) rfl rfl) ?_
  refine RW.nil ?_
  refine CW.le [(4, I ((hdL hdEEntry a.entries k).getD (-1)))] rfl (Le.of rfl) ?_
  refine CW.ret ?_
  exact Post.one (RV.i rfl (by simp_all [hdVLog, hdN_ok, hdN_bad])) (AOs.a rfl (AOs.r AOs.e))
set_option maxHeartbeats 4000000 in
theorem laws_heldPeerS_fn (a : List Peer) (k : Int) (hk : k ≤ 9223372036854775807) : Eng.Fn E.P 80 [.one (.r (sl 4 Peer.c a)), .one (.r (.v (.int .i64 k)))] (.one (.one (.w (.v (.int .i64 ((hdL hdEPeer a k).getD (-1))))))) [.one (.r (sl 4 Peer.c a)), .one (.r (.v (.int .i64 k)))] := by
 refine Eng.Fn.intro (E := E) (rvs := [.tmp 4]) Try.func80 rfl rfl rfl (by simp [outSlots, moved, rvSlot, sl]) ?_
 intro B g bo
 refine CW.bound (x := .tmp 0) (n := a.length) (AsT.r) (fun hl0 => ?_)
 refine CW.le [(0, .r (sl 4 Peer.c a)), (1, I k)] rfl (Le.of rfl) ?_
 refine CW.seq ?_
 refine CW.region ?_
 refine RW.v rfl (V.as (d := I 0) rfl rfl) ?_
 refine RW.nil ?_
 refine CW.le [(0, .r (sl 4 Peer.c a)), (1, I k)] rfl (Le.of rfl) ?_
 refine CW.seq ?_
 refine CW.seq ?_
 refine CW.region ?_
 refine RW.v rfl (V.as (d := I 0) rfl rfl) ?_
 refine RW.nil ?_
 refine CW.le [(0, .r (sl 4 Peer.c a)), (1, I k), (5, I 0)] rfl (Le.of rfl) ?_
 refine CW.block ?_
 refine CW.loopI 49 (fun (x : Nat × Int) => match x with | (i, l) => [(0, .r (sl 4 Peer.c a)), (1, I l), (5, I (i : Int))]) (fun (x : Nat × Int) => match x with | (i, l) => i ≤ a.length ∧ l ≤ 9223372036854775807 ∧ hdL hdEPeer (a.drop i) l = hdL hdEPeer a k) (fun (x : Nat × Int) => match x with | (i, l) => a.length - i) (0, _) rfl (Le.c rfl <| Le.c rfl <| Le.c rfl <| Le.e) ⟨by omega, hk, by simp⟩ ?_
 rintro ⟨i, l⟩ ⟨hb, hlk, hr⟩
 refine CW.seq ?_
 refine CW.seq ?_
 refine CW.region ?_
 refine RW.v rfl (V.mv (d := I (i : Int)) rfl rfl) ?_
 refine RW.v rfl (V.mv (d := .r (sl 4 Peer.c a)) rfl rfl) ?_
 refine RW.v rfl (V.lenT (n := a.length) rfl rfl rfl .r) ?_
 refine RW.v rfl (V.cmpInt rfl rfl rfl rfl) ?_
 refine RW.nil ?_
 refine CW.le [(0, .r (sl 4 Peer.c a)), (1, I l), (5, I (i : Int)), (9, Bo (decide ((i : Int) < (a.length : Int))))] rfl (Le.of rfl) ?_
 refine CW.cond rfl (fun h1 => ?_) (fun h1 => ?_)
 ·skip
  have hii : i < a.length := by have := h1; simp at this; first | exact this | omega | (simp; done) | (simp; omega)
  obtain ⟨ei, hei⟩ : ∃ e, a[i]? = some e := ⟨_, List.getElem?_eq_getElem hii⟩
  have hdi := drop_get hei
  refine CW.skip ?_
  refine CW.le [(0, .r (sl 4 Peer.c a)), (1, I l), (5, I (i : Int))] rfl (Le.of rfl) ?_
  refine CW.seq ?_
  refine CW.block ?_
  refine CW.seq ?_
  refine CW.seq ?_
  refine CW.region ?_
  refine RW.v rfl (V.mv (d := .r (sl 4 Peer.c a)) rfl rfl) ?_
  refine RW.v rfl (V.mv (d := I (i : Int)) rfl rfl) ?_
  refine RW.v rfl (V.indexS rfl rfl rfl rfl rfl rfl Peer.len hei) ?_
  refine RW.v rfl (V.fieldR rfl rfl rfl rfl (by decide) rfl (Nat.le_of_ble_eq_true rfl)) ?_
  refine RW.v rfl (V.loadPrimR (t0 := .v (.int .i64 ei.id)) rfl rfl (.inl rfl) rfl rfl) ?_
  refine RW.v rfl (V.mv (d := I l) rfl rfl) ?_
  refine RW.v rfl (V.cmpInt rfl rfl rfl rfl) ?_
  refine RW.nil ?_
  refine CW.le [(0, .r (sl 4 Peer.c a)), (1, I l), (5, I (i : Int)), (18, Bo (ei.id != l))] rfl (Le.of rfl) ?_
  refine CW.cond rfl (fun h2 => ?_) (fun h2 => ?_)
  ·skip
   refine CW.seq ?_
   refine CW.region ?_
   refine RW.v rfl (V.as (d := I (-1)) rfl rfl) ?_
   refine RW.nil ?_
   refine CW.le [(4, I (-1))] rfl (Le.of rfl) ?_
   refine CW.ret ?_
   exact Post.one (RV.i rfl (by rw [← hr, hdi]; clear hr; first | rfl | (simp_all [hdL, hdEPeer, hdI, inc]; done) | grind [hdL, hdEPeer, hdI, inc])) (AOs.r (AOs.r AOs.e))
  ·skip
   refine CW.skip ?_
   refine CW.le [(0, .r (sl 4 Peer.c a)), (1, I l), (5, I (i : Int))] rfl (Le.of rfl) ?_
   refine CW.seq ?_
   refine CW.region ?_
   refine RW.v rfl (V.mv (d := I l) rfl rfl) ?_
   refine RW.v rfl (V.arInt rfl rfl rfl rfl) ?_
   refine RW.v rfl (V.as (d := I (IntKind.i64.wrap (l + 1))) rfl rfl) ?_
   refine RW.nil ?_
   refine CW.le [(0, .r (sl 4 Peer.c a)), (1, I (IntKind.i64.wrap (l + 1))), (5, I (i : Int))] rfl (Le.of rfl) ?_
   refine CW.seq ?_
   refine CW.seq ?_
   refine CW.region ?_
   refine RW.v rfl (V.mv (d := .r (sl 4 Peer.c a)) rfl rfl) ?_
   refine RW.v rfl (V.mv (d := I (i : Int)) rfl rfl) ?_
   refine RW.v rfl (V.indexS rfl rfl rfl rfl rfl rfl Peer.len hei) ?_
   refine RW.v rfl (V.fieldR rfl rfl rfl rfl (by decide) rfl (Nat.le_of_ble_eq_true rfl)) ?_
   refine RW.v rfl (V.loadPrimR (t0 := .v (.int .i64 ei.next)) rfl rfl (.inl rfl) rfl rfl) ?_
   refine RW.v rfl (V.mv (d := I (IntKind.i64.wrap (l + 1))) rfl rfl) ?_
   refine RW.v rfl (V.cmpInt rfl rfl rfl rfl) ?_
   refine RW.nil ?_
   refine CW.le [(0, .r (sl 4 Peer.c a)), (1, I (IntKind.i64.wrap (l + 1))), (5, I (i : Int)), (27, Bo (ei.next != (IntKind.i64.wrap (l + 1))))] rfl (Le.of rfl) ?_
   refine CW.cond rfl (fun h3 => ?_) (fun h3 => ?_)
   ·skip
    refine CW.seq ?_
    refine CW.region ?_
    refine RW.v rfl (V.as (d := I (-1)) rfl rfl) ?_
    refine RW.nil ?_
    refine CW.le [(4, I (-1))] rfl (Le.of rfl) ?_
    refine CW.ret ?_
    exact Post.one (RV.i rfl (by rw [← hr, hdi]; clear hr; first | rfl | (simp_all [hdL, hdEPeer, hdI, inc]; done) | grind [hdL, hdEPeer, hdI, inc])) (AOs.r (AOs.r AOs.e))
   ·skip
    refine CW.skip ?_
    refine CW.le [(0, .r (sl 4 Peer.c a)), (1, I (IntKind.i64.wrap (l + 1))), (5, I (i : Int))] rfl (Le.of rfl) ?_
    refine CW.seq ?_
    refine CW.region ?_
    refine RW.v rfl (V.mv (d := I (IntKind.i64.wrap (l + 1))) rfl rfl) ?_
    refine RW.v rfl (V.arInt rfl rfl rfl rfl) ?_
    refine RW.v rfl (V.as (d := I (IntKind.i64.wrap ((IntKind.i64.wrap (l + 1)) + 1))) rfl rfl) ?_
    refine RW.nil ?_
    refine CW.le [(0, .r (sl 4 Peer.c a)), (1, I (IntKind.i64.wrap ((IntKind.i64.wrap (l + 1)) + 1))), (5, I (i : Int))] rfl (Le.of rfl) ?_
    refine CW.seq ?_
    refine CW.seq ?_
    refine CW.region ?_
    refine RW.v rfl (V.mv (d := .r (sl 4 Peer.c a)) rfl rfl) ?_
    refine RW.v rfl (V.mv (d := I (i : Int)) rfl rfl) ?_
    refine RW.v rfl (V.indexS rfl rfl rfl rfl rfl rfl Peer.len hei) ?_
    refine RW.v rfl (V.fieldR rfl rfl rfl rfl (by decide) rfl (Nat.le_of_ble_eq_true rfl)) ?_
    refine RW.v rfl (V.loadPrimR (t0 := .v (.int .i64 ei.match_)) rfl rfl (.inl rfl) rfl rfl) ?_
    refine RW.v rfl (V.mv (d := I (IntKind.i64.wrap ((IntKind.i64.wrap (l + 1)) + 1))) rfl rfl) ?_
    refine RW.v rfl (V.cmpInt rfl rfl rfl rfl) ?_
    refine RW.nil ?_
    refine CW.le [(0, .r (sl 4 Peer.c a)), (1, I (IntKind.i64.wrap ((IntKind.i64.wrap (l + 1)) + 1))), (5, I (i : Int)), (36, Bo (ei.match_ != (IntKind.i64.wrap ((IntKind.i64.wrap (l + 1)) + 1))))] rfl (Le.of rfl) ?_
    refine CW.cond rfl (fun h4 => ?_) (fun h4 => ?_)
    ·skip
     refine CW.seq ?_
     refine CW.region ?_
     refine RW.v rfl (V.as (d := I (-1)) rfl rfl) ?_
     refine RW.nil ?_
     refine CW.le [(4, I (-1))] rfl (Le.of rfl) ?_
     refine CW.ret ?_
     exact Post.one (RV.i rfl (by rw [← hr, hdi]; clear hr; first | rfl | (simp_all [hdL, hdEPeer, hdI, inc]; done) | grind [hdL, hdEPeer, hdI, inc])) (AOs.r (AOs.r AOs.e))
    ·skip
     refine CW.skip ?_
     refine CW.le [(0, .r (sl 4 Peer.c a)), (1, I (IntKind.i64.wrap ((IntKind.i64.wrap (l + 1)) + 1))), (5, I (i : Int))] rfl (Le.of rfl) ?_
     refine CW.seq ?_
     refine CW.region ?_
     refine RW.v rfl (V.mv (d := I (IntKind.i64.wrap ((IntKind.i64.wrap (l + 1)) + 1))) rfl rfl) ?_
     refine RW.v rfl (V.arInt rfl rfl rfl rfl) ?_
     refine RW.v rfl (V.as (d := I (IntKind.i64.wrap ((IntKind.i64.wrap ((IntKind.i64.wrap (l + 1)) + 1)) + 1))) rfl rfl) ?_
     refine RW.nil ?_
     refine CW.le [(0, .r (sl 4 Peer.c a)), (1, I (IntKind.i64.wrap ((IntKind.i64.wrap ((IntKind.i64.wrap (l + 1)) + 1)) + 1))), (5, I (i : Int))] rfl (Le.of rfl) ?_
     refine CW.seq ?_
     refine CW.seq ?_
     refine CW.region ?_
     refine RW.v rfl (V.mv (d := .r (sl 4 Peer.c a)) rfl rfl) ?_
     refine RW.v rfl (V.mv (d := I (i : Int)) rfl rfl) ?_
     refine RW.v rfl (V.indexS rfl rfl rfl rfl rfl rfl Peer.len hei) ?_
     refine RW.v rfl (V.fieldR rfl rfl rfl rfl (by decide) rfl (Nat.le_of_ble_eq_true rfl)) ?_
     refine RW.v rfl (V.loadPrimR (t0 := .v (.int .i64 ei.sent)) rfl rfl (.inl rfl) rfl rfl) ?_
     refine RW.v rfl (V.mv (d := I (IntKind.i64.wrap ((IntKind.i64.wrap ((IntKind.i64.wrap (l + 1)) + 1)) + 1))) rfl rfl) ?_
     refine RW.v rfl (V.cmpInt rfl rfl rfl rfl) ?_
     refine RW.nil ?_
     refine CW.le [(0, .r (sl 4 Peer.c a)), (1, I (IntKind.i64.wrap ((IntKind.i64.wrap ((IntKind.i64.wrap (l + 1)) + 1)) + 1))), (5, I (i : Int)), (45, Bo (ei.sent != (IntKind.i64.wrap ((IntKind.i64.wrap ((IntKind.i64.wrap (l + 1)) + 1)) + 1))))] rfl (Le.of rfl) ?_
     refine CW.cond rfl (fun h5 => ?_) (fun h5 => ?_)
     ·skip
      refine CW.seq ?_
      refine CW.region ?_
      refine RW.v rfl (V.as (d := I (-1)) rfl rfl) ?_
      refine RW.nil ?_
      refine CW.le [(4, I (-1))] rfl (Le.of rfl) ?_
      refine CW.ret ?_
      exact Post.one (RV.i rfl (by rw [← hr, hdi]; clear hr; first | rfl | (simp_all [hdL, hdEPeer, hdI, inc]; done) | grind [hdL, hdEPeer, hdI, inc])) (AOs.r (AOs.r AOs.e))
     ·skip
      refine CW.skip ?_
      refine CW.le [(0, .r (sl 4 Peer.c a)), (1, I (IntKind.i64.wrap ((IntKind.i64.wrap ((IntKind.i64.wrap (l + 1)) + 1)) + 1))), (5, I (i : Int))] rfl (Le.of rfl) ?_
      refine CW.region ?_
      refine RW.v rfl (V.mv (d := I (IntKind.i64.wrap ((IntKind.i64.wrap ((IntKind.i64.wrap (l + 1)) + 1)) + 1))) rfl rfl) ?_
      refine RW.v rfl (V.arInt rfl rfl rfl rfl) ?_
      refine RW.v rfl (V.as (d := I (IntKind.i64.wrap ((IntKind.i64.wrap ((IntKind.i64.wrap ((IntKind.i64.wrap (l + 1)) + 1)) + 1)) + 1))) rfl rfl) ?_
      refine RW.nil ?_
      refine CW.le [(0, .r (sl 4 Peer.c a)), (1, I (IntKind.i64.wrap ((IntKind.i64.wrap ((IntKind.i64.wrap ((IntKind.i64.wrap (l + 1)) + 1)) + 1)) + 1))), (5, I (i : Int))] rfl (Le.of rfl) ?_
      refine CW.region ?_
      refine RW.v rfl (V.mv (d := I (i : Int)) rfl rfl) ?_
      refine RW.v rfl (V.inc rfl rfl rfl hii hl0) ?_
      refine RW.v rfl (V.as (d := I ((i + 1 : Nat) : Int)) rfl rfl) ?_
      refine RW.nil ?_
      exact ⟨(i + 1, _), by simp only []; omega, ⟨by omega, by first | exact wrap_le _ | omega, by rw [← hr, hdi]; clear hr; first | rfl | (simp_all [hdL, hdEPeer, hdI, inc]; done) | grind [hdL, hdEPeer, hdI, inc]⟩, rfl, Le.c rfl <| Le.c rfl <| Le.c rfl <| Le.e⟩
 ·skip
  have hii : a.length ≤ i := by have := h1; simp at this; first | exact this | omega | (simp; done) | (simp; omega)
  have hdi : a.drop i = [] := List.drop_eq_nil_of_le hii
  refine CW.exit ?_
  refine CW.le [(1, I l)] rfl (Le.of rfl) ?_
  refine CW.seq ?_
  refine CW.region ?_
  refine RW.v rfl (V.mv (d := I l) rfl rfl) ?_
  refine RW.v rfl (V.as (d := I l) rfl rfl) ?_
  refine RW.nil ?_
  refine CW.le [(4, I l)] rfl (Le.of rfl) ?_
  refine CW.ret ?_
  exact Post.one (RV.i rfl (by rw [← hr, hdi]; clear hr; first | rfl | (simp_all [hdL, hdEPeer, hdI, inc]; done) | grind [hdL, hdEPeer, hdI, inc])) (AOs.r (AOs.r AOs.e))
set_option maxHeartbeats 4000000 in
theorem laws_heldNode_fn (a : Node) (k : Int) (hk : k ≤ 9223372036854775807) : Eng.Fn E.P 30 [.agg ((Node.c a).map .r), .one (.r (.v (.int .i64 k)))] (.one (.one (.w (.v (.int .i64 ((hdVNode a k).getD (-1))))))) [.agg ((Node.c a).map .r), .one (.r (.v (.int .i64 k)))] := by
 refine Eng.Fn.intro (E := E) (rvs := [.tmp 4]) Try.func30 rfl rfl rfl (by simp [outSlots, moved, rvSlot, sl]) ?_
 intro B g bo
 refine CW.le [(0, .agg ((Node.c a).map .r)), (1, I k)] rfl (Le.of rfl) ?_
 refine CW.seq ?_
 refine CW.region ?_
 refine RW.box (ds := ((Node.c a).map .r)) rfl rfl rfl fun b1 => ?_
 refine RW.v rfl (V.as (d := I 0) rfl rfl) ?_
 refine RW.nil ?_
 refine CW.le [(1, I k), (2, .obj b1 ((Node.c a).map .r))] rfl (Le.of rfl) ?_
 refine CW.seq ?_
 refine CW.region ?_
 refine RW.v rfl (V.field rfl rfl rfl rfl (by decide) rfl) ?_
 refine RW.v rfl (V.loadPrim (d := .r (sl 1 cI a.conf)) rfl rfl (.inr ⟨_, rfl⟩) rfl rfl rfl) ?_
 refine RW.v rfl (V.mv (d := I k) rfl rfl) ?_
 refine RW.call rfl (laws_heldIntS_fn a.conf k (by repeat (first | exact hk | apply leD | apply hdL_le | apply hdN_le | exact hdI_le | exact hdS_le | exact hdB_le | exact hdEEntry_le | exact hdEPeer_le | exact hdVLog_le | exact hdVNode_le))) rfl (.cons (.one (.r .r)) (.cons (.one (.r .r)) (.nil))) fun g2 => ?_
 refine RW.v rfl (V.as (d := I ((hdL hdI a.conf k).getD (-1))) rfl rfl) ?_
 refine RW.nil ?_
 refine CW.le [(1, I ((hdL hdI a.conf k).getD (-1))), (2, .obj b1 ((Node.c a).map .r))] rfl (Le.of rfl) ?_
 refine CW.seq ?_
 refine CW.seq ?_
 refine CW.region ?_
 refine RW.v rfl (V.mv (d := I ((hdL hdI a.conf k).getD (-1))) rfl rfl) ?_
 refine RW.v rfl (V.cmpInt rfl rfl rfl rfl) ?_
 refine RW.nil ?_
 refine CW.le [(1, I ((hdL hdI a.conf k).getD (-1))), (2, .obj b1 ((Node.c a).map .r)), (10, Bo (decide (((hdL hdI a.conf k).getD (-1)) < 0)))] rfl (Le.of rfl) ?_
 refine CW.cond rfl (fun h3 => ?_) (fun h3 => ?_)
 ·skip
  refine CW.seq ?_
  refine CW.region ?_
  refine RW.v rfl (V.as (d := I (-1)) rfl rfl) ?_
  refine RW.nil ?_
  refine CW.le [(4, I (-1))] rfl (Le.of rfl) ?_
  refine CW.ret ?_
  exact Post.one (RV.i rfl (by simp_all [hdVNode, hdN_ok, hdN_bad])) (AOs.a rfl (AOs.r AOs.e))
 ·skip
  refine CW.skip ?_
  refine CW.le [(1, I ((hdL hdI a.conf k).getD (-1))), (2, .obj b1 ((Node.c a).map .r))] rfl (Le.of rfl) ?_
  refine CW.seq ?_
  refine CW.region ?_
  refine RW.v rfl (V.field rfl rfl rfl rfl (by decide) rfl) ?_
  refine RW.v rfl (V.loadAgg rfl rfl rfl rfl rfl (Nat.le_of_ble_eq_true rfl)) ?_
  refine RW.v rfl (V.mv (d := I ((hdL hdI a.conf k).getD (-1))) rfl rfl) ?_
  refine RW.call rfl (laws_heldLog_fn a.log ((hdL hdI a.conf k).getD (-1)) (by repeat (first | exact hk | apply leD | apply hdL_le | apply hdN_le | exact hdI_le | exact hdS_le | exact hdB_le | exact hdEEntry_le | exact hdEPeer_le | exact hdVLog_le | exact hdVNode_le))) rfl (.cons (.agg (.cons (.r .r) (.cons (.r .r) (.cons (.r .r) (.nil))))) (.cons (.one (.r .r)) (.nil))) fun g4 => ?_
  refine RW.v rfl (V.as (d := I ((hdVLog a.log ((hdL hdI a.conf k).getD (-1))).getD (-1))) rfl rfl) ?_
  refine RW.nil ?_
  refine CW.le [(1, I ((hdVLog a.log ((hdL hdI a.conf k).getD (-1))).getD (-1))), (2, .obj b1 ((Node.c a).map .r))] rfl (Le.of rfl) ?_
  refine CW.seq ?_
  refine CW.seq ?_
  refine CW.region ?_
  refine RW.v rfl (V.mv (d := I ((hdVLog a.log ((hdL hdI a.conf k).getD (-1))).getD (-1))) rfl rfl) ?_
  refine RW.v rfl (V.cmpInt rfl rfl rfl rfl) ?_
  refine RW.nil ?_
  refine CW.le [(1, I ((hdVLog a.log ((hdL hdI a.conf k).getD (-1))).getD (-1))), (2, .obj b1 ((Node.c a).map .r)), (16, Bo (decide (((hdVLog a.log ((hdL hdI a.conf k).getD (-1))).getD (-1)) < 0)))] rfl (Le.of rfl) ?_
  refine CW.cond rfl (fun h5 => ?_) (fun h5 => ?_)
  ·skip
   refine CW.seq ?_
   refine CW.region ?_
   refine RW.v rfl (V.as (d := I (-1)) rfl rfl) ?_
   refine RW.nil ?_
   refine CW.le [(4, I (-1))] rfl (Le.of rfl) ?_
   refine CW.ret ?_
   exact Post.one (RV.i rfl (by simp_all [hdVNode, hdN_ok, hdN_bad])) (AOs.a rfl (AOs.r AOs.e))
  ·skip
   refine CW.skip ?_
   refine CW.le [(1, I ((hdVLog a.log ((hdL hdI a.conf k).getD (-1))).getD (-1))), (2, .obj b1 ((Node.c a).map .r))] rfl (Le.of rfl) ?_
   refine CW.seq ?_
   refine CW.region ?_
   refine RW.v rfl (V.field rfl rfl rfl rfl (by decide) rfl) ?_
   refine RW.v rfl (V.loadPrim (d := .r (sl 1 cI a.votes)) rfl rfl (.inr ⟨_, rfl⟩) rfl rfl rfl) ?_
   refine RW.v rfl (V.mv (d := I ((hdVLog a.log ((hdL hdI a.conf k).getD (-1))).getD (-1))) rfl rfl) ?_
   refine RW.call rfl (laws_heldIntS_fn a.votes ((hdVLog a.log ((hdL hdI a.conf k).getD (-1))).getD (-1)) (by repeat (first | exact hk | apply leD | apply hdL_le | apply hdN_le | exact hdI_le | exact hdS_le | exact hdB_le | exact hdEEntry_le | exact hdEPeer_le | exact hdVLog_le | exact hdVNode_le))) rfl (.cons (.one (.r .r)) (.cons (.one (.r .r)) (.nil))) fun g6 => ?_
   refine RW.v rfl (V.as (d := I ((hdL hdI a.votes ((hdVLog a.log ((hdL hdI a.conf k).getD (-1))).getD (-1))).getD (-1))) rfl rfl) ?_
   refine RW.nil ?_
   refine CW.le [(1, I ((hdL hdI a.votes ((hdVLog a.log ((hdL hdI a.conf k).getD (-1))).getD (-1))).getD (-1))), (2, .obj b1 ((Node.c a).map .r))] rfl (Le.of rfl) ?_
   refine CW.seq ?_
   refine CW.seq ?_
   refine CW.region ?_
   refine RW.v rfl (V.mv (d := I ((hdL hdI a.votes ((hdVLog a.log ((hdL hdI a.conf k).getD (-1))).getD (-1))).getD (-1))) rfl rfl) ?_
   refine RW.v rfl (V.cmpInt rfl rfl rfl rfl) ?_
   refine RW.nil ?_
   refine CW.le [(1, I ((hdL hdI a.votes ((hdVLog a.log ((hdL hdI a.conf k).getD (-1))).getD (-1))).getD (-1))), (2, .obj b1 ((Node.c a).map .r)), (22, Bo (decide (((hdL hdI a.votes ((hdVLog a.log ((hdL hdI a.conf k).getD (-1))).getD (-1))).getD (-1)) < 0)))] rfl (Le.of rfl) ?_
   refine CW.cond rfl (fun h7 => ?_) (fun h7 => ?_)
   ·skip
    refine CW.seq ?_
    refine CW.region ?_
    refine RW.v rfl (V.as (d := I (-1)) rfl rfl) ?_
    refine RW.nil ?_
    refine CW.le [(4, I (-1))] rfl (Le.of rfl) ?_
    refine CW.ret ?_
    exact Post.one (RV.i rfl (by simp_all [hdVNode, hdN_ok, hdN_bad])) (AOs.a rfl (AOs.r AOs.e))
   ·skip
    refine CW.skip ?_
    refine CW.le [(1, I ((hdL hdI a.votes ((hdVLog a.log ((hdL hdI a.conf k).getD (-1))).getD (-1))).getD (-1))), (2, .obj b1 ((Node.c a).map .r))] rfl (Le.of rfl) ?_
    refine CW.seq ?_
    refine CW.region ?_
    refine RW.v rfl (V.field rfl rfl rfl rfl (by decide) rfl) ?_
    refine RW.v rfl (V.loadPrim (d := .r (sl 4 Peer.c a.peers)) rfl rfl (.inr ⟨_, rfl⟩) rfl rfl rfl) ?_
    refine RW.v rfl (V.mv (d := I ((hdL hdI a.votes ((hdVLog a.log ((hdL hdI a.conf k).getD (-1))).getD (-1))).getD (-1))) rfl rfl) ?_
    refine RW.call rfl (laws_heldPeerS_fn a.peers ((hdL hdI a.votes ((hdVLog a.log ((hdL hdI a.conf k).getD (-1))).getD (-1))).getD (-1)) (by repeat (first | exact hk | apply leD | apply hdL_le | apply hdN_le | exact hdI_le | exact hdS_le | exact hdB_le | exact hdEEntry_le | exact hdEPeer_le | exact hdVLog_le | exact hdVNode_le))) rfl (.cons (.one (.r .r)) (.cons (.one (.r .r)) (.nil))) fun g8 => ?_
    refine RW.v rfl (V.as (d := I ((hdL hdEPeer a.peers ((hdL hdI a.votes ((hdVLog a.log ((hdL hdI a.conf k).getD (-1))).getD (-1))).getD (-1))).getD (-1))) rfl rfl) ?_
    refine RW.nil ?_
    refine CW.le [(1, I ((hdL hdEPeer a.peers ((hdL hdI a.votes ((hdVLog a.log ((hdL hdI a.conf k).getD (-1))).getD (-1))).getD (-1))).getD (-1)))] rfl (Le.of rfl) ?_
    refine CW.seq ?_
    refine CW.seq ?_
    refine CW.region ?_
    refine RW.v rfl (V.mv (d := I ((hdL hdEPeer a.peers ((hdL hdI a.votes ((hdVLog a.log ((hdL hdI a.conf k).getD (-1))).getD (-1))).getD (-1))).getD (-1))) rfl rfl) ?_
    refine RW.v rfl (V.cmpInt rfl rfl rfl rfl) ?_
    refine RW.nil ?_
    refine CW.le [(1, I ((hdL hdEPeer a.peers ((hdL hdI a.votes ((hdVLog a.log ((hdL hdI a.conf k).getD (-1))).getD (-1))).getD (-1))).getD (-1))), (28, Bo (decide (((hdL hdEPeer a.peers ((hdL hdI a.votes ((hdVLog a.log ((hdL hdI a.conf k).getD (-1))).getD (-1))).getD (-1))).getD (-1)) < 0)))] rfl (Le.of rfl) ?_
    refine CW.cond rfl (fun h9 => ?_) (fun h9 => ?_)
    ·skip
     refine CW.seq ?_
     refine CW.region ?_
     refine RW.v rfl (V.as (d := I (-1)) rfl rfl) ?_
     refine RW.nil ?_
     refine CW.le [(4, I (-1))] rfl (Le.of rfl) ?_
     refine CW.ret ?_
     exact Post.one (RV.i rfl (by simp_all [hdVNode, hdN_ok, hdN_bad])) (AOs.a rfl (AOs.r AOs.e))
    ·skip
     refine CW.skip ?_
     refine CW.le [(1, I ((hdL hdEPeer a.peers ((hdL hdI a.votes ((hdVLog a.log ((hdL hdI a.conf k).getD (-1))).getD (-1))).getD (-1))).getD (-1)))] rfl (Le.of rfl) ?_
     refine CW.seq ?_
     refine CW.region ?_
     refine RW.v rfl (V.mv (d := I ((hdL hdEPeer a.peers ((hdL hdI a.votes ((hdVLog a.log ((hdL hdI a.conf k).getD (-1))).getD (-1))).getD (-1))).getD (-1))) rfl rfl) ?_
     refine RW.v rfl (V.as (d := I ((hdL hdEPeer a.peers ((hdL hdI a.votes ((hdVLog a.log ((hdL hdI a.conf k).getD (-1))).getD (-1))).getD (-1))).getD (-1))) rfl rfl) ?_
     refine RW.nil ?_
     refine CW.le [(4, I ((hdL hdEPeer a.peers ((hdL hdI a.votes ((hdVLog a.log ((hdL hdI a.conf k).getD (-1))).getD (-1))).getD (-1))).getD (-1)))] rfl (Le.of rfl) ?_
     refine CW.ret ?_
     exact Post.one (RV.i rfl (by simp_all [hdVNode, hdN_ok, hdN_bad])) (AOs.a rfl (AOs.r AOs.e))
set_option maxHeartbeats 4000000 in
theorem spec_l06Last_fn (l : Log) : Eng.Fn E.P 93 [.agg ((Log.c l).map .r)] (.one (.one (.w (.v (.int .i64 (IntKind.i64.wrap (l.start + (l.entries.length : Int)))))))) [.agg ((Log.c l).map .r)] := by
 refine Eng.Fn.intro (E := E) (rvs := [.tmp 2]) Try.func93 rfl rfl rfl (by simp [outSlots, moved, rvSlot, sl]) ?_
 intro B g bo
 refine CW.le [(0, .agg ((Log.c l).map .r))] rfl (Le.of rfl) ?_
 refine CW.seq ?_
 refine CW.region ?_
 refine RW.box (ds := ((Log.c l).map .r)) rfl rfl rfl fun b1 => ?_
 refine RW.v rfl (V.as (d := I 0) rfl rfl) ?_
 refine RW.nil ?_
 refine CW.le [(1, .obj b1 ((Log.c l).map .r))] rfl (Le.of rfl) ?_
 refine CW.seq ?_
 refine CW.region ?_
 refine RW.v rfl (V.field rfl rfl rfl rfl (by decide) rfl) ?_
 refine RW.v rfl (V.loadPrim (d := I l.start) rfl rfl (.inl rfl) rfl rfl rfl) ?_
 refine RW.v rfl (V.field rfl rfl rfl rfl (by decide) rfl) ?_
 refine RW.v rfl (V.loadPrim (d := .r (sl 3 Entry.c l.entries)) rfl rfl (.inr ⟨_, rfl⟩) rfl rfl rfl) ?_
 refine RW.v rfl (V.lenT (n := l.entries.length) rfl rfl rfl .r) ?_
 refine RW.v rfl (V.arInt rfl rfl rfl rfl) ?_
 refine RW.v rfl (V.as (d := I (IntKind.i64.wrap (l.start + (l.entries.length : Int)))) rfl rfl) ?_
 refine RW.nil ?_
 refine CW.le [(2, I (IntKind.i64.wrap (l.start + (l.entries.length : Int))))] rfl (Le.of rfl) ?_
 refine CW.ret ?_
 exact Post.one (RV.i rfl (by rfl)) (AOs.a rfl AOs.e)
set_option maxHeartbeats 4000000 in
theorem spec_LogTerm_fn (l : Log) (i : Int) (hs : 0 ≤ l.start ∧ l.start ≤ 1000000 ∧ l.entries.length ≤ 60) (hi : i ≤ 9223372036854775807) : Eng.Fn E.P 84 [.agg ((Log.c l).map .r), .one (.r (.v (.int .i64 i)))] (.one (.one (.w (.v (.int .i64 (logTerm l i)))))) [.agg ((Log.c l).map .r), .one (.r (.v (.int .i64 i)))] := by
 refine Eng.Fn.intro (E := E) (rvs := [.tmp 4]) Try.func84 rfl rfl rfl (by simp [outSlots, moved, rvSlot, sl]) ?_
 intro B g bo
 refine CW.le [(0, .agg ((Log.c l).map .r)), (1, I i)] rfl (Le.of rfl) ?_
 refine CW.seq ?_
 refine CW.region ?_
 refine RW.box (ds := ((Log.c l).map .r)) rfl rfl rfl fun b1 => ?_
 refine RW.v rfl (V.as (d := I 0) rfl rfl) ?_
 refine RW.nil ?_
 refine CW.le [(1, I i), (2, .obj b1 ((Log.c l).map .r))] rfl (Le.of rfl) ?_
 refine CW.seq ?_
 refine CW.seq ?_
 refine CW.region ?_
 refine RW.v rfl (V.mv (d := I i) rfl rfl) ?_
 refine RW.v rfl (V.field rfl rfl rfl rfl (by decide) rfl) ?_
 refine RW.v rfl (V.loadPrim (d := I l.start) rfl rfl (.inl rfl) rfl rfl rfl) ?_
 refine RW.v rfl (V.cmpInt rfl rfl rfl rfl) ?_
 refine RW.nil ?_
 refine CW.le [(1, I i), (2, .obj b1 ((Log.c l).map .r)), (8, Bo (i == l.start))] rfl (Le.of rfl) ?_
 refine CW.cond rfl (fun h2 => ?_) (fun h2 => ?_)
 ·skip
  refine CW.seq ?_
  refine CW.region ?_
  refine RW.v rfl (V.field rfl rfl rfl rfl (by decide) rfl) ?_
  refine RW.v rfl (V.loadPrim (d := I l.startTerm) rfl rfl (.inl rfl) rfl rfl rfl) ?_
  refine RW.v rfl (V.as (d := I l.startTerm) rfl rfl) ?_
  refine RW.nil ?_
  refine CW.le [(4, I l.startTerm)] rfl (Le.of rfl) ?_
  refine CW.ret ?_
  exact Post.one (RV.i rfl (by exact lt_at h2)) (AOs.a rfl (AOs.r AOs.e))
 ·skip
  refine CW.skip ?_
  refine CW.le [(1, I i), (2, .obj b1 ((Log.c l).map .r))] rfl (Le.of rfl) ?_
  refine CW.seq ?_
  refine CW.seqJ 31 (fun (v3 : Bool) => [(1, I i), (2, .obj b1 ((Log.c l).map .r)), (20, Bo v3)]) (fun v3 => v3 = (decide (i < l.start) || decide (i > (IntKind.i64.wrap (l.start + (l.entries.length : Int)))))) ?_ ?_
  ·refine CW.region ?_
   refine RW.v rfl (V.mv (d := I i) rfl rfl) ?_
   refine RW.v rfl (V.field rfl rfl rfl rfl (by decide) rfl) ?_
   refine RW.v rfl (V.loadPrim (d := I l.start) rfl rfl (.inl rfl) rfl rfl rfl) ?_
   refine RW.v rfl (V.cmpInt rfl rfl rfl rfl) ?_
   refine RW.v rfl (V.mv (d := Bo (decide (i < l.start))) rfl rfl) ?_
   refine RW.gv rfl rfl rfl rfl (fun h4 => V.mv (d := I i) rfl rfl) (fun h4 => ?_) (fun h4 => ?_)
   ·skip
    refine RW.gt rfl rfl rfl rfl (V.loadAgg rfl rfl rfl rfl rfl (Nat.le_of_ble_eq_true rfl)) ?_
    refine RW.gcall rfl rfl rfl rfl (spec_l06Last_fn l) rfl (.cons (.agg (.cons (.r .r) (.cons (.r .r) (.cons (.r .r) (.nil))))) (.nil)) fun g5 => ?_
    refine RW.gt rfl rfl rfl rfl (V.cmpInt rfl rfl rfl rfl) ?_
    refine RW.v rfl (V.pickF (d := Bo (decide (i > (IntKind.i64.wrap (l.start + (l.entries.length : Int)))))) rfl rfl rfl) ?_
    refine RW.nil ?_
    exact ⟨_, by first | rfl | (simp_all; done) | (simp_all; omega) | grind, rfl, Le.c rfl <| Le.c rfl <| Le.c rfl <| Le.e⟩
   ·skip
    refine RW.guardF rfl rfl rfl rfl ?_
    refine RW.guardF rfl rfl rfl rfl ?_
    refine RW.guardF rfl rfl rfl rfl ?_
    refine RW.v rfl (V.pickT (d := Bo true) rfl rfl rfl) ?_
    refine RW.nil ?_
    exact ⟨_, by first | rfl | (simp_all; done) | (simp_all; omega) | grind, rfl, Le.c rfl <| Le.c rfl <| Le.c rfl <| Le.e⟩
  ·intro v3 hv6
   refine CW.cond rfl (fun h7 => ?_) (fun h7 => ?_)
   ·skip
    have ho : i < l.start ∨ i > l.start + (l.entries.length : Int) := by rw [hv6, IntKind.wrap_i64] at h7; simp at h7; omega
    refine CW.seq ?_
    refine CW.region ?_
    refine RW.v rfl (V.as (d := I (-1)) rfl rfl) ?_
    refine RW.nil ?_
    refine CW.le [(4, I (-1))] rfl (Le.of rfl) ?_
    refine CW.ret ?_
    exact Post.one (RV.i rfl (by exact lt_out (by simpa using h2) ho)) (AOs.a rfl (AOs.r AOs.e))
   ·skip
    have hne : i ≠ l.start := by simpa using h2
    have hA : l.start < i ∧ i ≤ l.start + (l.entries.length : Int) := by rw [hv6, IntKind.wrap_i64] at h7; simp at h7; omega
    refine CW.skip ?_
    refine CW.le [(1, I i), (2, .obj b1 ((Log.c l).map .r))] rfl (Le.of rfl) ?_
    refine CW.seq ?_
    refine CW.region ?_
    refine RW.v rfl (V.field rfl rfl rfl rfl (by decide) rfl) ?_
    refine RW.v rfl (V.loadPrim (d := .r (sl 3 Entry.c l.entries)) rfl rfl (.inr ⟨_, rfl⟩) rfl rfl rfl) ?_
    refine RW.v rfl (V.mv (d := I i) rfl rfl) ?_
    refine RW.v rfl (V.field rfl rfl rfl rfl (by decide) rfl) ?_
    refine RW.v rfl (V.loadPrim (d := I l.start) rfl rfl (.inl rfl) rfl rfl rfl) ?_
    refine RW.v rfl (V.arInt rfl rfl rfl rfl) ?_
    refine RW.v rfl (V.arInt rfl rfl rfl rfl) ?_
    refine RW.v rfl (V.indexZ (m := (i - l.start - 1).toNat) (v := (l.entries.getD (i - l.start - 1).toNat Entry.z)) rfl rfl rfl rfl rfl rfl (by rw [IntKind.wrap_i64, IntKind.wrap_i64]; omega) Entry.len (getD_some (by omega))) ?_
    refine RW.v rfl (V.fieldR rfl rfl rfl rfl (by decide) rfl (Nat.le_of_ble_eq_true rfl)) ?_
    refine RW.v rfl (V.loadPrimR (t0 := .v (.int .i64 ((l.entries.getD (i - l.start - 1).toNat Entry.z).term_))) rfl rfl (.inl rfl) rfl rfl) ?_
    refine RW.v rfl (V.as (d := I ((l.entries.getD (i - l.start - 1).toNat Entry.z).term_)) rfl rfl) ?_
    refine RW.nil ?_
    refine CW.le [(4, I ((l.entries.getD (i - l.start - 1).toNat Entry.z).term_))] rfl (Le.of rfl) ?_
    refine CW.ret ?_
    exact Post.one (RV.i rfl (by exact lt_in (by simpa using h2) hA)) (AOs.a rfl (AOs.r AOs.e))
set_option maxHeartbeats 4000000 in
theorem impl_LogTerm_fn (l : Log) (i : Int) (hs : 0 ≤ l.start ∧ l.start ≤ 1000000 ∧ l.entries.length ≤ 60) (hi : i ≤ 9223372036854775807) : Eng.Fn E.P 87 [.agg ((Log.c l).map .r), .one (.r (.v (.int .i64 i)))] (.one (.one (.w (.v (.int .i64 (logTerm l i)))))) [.agg ((Log.c l).map .r), .one (.r (.v (.int .i64 i)))] := by
 refine Eng.Fn.intro (E := E) (rvs := [.tmp 4]) Try.func87 rfl rfl rfl (by simp [outSlots, moved, rvSlot, sl]) ?_
 intro B g bo
 refine CW.le [(0, .agg ((Log.c l).map .r)), (1, I i)] rfl (Le.of rfl) ?_
 refine CW.seq ?_
 refine CW.region ?_
 refine RW.box (ds := ((Log.c l).map .r)) rfl rfl rfl fun b1 => ?_
 refine RW.v rfl (V.as (d := I 0) rfl rfl) ?_
 refine RW.nil ?_
 refine CW.le [(1, I i), (2, .obj b1 ((Log.c l).map .r))] rfl (Le.of rfl) ?_
 refine CW.seq ?_
 refine CW.block ?_
 refine CW.seq ?_
 refine CW.region ?_
 refine RW.v rfl (V.mv (d := I i) rfl rfl) ?_
 refine RW.v rfl (V.field rfl rfl rfl rfl (by decide) rfl) ?_
 refine RW.v rfl (V.loadPrim (d := I l.start) rfl rfl (.inl rfl) rfl rfl rfl) ?_
 refine RW.v rfl (V.cmpInt rfl rfl rfl rfl) ?_
 refine RW.v rfl (V.as (d := Bo (i == l.start)) rfl rfl) ?_
 refine RW.nil ?_
 refine CW.le [(1, I i), (2, .obj b1 ((Log.c l).map .r)), (5, Bo (i == l.start))] rfl (Le.of rfl) ?_
 refine CW.cond rfl (fun h2 => ?_) (fun h2 => ?_)
 ·skip
  refine CW.seq ?_
  refine CW.region ?_
  refine RW.v rfl (V.field rfl rfl rfl rfl (by decide) rfl) ?_
  refine RW.v rfl (V.loadPrim (d := I l.startTerm) rfl rfl (.inl rfl) rfl rfl rfl) ?_
  refine RW.v rfl (V.as (d := I l.startTerm) rfl rfl) ?_
  refine RW.nil ?_
  refine CW.le [(4, I l.startTerm)] rfl (Le.of rfl) ?_
  refine CW.ret ?_
  exact Post.one (RV.i rfl (by exact lt_at h2)) (AOs.a rfl (AOs.r AOs.e))
 ·skip
  refine CW.seqJ 37 (fun (v3 : Bool) => [(1, I i), (2, .obj b1 ((Log.c l).map .r)), (12, Bo v3)]) (fun v3 => v3 = (decide (i > l.start) && decide ((IntKind.i64.wrap (i - l.start)) ≤ (l.entries.length : Int)))) ?_ ?_
  ·refine CW.region ?_
   refine RW.v rfl (V.mv (d := I i) rfl rfl) ?_
   refine RW.v rfl (V.field rfl rfl rfl rfl (by decide) rfl) ?_
   refine RW.v rfl (V.loadPrim (d := I l.start) rfl rfl (.inl rfl) rfl rfl rfl) ?_
   refine RW.v rfl (V.cmpInt rfl rfl rfl rfl) ?_
   refine RW.v rfl (V.mv (d := Bo (decide (i > l.start))) rfl rfl) ?_
   refine RW.gv rfl rfl rfl rfl (fun h4 => V.mv (d := I i) rfl rfl) (fun h4 => ?_) (fun h4 => ?_)
   ·skip
    refine RW.gt rfl rfl rfl rfl (V.field rfl rfl rfl rfl (by decide) rfl) ?_
    refine RW.gt rfl rfl rfl rfl (V.loadPrim (d := I l.start) rfl rfl (.inl rfl) rfl rfl rfl) ?_
    refine RW.gt rfl rfl rfl rfl (V.arInt rfl rfl rfl rfl) ?_
    refine RW.gt rfl rfl rfl rfl (V.field rfl rfl rfl rfl (by decide) rfl) ?_
    refine RW.gt rfl rfl rfl rfl (V.loadPrim (d := .r (sl 3 Entry.c l.entries)) rfl rfl (.inr ⟨_, rfl⟩) rfl rfl rfl) ?_
    refine RW.gt rfl rfl rfl rfl (V.lenT (n := l.entries.length) rfl rfl rfl .r) ?_
    refine RW.gt rfl rfl rfl rfl (V.cmpInt rfl rfl rfl rfl) ?_
    refine RW.v rfl (V.pickT (d := Bo (decide ((IntKind.i64.wrap (i - l.start)) ≤ (l.entries.length : Int)))) rfl rfl rfl) ?_
    refine RW.v rfl (V.as (d := Bo (decide ((IntKind.i64.wrap (i - l.start)) ≤ (l.entries.length : Int)))) rfl rfl) ?_
    refine RW.nil ?_
    exact ⟨_, by first | rfl | (simp_all; done) | (simp_all; omega) | grind, rfl, Le.c rfl <| Le.c rfl <| Le.c rfl <| Le.e⟩
   ·skip
    refine RW.guardF rfl rfl rfl rfl ?_
    refine RW.guardF rfl rfl rfl rfl ?_
    refine RW.guardF rfl rfl rfl rfl ?_
    refine RW.guardF rfl rfl rfl rfl ?_
    refine RW.guardF rfl rfl rfl rfl ?_
    refine RW.guardF rfl rfl rfl rfl ?_
    refine RW.guardF rfl rfl rfl rfl ?_
    refine RW.v rfl (V.pickF (d := Bo false) rfl rfl rfl) ?_
    refine RW.v rfl (V.as (d := Bo false) rfl rfl) ?_
    refine RW.nil ?_
    exact ⟨_, by first | rfl | (simp_all; done) | (simp_all; omega) | grind, rfl, Le.c rfl <| Le.c rfl <| Le.c rfl <| Le.e⟩
  ·intro v3 hv5
   refine CW.cond rfl (fun h6 => ?_) (fun h6 => ?_)
   ·skip
    have hA : l.start < i ∧ i ≤ l.start + (l.entries.length : Int) := by rw [hv5, IntKind.wrap_i64] at h6; simp at h6; omega
    refine CW.seq ?_
    refine CW.region ?_
    refine RW.v rfl (V.field rfl rfl rfl rfl (by decide) rfl) ?_
    refine RW.v rfl (V.loadPrim (d := .r (sl 3 Entry.c l.entries)) rfl rfl (.inr ⟨_, rfl⟩) rfl rfl rfl) ?_
    refine RW.v rfl (V.mv (d := I i) rfl rfl) ?_
    refine RW.v rfl (V.field rfl rfl rfl rfl (by decide) rfl) ?_
    refine RW.v rfl (V.loadPrim (d := I l.start) rfl rfl (.inl rfl) rfl rfl rfl) ?_
    refine RW.v rfl (V.arInt rfl rfl rfl rfl) ?_
    refine RW.v rfl (V.arInt rfl rfl rfl rfl) ?_
    refine RW.v rfl (V.indexZ (m := (i - l.start - 1).toNat) (v := (l.entries.getD (i - l.start - 1).toNat Entry.z)) rfl rfl rfl rfl rfl rfl (by rw [IntKind.wrap_i64, IntKind.wrap_i64]; omega) Entry.len (getD_some (by omega))) ?_
    refine RW.v rfl (V.fieldR rfl rfl rfl rfl (by decide) rfl (Nat.le_of_ble_eq_true rfl)) ?_
    refine RW.v rfl (V.loadPrimR (t0 := .v (.int .i64 ((l.entries.getD (i - l.start - 1).toNat Entry.z).term_))) rfl rfl (.inl rfl) rfl rfl) ?_
    refine RW.v rfl (V.as (d := I ((l.entries.getD (i - l.start - 1).toNat Entry.z).term_)) rfl rfl) ?_
    refine RW.nil ?_
    refine CW.le [(4, I ((l.entries.getD (i - l.start - 1).toNat Entry.z).term_))] rfl (Le.of rfl) ?_
    refine CW.ret ?_
    exact Post.one (RV.i rfl (by exact lt_in (by simpa using h2) hA)) (AOs.a rfl (AOs.r AOs.e))
   ·skip
    have hne : i ≠ l.start := by simpa using h2
    have ho : i < l.start ∨ i > l.start + (l.entries.length : Int) := by rw [hv5, IntKind.wrap_i64] at h6; simp at h6; omega
    refine CW.skip ?_
    refine CW.le [] rfl (Le.of rfl) ?_
    refine CW.seq ?_
    refine CW.region ?_
    refine RW.v rfl (V.as (d := I (-1)) rfl rfl) ?_
    refine RW.nil ?_
    refine CW.le [(4, I (-1))] rfl (Le.of rfl) ?_
    refine CW.ret ?_
    exact Post.one (RV.i rfl (by exact lt_out (by simpa using h2) ho)) (AOs.a rfl (AOs.r AOs.e))
set_option maxHeartbeats 4000000 in
theorem spec_LogBehind_fn (l : Log) (b : Int) (t : Int) (hok : okToLog l) (hi : b ≤ 9223372036854775807) : Eng.Fn E.P 83 [.agg ((Log.c l).map .r), .one (.r (.v (.int .i64 b))), .one (.r (.v (.int .i64 t)))] (.one (.agg ((Log.c (logBehind l b t)).map .w))) [.agg ((Log.c l).map .r), .one (.r (.v (.int .i64 b))), .one (.r (.v (.int .i64 t)))] := by
 refine Eng.Fn.intro (E := E) (rvs := [.cell 6 44]) Try.func83 rfl rfl rfl (by simp [outSlots, moved, rvSlot, sl]) ?_
 intro B g bo
 refine CW.le [(0, .agg ((Log.c l).map .r)), (1, I b), (2, I t)] rfl (Le.of rfl) ?_
 refine CW.seq ?_
 refine CW.region ?_
 refine RW.box (ds := ((Log.c l).map .r)) rfl rfl rfl fun b1 => ?_
 refine RW.alloc (ds := [I 0, I 0, .r (.v (.slice none 0 0))]) rfl rfl rfl rfl fun b2 => ?_
 refine RW.nil ?_
 refine CW.le [(1, I b), (2, I t), (3, .obj b1 ((Log.c l).map .r)), (6, .obj b2 [I 0, I 0, .r (.v (.slice none 0 0))])] rfl (Le.of rfl) ?_
 refine CW.seq ?_
 refine CW.region ?_
 refine RW.v rfl (V.mv (d := I b) rfl rfl) ?_
 refine RW.v rfl (V.mv (d := I t) rfl rfl) ?_
 refine RW.v rfl (V.build (ds := [I b, I t, .r (.v (.slice none 0 0))]) rfl rfl rfl rfl (.one rfl rfl rfl (Nat.le_of_ble_eq_true rfl) (.one rfl rfl rfl (Nat.le_of_ble_eq_true rfl) (.nil)))) ?_
 refine RW.alloc (ds := [I 0, I 0, .r (.v (.slice none 0 0))]) rfl rfl rfl rfl fun b3 => ?_
 refine RW.storeAgg (es := [I b, I t, .r (.v (.slice none 0 0))]) rfl rfl rfl rfl rfl rfl rfl rfl (Nat.le_of_ble_eq_true rfl) rfl ?_
 refine RW.nil ?_
 refine CW.le [(1, I b), (2, I t), (3, .obj b1 ((Log.c l).map .r)), (6, .obj b2 [I 0, I 0, .r (.v (.slice none 0 0))]), (7, .obj b3 [I b, I t, .r (.v (.slice none 0 0))])] rfl (Le.of rfl) ?_
 refine CW.seq ?_
 refine CW.seqJ 39 (fun (v4 : Bool) => [(1, I b), (3, .obj b1 ((Log.c l).map .r)), (6, .obj b2 [I 0, I 0, .r (.v (.slice none 0 0))]), (7, .obj b3 [I b, I t, .r (.v (.slice none 0 0))]), (27, Bo v4)]) (fun v4 => v4 = (((logOk l) && (inR b l.start (IntKind.i64.wrap (l.start + (l.entries.length : Int))))) && ((logTerm l b) == t))) ?_ ?_
 ·refine CW.drawn (by kernel_rfl) ?_
  refine RQ.v rfl (V.loadAgg rfl rfl rfl rfl rfl (Nat.le_of_ble_eq_true rfl)) ?_
  refine RQ.cons rfl (QOK.call (spec_LogOk_fn l hok) rfl (.cons (.agg (.cons (.r .r) (.cons (.r .r) (.cons (.r .r) (.nil))))) (.nil)) ?_)
  refine RQ.v rfl (V.mv (d := Bo (logOk l)) rfl rfl) ?_
  refine RQ.gv rfl rfl rfl rfl (fun h5 => V.mv (d := I b) rfl rfl) (fun h5 => ?_) (fun h5 => ?_)
  ·skip
   refine RQ.gt rfl rfl rfl rfl (V.field rfl rfl rfl rfl (by decide) rfl) ?_
   refine RQ.gt rfl rfl rfl rfl (V.loadPrim (d := I l.start) rfl rfl (.inl rfl) rfl rfl rfl) ?_
   refine RQ.gt rfl rfl rfl rfl (V.loadAgg rfl rfl rfl rfl rfl (Nat.le_of_ble_eq_true rfl)) ?_
   refine RQ.guardT rfl rfl rfl rfl (QOK.call (spec_l06Last_fn l) rfl (.cons (.agg (.cons (.r .r) (.cons (.r .r) (.cons (.r .r) (.nil))))) (.nil)) ?_)
   refine RQ.guardT rfl rfl rfl rfl (QOK.call (spec_l01In_fn b l.start (IntKind.i64.wrap (l.start + (l.entries.length : Int)))) rfl (.cons (.one (.r .r)) (.cons (.one (.r .r)) (.cons (.one (.r .r)) (.nil)))) ?_)
   refine RQ.v rfl (V.pickT (d := Bo (inR b l.start (IntKind.i64.wrap (l.start + (l.entries.length : Int))))) rfl rfl rfl) ?_
   refine RQ.v rfl (V.mv (d := Bo (inR b l.start (IntKind.i64.wrap (l.start + (l.entries.length : Int))))) rfl rfl) ?_
   refine RQ.gv rfl rfl rfl rfl (fun h6 => V.loadAgg rfl rfl rfl rfl rfl (Nat.le_of_ble_eq_true rfl)) (fun h6 => ?_) (fun h6 => ?_)
   ·skip
    refine RQ.gt rfl rfl rfl rfl (V.mv (d := I b) rfl rfl) ?_
    refine RQ.guardT rfl rfl rfl rfl (QOK.call (spec_LogTerm_fn l b (logOk_hs (by first | exact h6 | grind)) hi) rfl (.cons (.agg (.cons (.r .r) (.cons (.r .r) (.cons (.r .r) (.nil))))) (.cons (.one (.r .r)) (.nil))) ?_)
    refine RQ.gt rfl rfl rfl rfl (V.mv (d := I t) rfl rfl) ?_
    refine RQ.gt rfl rfl rfl rfl (V.cmpInt rfl rfl rfl rfl) ?_
    refine RQ.v rfl (V.pickT (d := Bo ((logTerm l b) == t)) rfl rfl rfl) ?_
    refine RQ.nil ?_
    exact ⟨_, by first | rfl | (simp_all; done) | (simp_all; omega) | grind, rfl, Le.c rfl <| Le.c rfl <| Le.c rfl <| Le.c rfl <| Le.c rfl <| Le.e⟩
   ·skip
    refine RQ.guardF rfl rfl rfl rfl ?_
    refine RQ.guardF rfl rfl rfl rfl ?_
    refine RQ.guardF rfl rfl rfl rfl ?_
    refine RQ.guardF rfl rfl rfl rfl ?_
    refine RQ.v rfl (V.pickF (d := Bo false) rfl rfl rfl) ?_
    refine RQ.nil ?_
    exact ⟨_, by first | rfl | (simp_all; done) | (simp_all; omega) | grind, rfl, Le.c rfl <| Le.c rfl <| Le.c rfl <| Le.c rfl <| Le.c rfl <| Le.e⟩
  ·skip
   refine RQ.guardF rfl rfl rfl rfl ?_
   refine RQ.guardF rfl rfl rfl rfl ?_
   refine RQ.guardF rfl rfl rfl rfl ?_
   refine RQ.guardF rfl rfl rfl rfl ?_
   refine RQ.guardF rfl rfl rfl rfl ?_
   refine RQ.v rfl (V.pickF (d := Bo false) rfl rfl rfl) ?_
   refine RQ.v rfl (V.mv (d := Bo false) rfl rfl) ?_
   refine RQ.guardF rfl rfl rfl rfl ?_
   refine RQ.guardF rfl rfl rfl rfl ?_
   refine RQ.guardF rfl rfl rfl rfl ?_
   refine RQ.guardF rfl rfl rfl rfl ?_
   refine RQ.guardF rfl rfl rfl rfl ?_
   refine RQ.v rfl (V.pickF (d := Bo false) rfl rfl rfl) ?_
   refine RQ.nil ?_
   exact ⟨_, by first | rfl | (simp_all; done) | (simp_all; omega) | grind, rfl, Le.c rfl <| Le.c rfl <| Le.c rfl <| Le.c rfl <| Le.c rfl <| Le.e⟩
 ·intro v4 hv7
  refine CW.cond rfl (fun h8 => ?_) (fun h8 => ?_)
  ·skip
   have hl : logOk l = true := by rw [hv7] at h8; simp at h8; exact h8.1.1
   have hs := logOk_hs hl
   have hr : l.start ≤ b ∧ b ≤ l.start + (l.entries.length : Int) := by rw [hv7, lb_spec] at h8; simp [inR] at h8; omega
   have ht : (logTerm l b == t) = true := by rw [hv7] at h8; simp at h8; simpa using h8.2
   refine CW.region ?_
   refine RW.build0 Entry.c rfl rfl rfl rfl rfl fun X9 => ?_
   refine RW.v rfl (V.field rfl rfl rfl rfl (by decide) rfl) ?_
   refine RW.v rfl (V.loadPrim (d := .r (sl 3 Entry.c l.entries)) rfl rfl (.inr ⟨_, rfl⟩) rfl rfl rfl) ?_
   refine RW.v rfl (V.mv (d := I b) rfl rfl) ?_
   refine RW.v rfl (V.field rfl rfl rfl rfl (by decide) rfl) ?_
   refine RW.v rfl (V.loadPrim (d := I l.start) rfl rfl (.inl rfl) rfl rfl rfl) ?_
   refine RW.v rfl (V.arInt rfl rfl rfl rfl) ?_
   refine RW.v rfl (V.dropS (m := (b - l.start).toNat) rfl rfl rfl rfl rfl rfl (by rw [IntKind.wrap_i64]; omega) Entry.len (by omega)) ?_
   refine RW.appendSR (c := Entry.c) (l1 := ([] : List Entry)) (l2 := (l.entries.drop (b - l.start).toNat)) rfl rfl rfl rfl rfl rfl rfl rfl .r (by decide) (Nat.le_of_ble_eq_true rfl) Entry.len (fun _ => rfl) rfl (by have h9 := hok.1; have h8 : (l.entries.drop (b - l.start).toNat).length ≤ l.entries.length := (by rw [List.length_drop]; omega); simp only [maxLen, List.length_nil]; omega) (by have h9 := hok.1; have h8 : (l.entries.drop (b - l.start).toNat).length ≤ l.entries.length := (by rw [List.length_drop]; omega); simp only [maxLen, List.length_nil]; omega) fun X10 => ?_
   refine RW.v rfl (V.field rfl rfl rfl rfl (by decide) rfl) ?_
   refine RW.store (d := .al 36 none 3 ((([] : List Entry) ++ (l.entries.drop (b - l.start).toNat)).length) X10 0) rfl rfl rfl rfl rfl rfl rfl (Nat.le_of_ble_eq_true rfl) rfl rfl ?_
   refine RW.le [(6, .obj b2 [I 0, I 0, .r (.v (.slice none 0 0))]), (7, .obj b3 [I b, I t, .al 36 none 3 ((([] : List Entry) ++ (l.entries.drop (b - l.start).toNat)).length) X10 0]), (36, .w (sl 3 Entry.c (([] : List Entry) ++ (l.entries.drop (b - l.start).toNat))) X10)] rfl (Le.of rfl) ?_
   refine RW.pullT (k := 7) (l := 36) (j := 2) 7 36 2 rfl rfl rfl (by decide) rfl rfl rfl ?_
   refine RW.le [(6, .obj b2 [I 0, I 0, .r (.v (.slice none 0 0))]), (7, .obj b3 [I b, I t, .w (sl 3 Entry.c (([] : List Entry) ++ (l.entries.drop (b - l.start).toNat))) X10])] rfl (Le.of rfl) ?_
   refine RW.nil ?_
   refine CW.le [(6, .obj b2 [I 0, I 0, .r (.v (.slice none 0 0))]), (7, .obj b3 [I b, I t, .w (sl 3 Entry.c (([] : List Entry) ++ (l.entries.drop (b - l.start).toNat))) X10])] rfl (Le.of rfl) ?_
   refine CW.seq ?_
   refine CW.region ?_
   refine RW.v rfl (V.loadAgg rfl rfl rfl rfl rfl (Nat.le_of_ble_eq_true rfl)) ?_
   refine RW.storeAgg (es := [I b, I t, .al 7 (some 2) 3 ((([] : List Entry) ++ (l.entries.drop (b - l.start).toNat)).length) X10 0]) rfl rfl rfl rfl rfl rfl rfl rfl (Nat.le_of_ble_eq_true rfl) rfl ?_
   refine RW.le [(6, .obj b2 [I b, I t, .al 7 (some 2) 3 ((([] : List Entry) ++ (l.entries.drop (b - l.start).toNat)).length) X10 0]), (7, .obj b3 [I b, I t, .w (sl 3 Entry.c (([] : List Entry) ++ (l.entries.drop (b - l.start).toNat))) X10])] rfl (Le.of rfl) ?_
   refine RW.pullO (k := 6) (l := 7) (j := 2) 6 7 2 rfl rfl rfl (by decide) rfl rfl rfl rfl ?_
   refine RW.le [(6, .obj b2 [I b, I t, .w (sl 3 Entry.c (([] : List Entry) ++ (l.entries.drop (b - l.start).toNat))) X10])] rfl (Le.of rfl) ?_
   refine RW.nil ?_
   refine CW.le [(6, .obj b2 [I b, I t, .w (sl 3 Entry.c (([] : List Entry) ++ (l.entries.drop (b - l.start).toNat))) X10])] rfl (Le.of rfl) ?_
   refine CW.ret ?_
   exact Post.one (RV.c (f := fun e => (Log.c e).map .w) (e' := (⟨b, t, (([] : List Entry) ++ (l.entries.drop (b - l.start).toNat))⟩ : Log)) rfl rfl rfl rfl (DT.v (DT.v (DT.w DT.e))) (by rw [lb_yes hl hr ht]; rfl)) (AOs.a rfl (AOs.r (AOs.r AOs.e)))
  ·skip
   refine CW.skip ?_
   refine CW.le [(6, .obj b2 [I 0, I 0, .r (.v (.slice none 0 0))]), (7, .obj b3 [I b, I t, .r (.v (.slice none 0 0))])] rfl (Le.of rfl) ?_
   refine CW.seq ?_
   refine CW.region ?_
   refine RW.v rfl (V.loadAgg rfl rfl rfl rfl rfl (Nat.le_of_ble_eq_true rfl)) ?_
   refine RW.storeAgg (es := [I b, I t, .r (.v (.slice none 0 0))]) rfl rfl rfl rfl rfl rfl rfl rfl (Nat.le_of_ble_eq_true rfl) rfl ?_
   refine RW.nil ?_
   refine CW.le [(6, .obj b2 [I b, I t, .r (.v (.slice none 0 0))])] rfl (Le.of rfl) ?_
   refine CW.ret ?_
   exact Post.one (RV.c (f := fun e => (Log.c e).map .w) (e' := (⟨b, t, []⟩ : Log)) rfl rfl rfl rfl (DT.v (DT.v (DT.n DT.e))) (by rw [lb_no (by rw [← lb_spec, ← hv7]; exact h8)])) (AOs.a rfl (AOs.r (AOs.r AOs.e)))
end Go.Proofs.Ytbiocicogminlaa.Y
