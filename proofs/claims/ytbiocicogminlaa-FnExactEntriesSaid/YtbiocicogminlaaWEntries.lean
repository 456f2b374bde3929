import Derived.Test.YtbiocicogminlaaWEntriesA
namespace Go.Proofs.Ytbiocicogminlaa.Y
open Go Go.RowKit Go.Eng Go.Proofs
set_option maxHeartbeats 4000000 in
theorem laws_heldEntryS_fn (a : List Entry) (k : Int) (hk : k ≤ 9223372036854775807) : Eng.Fn E.P 18 [.one (.r (sl 3 Entry.c a)), .one (.r (.v (.int .i64 k)))] (.one (.one (.w (.v (.int .i64 ((hdL hdEEntry a k).getD (-1))))))) [.one (.r (sl 3 Entry.c a)), .one (.r (.v (.int .i64 k)))] := by
  refine Eng.Fn.intro (E := E) (rvs := [.tmp 4]) Try.func18 rfl rfl rfl (by simp [outSlots, moved, rvSlot, sl]) ?_
  intro B g bo
  refine CW.bound (x := .tmp 0) (n := a.length) (AsT.r) (fun hl0 => ?_)
  refine CW.le [(0, .r (sl 3 Entry.c a)), (1, I k)] rfl (Le.c rfl <| Le.c rfl <| Le.e) ?_
  refine CW.seq ?_
  refine CW.region ?_
  refine RW.v rfl (V.as (d := I 0) rfl rfl) ?_
  refine RW.nil ?_
  refine CW.le [(0, .r (sl 3 Entry.c a)), (1, I k)] rfl (Le.c rfl <| Le.c rfl <| Le.e) ?_
  refine CW.seq ?_
  refine CW.seq ?_
  refine CW.region ?_
  refine RW.v rfl (V.as (d := I 0) rfl rfl) ?_
  refine RW.nil ?_
  refine CW.le [(0, .r (sl 3 Entry.c a)), (1, I k), (5, I 0)] rfl (Le.c rfl <| Le.c rfl <| Le.c rfl <| Le.e) ?_
  refine CW.block ?_
  refine CW.loopI 41 (fun (x : Nat × Int) => match x with | (i, l) => [(0, .r (sl 3 Entry.c a)), (1, I l), (5, I (i : Int))]) (fun (x : Nat × Int) => match x with | (i, l) => i ≤ a.length ∧ l ≤ 9223372036854775807 ∧ hdL hdEEntry (a.drop i) l = hdL hdEEntry a k) (fun (x : Nat × Int) => match x with | (i, l) => a.length - i) (0, _) rfl (Le.c rfl <| Le.c rfl <| Le.c rfl <| Le.e) ⟨by omega, hk, by simp⟩ ?_
  rintro ⟨i, l⟩ ⟨hb, hlk, hr⟩
  refine CW.seq ?_
  refine CW.seq ?_
  refine CW.region ?_
  refine RW.v rfl (V.mv (d := I (i : Int)) rfl rfl) ?_
  refine RW.v rfl (V.mv (d := .r (sl 3 Entry.c a)) rfl rfl) ?_
  refine RW.v rfl (V.lenT (n := a.length) rfl rfl rfl .r) ?_
  refine RW.v rfl (V.cmpInt rfl rfl rfl rfl) ?_
  refine RW.nil ?_
  refine CW.le [(0, .r (sl 3 Entry.c a)), (1, I l), (5, I (i : Int)), (9, Bo (decide ((i : Int) < (a.length : Int))))] rfl (Le.c rfl <| Le.c rfl <| Le.c rfl <| Le.c rfl <| Le.e) ?_
  refine CW.cond rfl (fun h1 => ?_) (fun h1 => ?_)
  · skip
    have hii : i < a.length := by have := h1; simp at this; first | exact this | (simp; omega)
    obtain ⟨ei, hei⟩ : ∃ e, a[i]? = some e := ⟨_, List.getElem?_eq_getElem hii⟩
    have hdi := drop_get hei
    refine CW.skip ?_
    refine CW.le [(0, .r (sl 3 Entry.c a)), (1, I l), (5, I (i : Int))] rfl (Le.c rfl <| Le.c rfl <| Le.c rfl <| Le.e) ?_
    refine CW.seq ?_
    refine CW.block ?_
    refine CW.seq ?_
    refine CW.seq ?_
    refine CW.region ?_
    refine RW.v rfl (V.mv (d := .r (sl 3 Entry.c a)) rfl rfl) ?_
    refine RW.v rfl (V.mv (d := I (i : Int)) rfl rfl) ?_
    refine RW.v rfl (V.indexS rfl rfl rfl rfl rfl rfl Entry.len hei) ?_
    refine RW.v rfl (V.fieldR rfl rfl rfl rfl (by decide) rfl (Nat.le_of_ble_eq_true rfl)) ?_
    refine RW.v rfl (V.loadPrimR (t0 := .v (.int .i64 ei.term_)) rfl rfl (.inl rfl) rfl rfl) ?_
    refine RW.v rfl (V.mv (d := I l) rfl rfl) ?_
    refine RW.v rfl (V.cmpInt rfl rfl rfl rfl) ?_
    refine RW.nil ?_
    refine CW.le [(0, .r (sl 3 Entry.c a)), (1, I l), (5, I (i : Int)), (18, Bo (ei.term_ != l))] rfl (Le.c rfl <| Le.c rfl <| Le.c rfl <| Le.c rfl <| Le.e) ?_
    refine CW.cond rfl (fun h2 => ?_) (fun h2 => ?_)
    · skip
      refine CW.seq ?_
      refine CW.region ?_
      refine RW.v rfl (V.as (d := I (-1)) rfl rfl) ?_
      refine RW.nil ?_
      refine CW.le [(4, I (-1))] rfl (Le.c rfl <| Le.e) ?_
      refine CW.ret ?_
      exact Post.one (RV.i rfl (by rw [← hr, hdi]; clear hr; first | rfl | (simp_all [hdL, hdEEntry, hdI, hdS, inc]; done) | grind [hdL, hdEEntry, hdI, hdS, inc])) (AOs.r (AOs.r AOs.e))
    · skip
      refine CW.skip ?_
      refine CW.le [(0, .r (sl 3 Entry.c a)), (1, I l), (5, I (i : Int))] rfl (Le.c rfl <| Le.c rfl <| Le.c rfl <| Le.e) ?_
      refine CW.seq ?_
      refine CW.region ?_
      refine RW.v rfl (V.mv (d := I l) rfl rfl) ?_
      refine RW.v rfl (V.arInt rfl rfl rfl rfl) ?_
      refine RW.v rfl (V.as (d := I (IntKind.i64.wrap (l + 1))) rfl rfl) ?_
      refine RW.nil ?_
      refine CW.le [(0, .r (sl 3 Entry.c a)), (1, I (IntKind.i64.wrap (l + 1))), (5, I (i : Int))] rfl (Le.c rfl <| Le.c rfl <| Le.c rfl <| Le.e) ?_
      refine CW.seq ?_
      refine CW.seq ?_
      refine CW.region ?_
      refine RW.v rfl (V.mv (d := .r (sl 3 Entry.c a)) rfl rfl) ?_
      refine RW.v rfl (V.mv (d := I (i : Int)) rfl rfl) ?_
      refine RW.v rfl (V.indexS rfl rfl rfl rfl rfl rfl Entry.len hei) ?_
      refine RW.v rfl (V.fieldR rfl rfl rfl rfl (by decide) rfl (Nat.le_of_ble_eq_true rfl)) ?_
      refine RW.v rfl (V.loadPrimR (t0 := .v (.int .i64 ei.kind)) rfl rfl (.inl rfl) rfl rfl) ?_
      refine RW.v rfl (V.mv (d := I (IntKind.i64.wrap (l + 1))) rfl rfl) ?_
      refine RW.v rfl (V.cmpInt rfl rfl rfl rfl) ?_
      refine RW.nil ?_
      refine CW.le [(0, .r (sl 3 Entry.c a)), (1, I (IntKind.i64.wrap (l + 1))), (5, I (i : Int)), (27, Bo (ei.kind != (IntKind.i64.wrap (l + 1))))] rfl (Le.c rfl <| Le.c rfl <| Le.c rfl <| Le.c rfl <| Le.e) ?_
      refine CW.cond rfl (fun h3 => ?_) (fun h3 => ?_)
      · skip
        refine CW.seq ?_
        refine CW.region ?_
        refine RW.v rfl (V.as (d := I (-1)) rfl rfl) ?_
        refine RW.nil ?_
        refine CW.le [(4, I (-1))] rfl (Le.c rfl <| Le.e) ?_
        refine CW.ret ?_
        exact Post.one (RV.i rfl (by rw [← hr, hdi]; clear hr; first | rfl | (simp_all [hdL, hdEEntry, hdI, hdS, inc]; done) | grind [hdL, hdEEntry, hdI, hdS, inc])) (AOs.r (AOs.r AOs.e))
      · skip
        refine CW.skip ?_
        refine CW.le [(0, .r (sl 3 Entry.c a)), (1, I (IntKind.i64.wrap (l + 1))), (5, I (i : Int))] rfl (Le.c rfl <| Le.c rfl <| Le.c rfl <| Le.e) ?_
        refine CW.seq ?_
        refine CW.region ?_
        refine RW.v rfl (V.mv (d := I (IntKind.i64.wrap (l + 1))) rfl rfl) ?_
        refine RW.v rfl (V.arInt rfl rfl rfl rfl) ?_
        refine RW.v rfl (V.as (d := I (IntKind.i64.wrap ((IntKind.i64.wrap (l + 1)) + 1))) rfl rfl) ?_
        refine RW.nil ?_
        refine CW.le [(0, .r (sl 3 Entry.c a)), (1, I (IntKind.i64.wrap ((IntKind.i64.wrap (l + 1)) + 1))), (5, I (i : Int))] rfl (Le.c rfl <| Le.c rfl <| Le.c rfl <| Le.e) ?_
        refine CW.seq ?_
        refine CW.seq ?_
        refine CW.any ?_
        refine RA.step (L := [0, 1, 5]) (by kernel_rfl) (by simp) (RA.each ?_ (RA.each ?_ (RA.each ?_ (RA.each0))))
        · skip
          refine RO.v (ls' := #[true, false, false, false, false, false, false, false]) rfl rfl (V.mv (d := .r (sl 3 Entry.c a)) rfl rfl) rfl ?_
          refine RA.step (L := [1, 5]) (by kernel_rfl) (by simp) (RA.each ?_ (RA.each ?_ (RA.each0)))
          · skip
            refine RO.v (ls' := #[true, true, false, false, false, false, false, false]) rfl rfl (V.mv (d := I (i : Int)) rfl rfl) rfl ?_
            refine RA.step (L := [2, 5]) (by kernel_rfl) (by simp) (RA.each ?_ (RA.each ?_ (RA.each0)))
            · skip
              refine RO.v (ls' := #[true, true, true, false, false, false, false, false]) rfl rfl (V.indexS rfl rfl rfl rfl rfl rfl Entry.len hei) rfl ?_
              refine RA.step (L := [3, 5]) (by kernel_rfl) (by simp) (RA.each ?_ (RA.each ?_ (RA.each0)))
              · skip
                refine RO.v (ls' := #[true, true, true, true, false, false, false, false]) rfl rfl (V.fieldR rfl rfl rfl rfl (by decide) rfl (Nat.le_of_ble_eq_true rfl)) rfl ?_
                refine RA.step (L := [4, 5]) (by kernel_rfl) (by simp) (RA.each ?_ (RA.each ?_ (RA.each0)))
                · skip
                  refine RO.v (ls' := #[true, true, true, true, true, false, false, false]) rfl rfl (V.loadPrimR (t0 := .v (.string ei.data)) rfl rfl (.inl rfl) rfl rfl) rfl ?_
                  refine RA.step (L := [5]) (by kernel_rfl) (by simp) (RA.each ?_ (RA.each0))
                  · skip
                    refine RO.v (ls' := #[true, true, true, true, true, true, false, false]) rfl rfl (V.mv (d := I (IntKind.i64.wrap ((IntKind.i64.wrap (l + 1)) + 1))) rfl rfl) rfl ?_
                    refine RA.step (L := [6]) (by kernel_rfl) (by simp) (RA.each ?_ (RA.each0))
                    · skip
                      refine RO.call (ls' := #[true, true, true, true, true, true, true, false]) rfl rfl (laws_markText_fn (IntKind.i64.wrap ((IntKind.i64.wrap (l + 1)) + 1)) (by first | exact hlk | exact wrap_le _)) rfl (.cons (.one (.r .r)) (.nil)) rfl fun g4 => ?_
                      refine RA.step (L := [7]) (by kernel_rfl) (by simp) (RA.each ?_ (RA.each0))
                      · skip
                        refine RO.v (ls' := #[true, true, true, true, true, true, true, true]) rfl rfl (V.strCmp rfl rfl rfl rfl) rfl ?_
                        refine RA.fin (by kernel_rfl) ?_
                        refine CW.le [(0, .r (sl 3 Entry.c a)), (1, I (IntKind.i64.wrap ((IntKind.i64.wrap (l + 1)) + 1))), (5, I (i : Int)), (37, Bo (!(ei.data.toList == (mtext (IntKind.i64.wrap ((IntKind.i64.wrap (l + 1)) + 1))).toList)))] rfl (Le.c rfl <| Le.c rfl <| Le.c rfl <| Le.c rfl <| Le.e) ?_
                        refine CW.cond rfl (fun h5 => ?_) (fun h5 => ?_)
                        · skip
                          refine CW.seq ?_
                          refine CW.region ?_
                          refine RW.v rfl (V.as (d := I (-1)) rfl rfl) ?_
                          refine RW.nil ?_
                          refine CW.le [(4, I (-1))] rfl (Le.c rfl <| Le.e) ?_
                          refine CW.ret ?_
                          exact Post.one (RV.i rfl (by rw [← hr, hdi]; clear hr; first | rfl | (simp_all [hdL, hdEEntry, hdI, hdS, inc]; done) | grind [hdL, hdEEntry, hdI, hdS, inc])) (AOs.r (AOs.r AOs.e))
                        · skip
                          refine CW.skip ?_
                          refine CW.le [(0, .r (sl 3 Entry.c a)), (1, I (IntKind.i64.wrap ((IntKind.i64.wrap (l + 1)) + 1))), (5, I (i : Int))] rfl (Le.c rfl <| Le.c rfl <| Le.c rfl <| Le.e) ?_
                          refine CW.region ?_
                          refine RW.v rfl (V.mv (d := I (IntKind.i64.wrap ((IntKind.i64.wrap (l + 1)) + 1))) rfl rfl) ?_
                          refine RW.v rfl (V.arInt rfl rfl rfl rfl) ?_
                          refine RW.v rfl (V.as (d := I (IntKind.i64.wrap ((IntKind.i64.wrap ((IntKind.i64.wrap (l + 1)) + 1)) + 1))) rfl rfl) ?_
                          refine RW.nil ?_
                          refine CW.le [(0, .r (sl 3 Entry.c a)), (1, I (IntKind.i64.wrap ((IntKind.i64.wrap ((IntKind.i64.wrap (l + 1)) + 1)) + 1))), (5, I (i : Int))] rfl (Le.c rfl <| Le.c rfl <| Le.c rfl <| Le.e) ?_
                          refine CW.region ?_
                          refine RW.v rfl (V.mv (d := I (i : Int)) rfl rfl) ?_
                          refine RW.v rfl (V.inc rfl rfl rfl hii hl0) ?_
                          refine RW.v rfl (V.as (d := I ((i + 1 : Nat) : Int)) rfl rfl) ?_
                          refine RW.nil ?_
                          exact ⟨(i + 1, _), by simp only []; omega, ⟨by omega, by first | exact wrap_le _ | omega, by rw [← hr, hdi]; clear hr; first | rfl | (simp_all [hdL, hdEEntry, hdI, hdS, inc]; done) | grind [hdL, hdEEntry, hdI, hdS, inc]⟩, rfl, Le.c rfl <| Le.c rfl <| Le.c rfl <| Le.e⟩
                · skip
                  refine RO.v (ls' := #[true, true, true, true, false, true, false, false]) rfl rfl (V.mv (d := I (IntKind.i64.wrap ((IntKind.i64.wrap (l + 1)) + 1))) rfl rfl) rfl ?_
                  refine RA.step (L := [4, 6]) (by kernel_rfl) (by simp) (RA.each ?_ (RA.each ?_ (RA.each0)))
                  · skip
                    refine RO.v (ls' := #[true, true, true, true, true, true, false, false]) rfl rfl (V.loadPrimR (t0 := .v (.string ei.data)) rfl rfl (.inl rfl) rfl rfl) rfl ?_
                    refine RA.step (L := [6]) (by kernel_rfl) (by simp) (RA.each ?_ (RA.each0))
                    · skip
                      refine RO.call (ls' := #[true, true, true, true, true, true, true, false]) rfl rfl (laws_markText_fn (IntKind.i64.wrap ((IntKind.i64.wrap (l + 1)) + 1)) (by first | exact hlk | exact wrap_le _)) rfl (.cons (.one (.r .r)) (.nil)) rfl fun g6 => ?_
                      refine RA.step (L := [7]) (by kernel_rfl) (by simp) (RA.each ?_ (RA.each0))
                      · skip
                        refine RO.v (ls' := #[true, true, true, true, true, true, true, true]) rfl rfl (V.strCmp rfl rfl rfl rfl) rfl ?_
                        refine RA.fin (by kernel_rfl) ?_
                        refine CW.le [(0, .r (sl 3 Entry.c a)), (1, I (IntKind.i64.wrap ((IntKind.i64.wrap (l + 1)) + 1))), (5, I (i : Int)), (37, Bo (!(ei.data.toList == (mtext (IntKind.i64.wrap ((IntKind.i64.wrap (l + 1)) + 1))).toList)))] rfl (Le.c rfl <| Le.c rfl <| Le.c rfl <| Le.c rfl <| Le.e) ?_
                        refine CW.cond rfl (fun h7 => ?_) (fun h7 => ?_)
                        · skip
                          refine CW.seq ?_
                          refine CW.region ?_
                          refine RW.v rfl (V.as (d := I (-1)) rfl rfl) ?_
                          refine RW.nil ?_
                          refine CW.le [(4, I (-1))] rfl (Le.c rfl <| Le.e) ?_
                          refine CW.ret ?_
                          exact Post.one (RV.i rfl (by rw [← hr, hdi]; clear hr; first | rfl | (simp_all [hdL, hdEEntry, hdI, hdS, inc]; done) | grind [hdL, hdEEntry, hdI, hdS, inc])) (AOs.r (AOs.r AOs.e))
                        · skip
                          refine CW.skip ?_
                          refine CW.le [(0, .r (sl 3 Entry.c a)), (1, I (IntKind.i64.wrap ((IntKind.i64.wrap (l + 1)) + 1))), (5, I (i : Int))] rfl (Le.c rfl <| Le.c rfl <| Le.c rfl <| Le.e) ?_
                          refine CW.region ?_
                          refine RW.v rfl (V.mv (d := I (IntKind.i64.wrap ((IntKind.i64.wrap (l + 1)) + 1))) rfl rfl) ?_
                          refine RW.v rfl (V.arInt rfl rfl rfl rfl) ?_
                          refine RW.v rfl (V.as (d := I (IntKind.i64.wrap ((IntKind.i64.wrap ((IntKind.i64.wrap (l + 1)) + 1)) + 1))) rfl rfl) ?_
                          refine RW.nil ?_
                          refine CW.le [(0, .r (sl 3 Entry.c a)), (1, I (IntKind.i64.wrap ((IntKind.i64.wrap ((IntKind.i64.wrap (l + 1)) + 1)) + 1))), (5, I (i : Int))] rfl (Le.c rfl <| Le.c rfl <| Le.c rfl <| Le.e) ?_
                          refine CW.region ?_
                          refine RW.v rfl (V.mv (d := I (i : Int)) rfl rfl) ?_
                          refine RW.v rfl (V.inc rfl rfl rfl hii hl0) ?_
                          refine RW.v rfl (V.as (d := I ((i + 1 : Nat) : Int)) rfl rfl) ?_
                          refine RW.nil ?_
                          exact ⟨(i + 1, _), by simp only []; omega, ⟨by omega, by first | exact wrap_le _ | omega, by rw [← hr, hdi]; clear hr; first | rfl | (simp_all [hdL, hdEEntry, hdI, hdS, inc]; done) | grind [hdL, hdEEntry, hdI, hdS, inc]⟩, rfl, Le.c rfl <| Le.c rfl <| Le.c rfl <| Le.e⟩
                  · skip
                    refine RO.call (ls' := #[true, true, true, true, false, true, true, false]) rfl rfl (laws_markText_fn (IntKind.i64.wrap ((IntKind.i64.wrap (l + 1)) + 1)) (by first | exact hlk | exact wrap_le _)) rfl (.cons (.one (.r .r)) (.nil)) rfl fun g8 => ?_
                    refine RA.step (L := [4]) (by kernel_rfl) (by simp) (RA.each ?_ (RA.each0))
                    · skip
                      refine RO.v (ls' := #[true, true, true, true, true, true, true, false]) rfl rfl (V.loadPrimR (t0 := .v (.string ei.data)) rfl rfl (.inl rfl) rfl rfl) rfl ?_
                      refine RA.step (L := [7]) (by kernel_rfl) (by simp) (RA.each ?_ (RA.each0))
                      · skip
                        refine RO.v (ls' := #[true, true, true, true, true, true, true, true]) rfl rfl (V.strCmp rfl rfl rfl rfl) rfl ?_
                        refine RA.fin (by kernel_rfl) ?_
                        refine CW.le [(0, .r (sl 3 Entry.c a)), (1, I (IntKind.i64.wrap ((IntKind.i64.wrap (l + 1)) + 1))), (5, I (i : Int)), (37, Bo (!(ei.data.toList == (mtext (IntKind.i64.wrap ((IntKind.i64.wrap (l + 1)) + 1))).toList)))] rfl (Le.c rfl <| Le.c rfl <| Le.c rfl <| Le.c rfl <| Le.e) ?_
                        refine CW.cond rfl (fun h9 => ?_) (fun h9 => ?_)
                        · skip
                          refine CW.seq ?_
                          refine CW.region ?_
                          refine RW.v rfl (V.as (d := I (-1)) rfl rfl) ?_
                          refine RW.nil ?_
                          refine CW.le [(4, I (-1))] rfl (Le.c rfl <| Le.e) ?_
                          refine CW.ret ?_
                          exact Post.one (RV.i rfl (by rw [← hr, hdi]; clear hr; first | rfl | (simp_all [hdL, hdEEntry, hdI, hdS, inc]; done) | grind [hdL, hdEEntry, hdI, hdS, inc])) (AOs.r (AOs.r AOs.e))
                        · skip
                          refine CW.skip ?_
                          refine CW.le [(0, .r (sl 3 Entry.c a)), (1, I (IntKind.i64.wrap ((IntKind.i64.wrap (l + 1)) + 1))), (5, I (i : Int))] rfl (Le.c rfl <| Le.c rfl <| Le.c rfl <| Le.e) ?_
                          refine CW.region ?_
                          refine RW.v rfl (V.mv (d := I (IntKind.i64.wrap ((IntKind.i64.wrap (l + 1)) + 1))) rfl rfl) ?_
                          refine RW.v rfl (V.arInt rfl rfl rfl rfl) ?_
                          refine RW.v rfl (V.as (d := I (IntKind.i64.wrap ((IntKind.i64.wrap ((IntKind.i64.wrap (l + 1)) + 1)) + 1))) rfl rfl) ?_
                          refine RW.nil ?_
                          refine CW.le [(0, .r (sl 3 Entry.c a)), (1, I (IntKind.i64.wrap ((IntKind.i64.wrap ((IntKind.i64.wrap (l + 1)) + 1)) + 1))), (5, I (i : Int))] rfl (Le.c rfl <| Le.c rfl <| Le.c rfl <| Le.e) ?_
                          refine CW.region ?_
                          refine RW.v rfl (V.mv (d := I (i : Int)) rfl rfl) ?_
                          refine RW.v rfl (V.inc rfl rfl rfl hii hl0) ?_
                          refine RW.v rfl (V.as (d := I ((i + 1 : Nat) : Int)) rfl rfl) ?_
                          refine RW.nil ?_
                          exact ⟨(i + 1, _), by simp only []; omega, ⟨by omega, by first | exact wrap_le _ | omega, by rw [← hr, hdi]; clear hr; first | rfl | (simp_all [hdL, hdEEntry, hdI, hdS, inc]; done) | grind [hdL, hdEEntry, hdI, hdS, inc]⟩, rfl, Le.c rfl <| Le.c rfl <| Le.c rfl <| Le.e⟩
              · skip
                refine RO.v (ls' := #[true, true, true, false, false, true, false, false]) rfl rfl (V.mv (d := I (IntKind.i64.wrap ((IntKind.i64.wrap (l + 1)) + 1))) rfl rfl) rfl ?_
                refine RA.step (L := [3, 6]) (by kernel_rfl) (by simp) (RA.each ?_ (RA.each ?_ (RA.each0)))
                · skip
                  refine RO.v (ls' := #[true, true, true, true, false, true, false, false]) rfl rfl (V.fieldR rfl rfl rfl rfl (by decide) rfl (Nat.le_of_ble_eq_true rfl)) rfl ?_
                  refine RA.step (L := [4, 6]) (by kernel_rfl) (by simp) (RA.each ?_ (RA.each ?_ (RA.each0)))
                  · skip
                    refine RO.v (ls' := #[true, true, true, true, true, true, false, false]) rfl rfl (V.loadPrimR (t0 := .v (.string ei.data)) rfl rfl (.inl rfl) rfl rfl) rfl ?_
                    refine RA.step (L := [6]) (by kernel_rfl) (by simp) (RA.each ?_ (RA.each0))
                    · skip
                      refine RO.call (ls' := #[true, true, true, true, true, true, true, false]) rfl rfl (laws_markText_fn (IntKind.i64.wrap ((IntKind.i64.wrap (l + 1)) + 1)) (by first | exact hlk | exact wrap_le _)) rfl (.cons (.one (.r .r)) (.nil)) rfl fun g10 => ?_
                      refine RA.step (L := [7]) (by kernel_rfl) (by simp) (RA.each ?_ (RA.each0))
                      · skip
                        refine RO.v (ls' := #[true, true, true, true, true, true, true, true]) rfl rfl (V.strCmp rfl rfl rfl rfl) rfl ?_
                        refine RA.fin (by kernel_rfl) ?_
                        refine CW.le [(0, .r (sl 3 Entry.c a)), (1, I (IntKind.i64.wrap ((IntKind.i64.wrap (l + 1)) + 1))), (5, I (i : Int)), (37, Bo (!(ei.data.toList == (mtext (IntKind.i64.wrap ((IntKind.i64.wrap (l + 1)) + 1))).toList)))] rfl (Le.c rfl <| Le.c rfl <| Le.c rfl <| Le.c rfl <| Le.e) ?_
                        refine CW.cond rfl (fun h11 => ?_) (fun h11 => ?_)
                        · skip
                          refine CW.seq ?_
                          refine CW.region ?_
                          refine RW.v rfl (V.as (d := I (-1)) rfl rfl) ?_
                          refine RW.nil ?_
                          refine CW.le [(4, I (-1))] rfl (Le.c rfl <| Le.e) ?_
                          refine CW.ret ?_
                          exact Post.one (RV.i rfl (by rw [← hr, hdi]; clear hr; first | rfl | (simp_all [hdL, hdEEntry, hdI, hdS, inc]; done) | grind [hdL, hdEEntry, hdI, hdS, inc])) (AOs.r (AOs.r AOs.e))
                        · skip
                          refine CW.skip ?_
                          refine CW.le [(0, .r (sl 3 Entry.c a)), (1, I (IntKind.i64.wrap ((IntKind.i64.wrap (l + 1)) + 1))), (5, I (i : Int))] rfl (Le.c rfl <| Le.c rfl <| Le.c rfl <| Le.e) ?_
                          refine CW.region ?_
                          refine RW.v rfl (V.mv (d := I (IntKind.i64.wrap ((IntKind.i64.wrap (l + 1)) + 1))) rfl rfl) ?_
                          refine RW.v rfl (V.arInt rfl rfl rfl rfl) ?_
                          refine RW.v rfl (V.as (d := I (IntKind.i64.wrap ((IntKind.i64.wrap ((IntKind.i64.wrap (l + 1)) + 1)) + 1))) rfl rfl) ?_
                          refine RW.nil ?_
                          refine CW.le [(0, .r (sl 3 Entry.c a)), (1, I (IntKind.i64.wrap ((IntKind.i64.wrap ((IntKind.i64.wrap (l + 1)) + 1)) + 1))), (5, I (i : Int))] rfl (Le.c rfl <| Le.c rfl <| Le.c rfl <| Le.e) ?_
                          refine CW.region ?_
                          refine RW.v rfl (V.mv (d := I (i : Int)) rfl rfl) ?_
                          refine RW.v rfl (V.inc rfl rfl rfl hii hl0) ?_
                          refine RW.v rfl (V.as (d := I ((i + 1 : Nat) : Int)) rfl rfl) ?_
                          refine RW.nil ?_
                          exact ⟨(i + 1, _), by simp only []; omega, ⟨by omega, by first | exact wrap_le _ | omega, by rw [← hr, hdi]; clear hr; first | rfl | (simp_all [hdL, hdEEntry, hdI, hdS, inc]; done) | grind [hdL, hdEEntry, hdI, hdS, inc]⟩, rfl, Le.c rfl <| Le.c rfl <| Le.c rfl <| Le.e⟩
                  · skip
                    refine RO.call (ls' := #[true, true, true, true, false, true, true, false]) rfl rfl (laws_markText_fn (IntKind.i64.wrap ((IntKind.i64.wrap (l + 1)) + 1)) (by first | exact hlk | exact wrap_le _)) rfl (.cons (.one (.r .r)) (.nil)) rfl fun g12 => ?_
                    refine RA.step (L := [4]) (by kernel_rfl) (by simp) (RA.each ?_ (RA.each0))
                    · skip
                      refine RO.v (ls' := #[true, true, true, true, true, true, true, false]) rfl rfl (V.loadPrimR (t0 := .v (.string ei.data)) rfl rfl (.inl rfl) rfl rfl) rfl ?_
                      refine RA.step (L := [7]) (by kernel_rfl) (by simp) (RA.each ?_ (RA.each0))
                      · skip
                        refine RO.v (ls' := #[true, true, true, true, true, true, true, true]) rfl rfl (V.strCmp rfl rfl rfl rfl) rfl ?_
                        refine RA.fin (by kernel_rfl) ?_
                        refine CW.le [(0, .r (sl 3 Entry.c a)), (1, I (IntKind.i64.wrap ((IntKind.i64.wrap (l + 1)) + 1))), (5, I (i : Int)), (37, Bo (!(ei.data.toList == (mtext (IntKind.i64.wrap ((IntKind.i64.wrap (l + 1)) + 1))).toList)))] rfl (Le.c rfl <| Le.c rfl <| Le.c rfl <| Le.c rfl <| Le.e) ?_
                        refine CW.cond rfl (fun h13 => ?_) (fun h13 => ?_)
                        · skip
                          refine CW.seq ?_
                          refine CW.region ?_
                          refine RW.v rfl (V.as (d := I (-1)) rfl rfl) ?_
                          refine RW.nil ?_
                          refine CW.le [(4, I (-1))] rfl (Le.c rfl <| Le.e) ?_
                          refine CW.ret ?_
                          exact Post.one (RV.i rfl (by rw [← hr, hdi]; clear hr; first | rfl | (simp_all [hdL, hdEEntry, hdI, hdS, inc]; done) | grind [hdL, hdEEntry, hdI, hdS, inc])) (AOs.r (AOs.r AOs.e))
                        · skip
                          refine CW.skip ?_
                          refine CW.le [(0, .r (sl 3 Entry.c a)), (1, I (IntKind.i64.wrap ((IntKind.i64.wrap (l + 1)) + 1))), (5, I (i : Int))] rfl (Le.c rfl <| Le.c rfl <| Le.c rfl <| Le.e) ?_
                          refine CW.region ?_
                          refine RW.v rfl (V.mv (d := I (IntKind.i64.wrap ((IntKind.i64.wrap (l + 1)) + 1))) rfl rfl) ?_
                          refine RW.v rfl (V.arInt rfl rfl rfl rfl) ?_
                          refine RW.v rfl (V.as (d := I (IntKind.i64.wrap ((IntKind.i64.wrap ((IntKind.i64.wrap (l + 1)) + 1)) + 1))) rfl rfl) ?_
                          refine RW.nil ?_
                          refine CW.le [(0, .r (sl 3 Entry.c a)), (1, I (IntKind.i64.wrap ((IntKind.i64.wrap ((IntKind.i64.wrap (l + 1)) + 1)) + 1))), (5, I (i : Int))] rfl (Le.c rfl <| Le.c rfl <| Le.c rfl <| Le.e) ?_
                          refine CW.region ?_
                          refine RW.v rfl (V.mv (d := I (i : Int)) rfl rfl) ?_
                          refine RW.v rfl (V.inc rfl rfl rfl hii hl0) ?_
                          refine RW.v rfl (V.as (d := I ((i + 1 : Nat) : Int)) rfl rfl) ?_
                          refine RW.nil ?_
                          exact ⟨(i + 1, _), by simp only []; omega, ⟨by omega, by first | exact wrap_le _ | omega, by rw [← hr, hdi]; clear hr; first | rfl | (simp_all [hdL, hdEEntry, hdI, hdS, inc]; done) | grind [hdL, hdEEntry, hdI, hdS, inc]⟩, rfl, Le.c rfl <| Le.c rfl <| Le.c rfl <| Le.e⟩
                · skip
                  refine RO.call (ls' := #[true, true, true, false, false, true, true, false]) rfl rfl (laws_markText_fn (IntKind.i64.wrap ((IntKind.i64.wrap (l + 1)) + 1)) (by first | exact hlk | exact wrap_le _)) rfl (.cons (.one (.r .r)) (.nil)) rfl fun g14 => ?_
                  refine RA.step (L := [3]) (by kernel_rfl) (by simp) (RA.each ?_ (RA.each0))
                  · skip
                    refine RO.v (ls' := #[true, true, true, true, false, true, true, false]) rfl rfl (V.fieldR rfl rfl rfl rfl (by decide) rfl (Nat.le_of_ble_eq_true rfl)) rfl ?_
                    refine RA.step (L := [4]) (by kernel_rfl) (by simp) (RA.each ?_ (RA.each0))
                    · skip
                      refine RO.v (ls' := #[true, true, true, true, true, true, true, false]) rfl rfl (V.loadPrimR (t0 := .v (.string ei.data)) rfl rfl (.inl rfl) rfl rfl) rfl ?_
                      refine RA.step (L := [7]) (by kernel_rfl) (by simp) (RA.each ?_ (RA.each0))
                      · skip
                        refine RO.v (ls' := #[true, true, true, true, true, true, true, true]) rfl rfl (V.strCmp rfl rfl rfl rfl) rfl ?_
                        refine RA.fin (by kernel_rfl) ?_
                        refine CW.le [(0, .r (sl 3 Entry.c a)), (1, I (IntKind.i64.wrap ((IntKind.i64.wrap (l + 1)) + 1))), (5, I (i : Int)), (37, Bo (!(ei.data.toList == (mtext (IntKind.i64.wrap ((IntKind.i64.wrap (l + 1)) + 1))).toList)))] rfl (Le.c rfl <| Le.c rfl <| Le.c rfl <| Le.c rfl <| Le.e) ?_
                        refine CW.cond rfl (fun h15 => ?_) (fun h15 => ?_)
                        · skip
                          refine CW.seq ?_
                          refine CW.region ?_
                          refine RW.v rfl (V.as (d := I (-1)) rfl rfl) ?_
                          refine RW.nil ?_
                          refine CW.le [(4, I (-1))] rfl (Le.c rfl <| Le.e) ?_
                          refine CW.ret ?_
                          exact Post.one (RV.i rfl (by rw [← hr, hdi]; clear hr; first | rfl | (simp_all [hdL, hdEEntry, hdI, hdS, inc]; done) | grind [hdL, hdEEntry, hdI, hdS, inc])) (AOs.r (AOs.r AOs.e))
                        · skip
                          refine CW.skip ?_
                          refine CW.le [(0, .r (sl 3 Entry.c a)), (1, I (IntKind.i64.wrap ((IntKind.i64.wrap (l + 1)) + 1))), (5, I (i : Int))] rfl (Le.c rfl <| Le.c rfl <| Le.c rfl <| Le.e) ?_
                          refine CW.region ?_
                          refine RW.v rfl (V.mv (d := I (IntKind.i64.wrap ((IntKind.i64.wrap (l + 1)) + 1))) rfl rfl) ?_
                          refine RW.v rfl (V.arInt rfl rfl rfl rfl) ?_
                          refine RW.v rfl (V.as (d := I (IntKind.i64.wrap ((IntKind.i64.wrap ((IntKind.i64.wrap (l + 1)) + 1)) + 1))) rfl rfl) ?_
                          refine RW.nil ?_
                          refine CW.le [(0, .r (sl 3 Entry.c a)), (1, I (IntKind.i64.wrap ((IntKind.i64.wrap ((IntKind.i64.wrap (l + 1)) + 1)) + 1))), (5, I (i : Int))] rfl (Le.c rfl <| Le.c rfl <| Le.c rfl <| Le.e) ?_
                          refine CW.region ?_
                          refine RW.v rfl (V.mv (d := I (i : Int)) rfl rfl) ?_
                          refine RW.v rfl (V.inc rfl rfl rfl hii hl0) ?_
                          refine RW.v rfl (V.as (d := I ((i + 1 : Nat) : Int)) rfl rfl) ?_
                          refine RW.nil ?_
                          exact ⟨(i + 1, _), by simp only []; omega, ⟨by omega, by first | exact wrap_le _ | omega, by rw [← hr, hdi]; clear hr; first | rfl | (simp_all [hdL, hdEEntry, hdI, hdS, inc]; done) | grind [hdL, hdEEntry, hdI, hdS, inc]⟩, rfl, Le.c rfl <| Le.c rfl <| Le.c rfl <| Le.e⟩
            · skip
              refine RO.v (ls' := #[true, true, false, false, false, true, false, false]) rfl rfl (V.mv (d := I (IntKind.i64.wrap ((IntKind.i64.wrap (l + 1)) + 1))) rfl rfl) rfl ?_
              refine RA.step (L := [2, 6]) (by kernel_rfl) (by simp) (RA.each ?_ (RA.each ?_ (RA.each0)))
              · skip
                refine RO.v (ls' := #[true, true, true, false, false, true, false, false]) rfl rfl (V.indexS rfl rfl rfl rfl rfl rfl Entry.len hei) rfl ?_
                refine RA.step (L := [3, 6]) (by kernel_rfl) (by simp) (RA.each ?_ (RA.each ?_ (RA.each0)))
                · skip
                  refine RO.v (ls' := #[true, true, true, true, false, true, false, false]) rfl rfl (V.fieldR rfl rfl rfl rfl (by decide) rfl (Nat.le_of_ble_eq_true rfl)) rfl ?_
                  refine RA.step (L := [4, 6]) (by kernel_rfl) (by simp) (RA.each ?_ (RA.each ?_ (RA.each0)))
                  · skip
                    refine RO.v (ls' := #[true, true, true, true, true, true, false, false]) rfl rfl (V.loadPrimR (t0 := .v (.string ei.data)) rfl rfl (.inl rfl) rfl rfl) rfl ?_
                    refine RA.step (L := [6]) (by kernel_rfl) (by simp) (RA.each ?_ (RA.each0))
                    · skip
                      refine RO.call (ls' := #[true, true, true, true, true, true, true, false]) rfl rfl (laws_markText_fn (IntKind.i64.wrap ((IntKind.i64.wrap (l + 1)) + 1)) (by first | exact hlk | exact wrap_le _)) rfl (.cons (.one (.r .r)) (.nil)) rfl fun g16 => ?_
                      refine RA.step (L := [7]) (by kernel_rfl) (by simp) (RA.each ?_ (RA.each0))
                      · skip
                        refine RO.v (ls' := #[true, true, true, true, true, true, true, true]) rfl rfl (V.strCmp rfl rfl rfl rfl) rfl ?_
                        refine RA.fin (by kernel_rfl) ?_
                        refine CW.le [(0, .r (sl 3 Entry.c a)), (1, I (IntKind.i64.wrap ((IntKind.i64.wrap (l + 1)) + 1))), (5, I (i : Int)), (37, Bo (!(ei.data.toList == (mtext (IntKind.i64.wrap ((IntKind.i64.wrap (l + 1)) + 1))).toList)))] rfl (Le.c rfl <| Le.c rfl <| Le.c rfl <| Le.c rfl <| Le.e) ?_
                        refine CW.cond rfl (fun h17 => ?_) (fun h17 => ?_)
                        · skip
                          refine CW.seq ?_
                          refine CW.region ?_
                          refine RW.v rfl (V.as (d := I (-1)) rfl rfl) ?_
                          refine RW.nil ?_
                          refine CW.le [(4, I (-1))] rfl (Le.c rfl <| Le.e) ?_
                          refine CW.ret ?_
                          exact Post.one (RV.i rfl (by rw [← hr, hdi]; clear hr; first | rfl | (simp_all [hdL, hdEEntry, hdI, hdS, inc]; done) | grind [hdL, hdEEntry, hdI, hdS, inc])) (AOs.r (AOs.r AOs.e))
                        · skip
                          refine CW.skip ?_
                          refine CW.le [(0, .r (sl 3 Entry.c a)), (1, I (IntKind.i64.wrap ((IntKind.i64.wrap (l + 1)) + 1))), (5, I (i : Int))] rfl (Le.c rfl <| Le.c rfl <| Le.c rfl <| Le.e) ?_
                          refine CW.region ?_
                          refine RW.v rfl (V.mv (d := I (IntKind.i64.wrap ((IntKind.i64.wrap (l + 1)) + 1))) rfl rfl) ?_
                          refine RW.v rfl (V.arInt rfl rfl rfl rfl) ?_
                          refine RW.v rfl (V.as (d := I (IntKind.i64.wrap ((IntKind.i64.wrap ((IntKind.i64.wrap (l + 1)) + 1)) + 1))) rfl rfl) ?_
                          refine RW.nil ?_
                          refine CW.le [(0, .r (sl 3 Entry.c a)), (1, I (IntKind.i64.wrap ((IntKind.i64.wrap ((IntKind.i64.wrap (l + 1)) + 1)) + 1))), (5, I (i : Int))] rfl (Le.c rfl <| Le.c rfl <| Le.c rfl <| Le.e) ?_
                          refine CW.region ?_
                          refine RW.v rfl (V.mv (d := I (i : Int)) rfl rfl) ?_
                          refine RW.v rfl (V.inc rfl rfl rfl hii hl0) ?_
                          refine RW.v rfl (V.as (d := I ((i + 1 : Nat) : Int)) rfl rfl) ?_
                          refine RW.nil ?_
                          exact ⟨(i + 1, _), by simp only []; omega, ⟨by omega, by first | exact wrap_le _ | omega, by rw [← hr, hdi]; clear hr; first | rfl | (simp_all [hdL, hdEEntry, hdI, hdS, inc]; done) | grind [hdL, hdEEntry, hdI, hdS, inc]⟩, rfl, Le.c rfl <| Le.c rfl <| Le.c rfl <| Le.e⟩
                  · skip
                    refine RO.call (ls' := #[true, true, true, true, false, true, true, false]) rfl rfl (laws_markText_fn (IntKind.i64.wrap ((IntKind.i64.wrap (l + 1)) + 1)) (by first | exact hlk | exact wrap_le _)) rfl (.cons (.one (.r .r)) (.nil)) rfl fun g18 => ?_
                    refine RA.step (L := [4]) (by kernel_rfl) (by simp) (RA.each ?_ (RA.each0))
                    · skip
                      refine RO.v (ls' := #[true, true, true, true, true, true, true, false]) rfl rfl (V.loadPrimR (t0 := .v (.string ei.data)) rfl rfl (.inl rfl) rfl rfl) rfl ?_
                      refine RA.step (L := [7]) (by kernel_rfl) (by simp) (RA.each ?_ (RA.each0))
                      · skip
                        refine RO.v (ls' := #[true, true, true, true, true, true, true, true]) rfl rfl (V.strCmp rfl rfl rfl rfl) rfl ?_
                        refine RA.fin (by kernel_rfl) ?_
                        refine CW.le [(0, .r (sl 3 Entry.c a)), (1, I (IntKind.i64.wrap ((IntKind.i64.wrap (l + 1)) + 1))), (5, I (i : Int)), (37, Bo (!(ei.data.toList == (mtext (IntKind.i64.wrap ((IntKind.i64.wrap (l + 1)) + 1))).toList)))] rfl (Le.c rfl <| Le.c rfl <| Le.c rfl <| Le.c rfl <| Le.e) ?_
                        refine CW.cond rfl (fun h19 => ?_) (fun h19 => ?_)
                        · skip
                          refine CW.seq ?_
                          refine CW.region ?_
                          refine RW.v rfl (V.as (d := I (-1)) rfl rfl) ?_
                          refine RW.nil ?_
                          refine CW.le [(4, I (-1))] rfl (Le.c rfl <| Le.e) ?_
                          refine CW.ret ?_
                          exact Post.one (RV.i rfl (by rw [← hr, hdi]; clear hr; first | rfl | (simp_all [hdL, hdEEntry, hdI, hdS, inc]; done) | grind [hdL, hdEEntry, hdI, hdS, inc])) (AOs.r (AOs.r AOs.e))
                        · skip
                          refine CW.skip ?_
                          refine CW.le [(0, .r (sl 3 Entry.c a)), (1, I (IntKind.i64.wrap ((IntKind.i64.wrap (l + 1)) + 1))), (5, I (i : Int))] rfl (Le.c rfl <| Le.c rfl <| Le.c rfl <| Le.e) ?_
                          refine CW.region ?_
                          refine RW.v rfl (V.mv (d := I (IntKind.i64.wrap ((IntKind.i64.wrap (l + 1)) + 1))) rfl rfl) ?_
                          refine RW.v rfl (V.arInt rfl rfl rfl rfl) ?_
                          refine RW.v rfl (V.as (d := I (IntKind.i64.wrap ((IntKind.i64.wrap ((IntKind.i64.wrap (l + 1)) + 1)) + 1))) rfl rfl) ?_
                          refine RW.nil ?_
                          refine CW.le [(0, .r (sl 3 Entry.c a)), (1, I (IntKind.i64.wrap ((IntKind.i64.wrap ((IntKind.i64.wrap (l + 1)) + 1)) + 1))), (5, I (i : Int))] rfl (Le.c rfl <| Le.c rfl <| Le.c rfl <| Le.e) ?_
                          refine CW.region ?_
                          refine RW.v rfl (V.mv (d := I (i : Int)) rfl rfl) ?_
                          refine RW.v rfl (V.inc rfl rfl rfl hii hl0) ?_
                          refine RW.v rfl (V.as (d := I ((i + 1 : Nat) : Int)) rfl rfl) ?_
                          refine RW.nil ?_
                          exact ⟨(i + 1, _), by simp only []; omega, ⟨by omega, by first | exact wrap_le _ | omega, by rw [← hr, hdi]; clear hr; first | rfl | (simp_all [hdL, hdEEntry, hdI, hdS, inc]; done) | grind [hdL, hdEEntry, hdI, hdS, inc]⟩, rfl, Le.c rfl <| Le.c rfl <| Le.c rfl <| Le.e⟩
                · skip
                  refine RO.call (ls' := #[true, true, true, false, false, true, true, false]) rfl rfl (laws_markText_fn (IntKind.i64.wrap ((IntKind.i64.wrap (l + 1)) + 1)) (by first | exact hlk | exact wrap_le _)) rfl (.cons (.one (.r .r)) (.nil)) rfl fun g20 => ?_
                  refine RA.step (L := [3]) (by kernel_rfl) (by simp) (RA.each ?_ (RA.each0))
                  · skip
                    refine RO.v (ls' := #[true, true, true, true, false, true, true, false]) rfl rfl (V.fieldR rfl rfl rfl rfl (by decide) rfl (Nat.le_of_ble_eq_true rfl)) rfl ?_
                    refine RA.step (L := [4]) (by kernel_rfl) (by simp) (RA.each ?_ (RA.each0))
                    · skip
                      refine RO.v (ls' := #[true, true, true, true, true, true, true, false]) rfl rfl (V.loadPrimR (t0 := .v (.string ei.data)) rfl rfl (.inl rfl) rfl rfl) rfl ?_
                      refine RA.step (L := [7]) (by kernel_rfl) (by simp) (RA.each ?_ (RA.each0))
                      · skip
                        refine RO.v (ls' := #[true, true, true, true, true, true, true, true]) rfl rfl (V.strCmp rfl rfl rfl rfl) rfl ?_
                        refine RA.fin (by kernel_rfl) ?_
                        refine CW.le [(0, .r (sl 3 Entry.c a)), (1, I (IntKind.i64.wrap ((IntKind.i64.wrap (l + 1)) + 1))), (5, I (i : Int)), (37, Bo (!(ei.data.toList == (mtext (IntKind.i64.wrap ((IntKind.i64.wrap (l + 1)) + 1))).toList)))] rfl (Le.c rfl <| Le.c rfl <| Le.c rfl <| Le.c rfl <| Le.e) ?_
                        refine CW.cond rfl (fun h21 => ?_) (fun h21 => ?_)
                        · skip
                          refine CW.seq ?_
                          refine CW.region ?_
                          refine RW.v rfl (V.as (d := I (-1)) rfl rfl) ?_
                          refine RW.nil ?_
                          refine CW.le [(4, I (-1))] rfl (Le.c rfl <| Le.e) ?_
                          refine CW.ret ?_
                          exact Post.one (RV.i rfl (by rw [← hr, hdi]; clear hr; first | rfl | (simp_all [hdL, hdEEntry, hdI, hdS, inc]; done) | grind [hdL, hdEEntry, hdI, hdS, inc])) (AOs.r (AOs.r AOs.e))
                        · skip
                          refine CW.skip ?_
                          refine CW.le [(0, .r (sl 3 Entry.c a)), (1, I (IntKind.i64.wrap ((IntKind.i64.wrap (l + 1)) + 1))), (5, I (i : Int))] rfl (Le.c rfl <| Le.c rfl <| Le.c rfl <| Le.e) ?_
                          refine CW.region ?_
                          refine RW.v rfl (V.mv (d := I (IntKind.i64.wrap ((IntKind.i64.wrap (l + 1)) + 1))) rfl rfl) ?_
                          refine RW.v rfl (V.arInt rfl rfl rfl rfl) ?_
                          refine RW.v rfl (V.as (d := I (IntKind.i64.wrap ((IntKind.i64.wrap ((IntKind.i64.wrap (l + 1)) + 1)) + 1))) rfl rfl) ?_
                          refine RW.nil ?_
                          refine CW.le [(0, .r (sl 3 Entry.c a)), (1, I (IntKind.i64.wrap ((IntKind.i64.wrap ((IntKind.i64.wrap (l + 1)) + 1)) + 1))), (5, I (i : Int))] rfl (Le.c rfl <| Le.c rfl <| Le.c rfl <| Le.e) ?_
                          refine CW.region ?_
                          refine RW.v rfl (V.mv (d := I (i : Int)) rfl rfl) ?_
                          refine RW.v rfl (V.inc rfl rfl rfl hii hl0) ?_
                          refine RW.v rfl (V.as (d := I ((i + 1 : Nat) : Int)) rfl rfl) ?_
                          refine RW.nil ?_
                          exact ⟨(i + 1, _), by simp only []; omega, ⟨by omega, by first | exact wrap_le _ | omega, by rw [← hr, hdi]; clear hr; first | rfl | (simp_all [hdL, hdEEntry, hdI, hdS, inc]; done) | grind [hdL, hdEEntry, hdI, hdS, inc]⟩, rfl, Le.c rfl <| Le.c rfl <| Le.c rfl <| Le.e⟩
              · skip
                refine RO.call (ls' := #[true, true, false, false, false, true, true, false]) rfl rfl (laws_markText_fn (IntKind.i64.wrap ((IntKind.i64.wrap (l + 1)) + 1)) (by first | exact hlk | exact wrap_le _)) rfl (.cons (.one (.r .r)) (.nil)) rfl fun g22 => ?_
                refine RA.step (L := [2]) (by kernel_rfl) (by simp) (RA.each ?_ (RA.each0))
                · skip
                  refine RO.v (ls' := #[true, true, true, false, false, true, true, false]) rfl rfl (V.indexS rfl rfl rfl rfl rfl rfl Entry.len hei) rfl ?_
                  refine RA.step (L := [3]) (by kernel_rfl) (by simp) (RA.each ?_ (RA.each0))
                  · skip
                    refine RO.v (ls' := #[true, true, true, true, false, true, true, false]) rfl rfl (V.fieldR rfl rfl rfl rfl (by decide) rfl (Nat.le_of_ble_eq_true rfl)) rfl ?_
                    refine RA.step (L := [4]) (by kernel_rfl) (by simp) (RA.each ?_ (RA.each0))
                    · skip
                      refine RO.v (ls' := #[true, true, true, true, true, true, true, false]) rfl rfl (V.loadPrimR (t0 := .v (.string ei.data)) rfl rfl (.inl rfl) rfl rfl) rfl ?_
                      refine RA.step (L := [7]) (by kernel_rfl) (by simp) (RA.each ?_ (RA.each0))
                      · skip
                        refine RO.v (ls' := #[true, true, true, true, true, true, true, true]) rfl rfl (V.strCmp rfl rfl rfl rfl) rfl ?_
                        refine RA.fin (by kernel_rfl) ?_
                        refine CW.le [(0, .r (sl 3 Entry.c a)), (1, I (IntKind.i64.wrap ((IntKind.i64.wrap (l + 1)) + 1))), (5, I (i : Int)), (37, Bo (!(ei.data.toList == (mtext (IntKind.i64.wrap ((IntKind.i64.wrap (l + 1)) + 1))).toList)))] rfl (Le.c rfl <| Le.c rfl <| Le.c rfl <| Le.c rfl <| Le.e) ?_
                        refine CW.cond rfl (fun h23 => ?_) (fun h23 => ?_)
                        · skip
                          refine CW.seq ?_
                          refine CW.region ?_
                          refine RW.v rfl (V.as (d := I (-1)) rfl rfl) ?_
                          refine RW.nil ?_
                          refine CW.le [(4, I (-1))] rfl (Le.c rfl <| Le.e) ?_
                          refine CW.ret ?_
                          exact Post.one (RV.i rfl (by rw [← hr, hdi]; clear hr; first | rfl | (simp_all [hdL, hdEEntry, hdI, hdS, inc]; done) | grind [hdL, hdEEntry, hdI, hdS, inc])) (AOs.r (AOs.r AOs.e))
                        · skip
                          refine CW.skip ?_
                          refine CW.le [(0, .r (sl 3 Entry.c a)), (1, I (IntKind.i64.wrap ((IntKind.i64.wrap (l + 1)) + 1))), (5, I (i : Int))] rfl (Le.c rfl <| Le.c rfl <| Le.c rfl <| Le.e) ?_
                          refine CW.region ?_
                          refine RW.v rfl (V.mv (d := I (IntKind.i64.wrap ((IntKind.i64.wrap (l + 1)) + 1))) rfl rfl) ?_
                          refine RW.v rfl (V.arInt rfl rfl rfl rfl) ?_
                          refine RW.v rfl (V.as (d := I (IntKind.i64.wrap ((IntKind.i64.wrap ((IntKind.i64.wrap (l + 1)) + 1)) + 1))) rfl rfl) ?_
                          refine RW.nil ?_
                          refine CW.le [(0, .r (sl 3 Entry.c a)), (1, I (IntKind.i64.wrap ((IntKind.i64.wrap ((IntKind.i64.wrap (l + 1)) + 1)) + 1))), (5, I (i : Int))] rfl (Le.c rfl <| Le.c rfl <| Le.c rfl <| Le.e) ?_
                          refine CW.region ?_
                          refine RW.v rfl (V.mv (d := I (i : Int)) rfl rfl) ?_
                          refine RW.v rfl (V.inc rfl rfl rfl hii hl0) ?_
                          refine RW.v rfl (V.as (d := I ((i + 1 : Nat) : Int)) rfl rfl) ?_
                          refine RW.nil ?_
                          exact ⟨(i + 1, _), by simp only []; omega, ⟨by omega, by first | exact wrap_le _ | omega, by rw [← hr, hdi]; clear hr; first | rfl | (simp_all [hdL, hdEEntry, hdI, hdS, inc]; done) | grind [hdL, hdEEntry, hdI, hdS, inc]⟩, rfl, Le.c rfl <| Le.c rfl <| Le.c rfl <| Le.e⟩
          · skip
            refine RO.v (ls' := #[true, false, false, false, false, true, false, false]) rfl rfl (V.mv (d := I (IntKind.i64.wrap ((IntKind.i64.wrap (l + 1)) + 1))) rfl rfl) rfl ?_
            refine RA.step (L := [1, 6]) (by kernel_rfl) (by simp) (RA.each ?_ (RA.each ?_ (RA.each0)))
            · skip
              refine RO.v (ls' := #[true, true, false, false, false, true, false, false]) rfl rfl (V.mv (d := I (i : Int)) rfl rfl) rfl ?_
              refine RA.step (L := [2, 6]) (by kernel_rfl) (by simp) (RA.each ?_ (RA.each ?_ (RA.each0)))
              · skip
                refine RO.v (ls' := #[true, true, true, false, false, true, false, false]) rfl rfl (V.indexS rfl rfl rfl rfl rfl rfl Entry.len hei) rfl ?_
                refine RA.step (L := [3, 6]) (by kernel_rfl) (by simp) (RA.each ?_ (RA.each ?_ (RA.each0)))
                · skip
                  refine RO.v (ls' := #[true, true, true, true, false, true, false, false]) rfl rfl (V.fieldR rfl rfl rfl rfl (by decide) rfl (Nat.le_of_ble_eq_true rfl)) rfl ?_
                  refine RA.step (L := [4, 6]) (by kernel_rfl) (by simp) (RA.each ?_ (RA.each ?_ (RA.each0)))
                  · skip
                    refine RO.v (ls' := #[true, true, true, true, true, true, false, false]) rfl rfl (V.loadPrimR (t0 := .v (.string ei.data)) rfl rfl (.inl rfl) rfl rfl) rfl ?_
                    refine RA.step (L := [6]) (by kernel_rfl) (by simp) (RA.each ?_ (RA.each0))
                    · skip
                      refine RO.call (ls' := #[true, true, true, true, true, true, true, false]) rfl rfl (laws_markText_fn (IntKind.i64.wrap ((IntKind.i64.wrap (l + 1)) + 1)) (by first | exact hlk | exact wrap_le _)) rfl (.cons (.one (.r .r)) (.nil)) rfl fun g24 => ?_
                      refine RA.step (L := [7]) (by kernel_rfl) (by simp) (RA.each ?_ (RA.each0))
                      · skip
                        refine RO.v (ls' := #[true, true, true, true, true, true, true, true]) rfl rfl (V.strCmp rfl rfl rfl rfl) rfl ?_
                        refine RA.fin (by kernel_rfl) ?_
                        refine CW.le [(0, .r (sl 3 Entry.c a)), (1, I (IntKind.i64.wrap ((IntKind.i64.wrap (l + 1)) + 1))), (5, I (i : Int)), (37, Bo (!(ei.data.toList == (mtext (IntKind.i64.wrap ((IntKind.i64.wrap (l + 1)) + 1))).toList)))] rfl (Le.c rfl <| Le.c rfl <| Le.c rfl <| Le.c rfl <| Le.e) ?_
                        refine CW.cond rfl (fun h25 => ?_) (fun h25 => ?_)
                        · skip
                          refine CW.seq ?_
                          refine CW.region ?_
                          refine RW.v rfl (V.as (d := I (-1)) rfl rfl) ?_
                          refine RW.nil ?_
                          refine CW.le [(4, I (-1))] rfl (Le.c rfl <| Le.e) ?_
                          refine CW.ret ?_
                          exact Post.one (RV.i rfl (by rw [← hr, hdi]; clear hr; first | rfl | (simp_all [hdL, hdEEntry, hdI, hdS, inc]; done) | grind [hdL, hdEEntry, hdI, hdS, inc])) (AOs.r (AOs.r AOs.e))
                        · skip
                          refine CW.skip ?_
                          refine CW.le [(0, .r (sl 3 Entry.c a)), (1, I (IntKind.i64.wrap ((IntKind.i64.wrap (l + 1)) + 1))), (5, I (i : Int))] rfl (Le.c rfl <| Le.c rfl <| Le.c rfl <| Le.e) ?_
                          refine CW.region ?_
                          refine RW.v rfl (V.mv (d := I (IntKind.i64.wrap ((IntKind.i64.wrap (l + 1)) + 1))) rfl rfl) ?_
                          refine RW.v rfl (V.arInt rfl rfl rfl rfl) ?_
                          refine RW.v rfl (V.as (d := I (IntKind.i64.wrap ((IntKind.i64.wrap ((IntKind.i64.wrap (l + 1)) + 1)) + 1))) rfl rfl) ?_
                          refine RW.nil ?_
                          refine CW.le [(0, .r (sl 3 Entry.c a)), (1, I (IntKind.i64.wrap ((IntKind.i64.wrap ((IntKind.i64.wrap (l + 1)) + 1)) + 1))), (5, I (i : Int))] rfl (Le.c rfl <| Le.c rfl <| Le.c rfl <| Le.e) ?_
                          refine CW.region ?_
                          refine RW.v rfl (V.mv (d := I (i : Int)) rfl rfl) ?_
                          refine RW.v rfl (V.inc rfl rfl rfl hii hl0) ?_
                          refine RW.v rfl (V.as (d := I ((i + 1 : Nat) : Int)) rfl rfl) ?_
                          refine RW.nil ?_
                          exact ⟨(i + 1, _), by simp only []; omega, ⟨by omega, by first | exact wrap_le _ | omega, by rw [← hr, hdi]; clear hr; first | rfl | (simp_all [hdL, hdEEntry, hdI, hdS, inc]; done) | grind [hdL, hdEEntry, hdI, hdS, inc]⟩, rfl, Le.c rfl <| Le.c rfl <| Le.c rfl <| Le.e⟩
                  · skip
                    refine RO.call (ls' := #[true, true, true, true, false, true, true, false]) rfl rfl (laws_markText_fn (IntKind.i64.wrap ((IntKind.i64.wrap (l + 1)) + 1)) (by first | exact hlk | exact wrap_le _)) rfl (.cons (.one (.r .r)) (.nil)) rfl fun g26 => ?_
                    refine RA.step (L := [4]) (by kernel_rfl) (by simp) (RA.each ?_ (RA.each0))
                    · skip
                      refine RO.v (ls' := #[true, true, true, true, true, true, true, false]) rfl rfl (V.loadPrimR (t0 := .v (.string ei.data)) rfl rfl (.inl rfl) rfl rfl) rfl ?_
                      refine RA.step (L := [7]) (by kernel_rfl) (by simp) (RA.each ?_ (RA.each0))
                      · skip
                        refine RO.v (ls' := #[true, true, true, true, true, true, true, true]) rfl rfl (V.strCmp rfl rfl rfl rfl) rfl ?_
                        refine RA.fin (by kernel_rfl) ?_
                        refine CW.le [(0, .r (sl 3 Entry.c a)), (1, I (IntKind.i64.wrap ((IntKind.i64.wrap (l + 1)) + 1))), (5, I (i : Int)), (37, Bo (!(ei.data.toList == (mtext (IntKind.i64.wrap ((IntKind.i64.wrap (l + 1)) + 1))).toList)))] rfl (Le.c rfl <| Le.c rfl <| Le.c rfl <| Le.c rfl <| Le.e) ?_
                        refine CW.cond rfl (fun h27 => ?_) (fun h27 => ?_)
                        · skip
                          refine CW.seq ?_
                          refine CW.region ?_
                          refine RW.v rfl (V.as (d := I (-1)) rfl rfl) ?_
                          refine RW.nil ?_
                          refine CW.le [(4, I (-1))] rfl (Le.c rfl <| Le.e) ?_
                          refine CW.ret ?_
                          exact Post.one (RV.i rfl (by rw [← hr, hdi]; clear hr; first | rfl | (simp_all [hdL, hdEEntry, hdI, hdS, inc]; done) | grind [hdL, hdEEntry, hdI, hdS, inc])) (AOs.r (AOs.r AOs.e))
                        · skip
                          refine CW.skip ?_
                          refine CW.le [(0, .r (sl 3 Entry.c a)), (1, I (IntKind.i64.wrap ((IntKind.i64.wrap (l + 1)) + 1))), (5, I (i : Int))] rfl (Le.c rfl <| Le.c rfl <| Le.c rfl <| Le.e) ?_
                          refine CW.region ?_
                          refine RW.v rfl (V.mv (d := I (IntKind.i64.wrap ((IntKind.i64.wrap (l + 1)) + 1))) rfl rfl) ?_
                          refine RW.v rfl (V.arInt rfl rfl rfl rfl) ?_
                          refine RW.v rfl (V.as (d := I (IntKind.i64.wrap ((IntKind.i64.wrap ((IntKind.i64.wrap (l + 1)) + 1)) + 1))) rfl rfl) ?_
                          refine RW.nil ?_
                          refine CW.le [(0, .r (sl 3 Entry.c a)), (1, I (IntKind.i64.wrap ((IntKind.i64.wrap ((IntKind.i64.wrap (l + 1)) + 1)) + 1))), (5, I (i : Int))] rfl (Le.c rfl <| Le.c rfl <| Le.c rfl <| Le.e) ?_
                          refine CW.region ?_
                          refine RW.v rfl (V.mv (d := I (i : Int)) rfl rfl) ?_
                          refine RW.v rfl (V.inc rfl rfl rfl hii hl0) ?_
                          refine RW.v rfl (V.as (d := I ((i + 1 : Nat) : Int)) rfl rfl) ?_
                          refine RW.nil ?_
                          exact ⟨(i + 1, _), by simp only []; omega, ⟨by omega, by first | exact wrap_le _ | omega, by rw [← hr, hdi]; clear hr; first | rfl | (simp_all [hdL, hdEEntry, hdI, hdS, inc]; done) | grind [hdL, hdEEntry, hdI, hdS, inc]⟩, rfl, Le.c rfl <| Le.c rfl <| Le.c rfl <| Le.e⟩
                · skip
                  refine RO.call (ls' := #[true, true, true, false, false, true, true, false]) rfl rfl (laws_markText_fn (IntKind.i64.wrap ((IntKind.i64.wrap (l + 1)) + 1)) (by first | exact hlk | exact wrap_le _)) rfl (.cons (.one (.r .r)) (.nil)) rfl fun g28 => ?_
                  refine RA.step (L := [3]) (by kernel_rfl) (by simp) (RA.each ?_ (RA.each0))
                  · skip
                    refine RO.v (ls' := #[true, true, true, true, false, true, true, false]) rfl rfl (V.fieldR rfl rfl rfl rfl (by decide) rfl (Nat.le_of_ble_eq_true rfl)) rfl ?_
                    refine RA.step (L := [4]) (by kernel_rfl) (by simp) (RA.each ?_ (RA.each0))
                    · skip
                      refine RO.v (ls' := #[true, true, true, true, true, true, true, false]) rfl rfl (V.loadPrimR (t0 := .v (.string ei.data)) rfl rfl (.inl rfl) rfl rfl) rfl ?_
                      refine RA.step (L := [7]) (by kernel_rfl) (by simp) (RA.each ?_ (RA.each0))
                      · skip
                        refine RO.v (ls' := #[true, true, true, true, true, true, true, true]) rfl rfl (V.strCmp rfl rfl rfl rfl) rfl ?_
                        refine RA.fin (by kernel_rfl) ?_
                        refine CW.le [(0, .r (sl 3 Entry.c a)), (1, I (IntKind.i64.wrap ((IntKind.i64.wrap (l + 1)) + 1))), (5, I (i : Int)), (37, Bo (!(ei.data.toList == (mtext (IntKind.i64.wrap ((IntKind.i64.wrap (l + 1)) + 1))).toList)))] rfl (Le.c rfl <| Le.c rfl <| Le.c rfl <| Le.c rfl <| Le.e) ?_
                        refine CW.cond rfl (fun h29 => ?_) (fun h29 => ?_)
                        · skip
                          refine CW.seq ?_
                          refine CW.region ?_
                          refine RW.v rfl (V.as (d := I (-1)) rfl rfl) ?_
                          refine RW.nil ?_
                          refine CW.le [(4, I (-1))] rfl (Le.c rfl <| Le.e) ?_
                          refine CW.ret ?_
                          exact Post.one (RV.i rfl (by rw [← hr, hdi]; clear hr; first | rfl | (simp_all [hdL, hdEEntry, hdI, hdS, inc]; done) | grind [hdL, hdEEntry, hdI, hdS, inc])) (AOs.r (AOs.r AOs.e))
                        · skip
                          refine CW.skip ?_
                          refine CW.le [(0, .r (sl 3 Entry.c a)), (1, I (IntKind.i64.wrap ((IntKind.i64.wrap (l + 1)) + 1))), (5, I (i : Int))] rfl (Le.c rfl <| Le.c rfl <| Le.c rfl <| Le.e) ?_
                          refine CW.region ?_
                          refine RW.v rfl (V.mv (d := I (IntKind.i64.wrap ((IntKind.i64.wrap (l + 1)) + 1))) rfl rfl) ?_
                          refine RW.v rfl (V.arInt rfl rfl rfl rfl) ?_
                          refine RW.v rfl (V.as (d := I (IntKind.i64.wrap ((IntKind.i64.wrap ((IntKind.i64.wrap (l + 1)) + 1)) + 1))) rfl rfl) ?_
                          refine RW.nil ?_
                          refine CW.le [(0, .r (sl 3 Entry.c a)), (1, I (IntKind.i64.wrap ((IntKind.i64.wrap ((IntKind.i64.wrap (l + 1)) + 1)) + 1))), (5, I (i : Int))] rfl (Le.c rfl <| Le.c rfl <| Le.c rfl <| Le.e) ?_
                          refine CW.region ?_
                          refine RW.v rfl (V.mv (d := I (i : Int)) rfl rfl) ?_
                          refine RW.v rfl (V.inc rfl rfl rfl hii hl0) ?_
                          refine RW.v rfl (V.as (d := I ((i + 1 : Nat) : Int)) rfl rfl) ?_
                          refine RW.nil ?_
                          exact ⟨(i + 1, _), by simp only []; omega, ⟨by omega, by first | exact wrap_le _ | omega, by rw [← hr, hdi]; clear hr; first | rfl | (simp_all [hdL, hdEEntry, hdI, hdS, inc]; done) | grind [hdL, hdEEntry, hdI, hdS, inc]⟩, rfl, Le.c rfl <| Le.c rfl <| Le.c rfl <| Le.e⟩
              · skip
                refine RO.call (ls' := #[true, true, false, false, false, true, true, false]) rfl rfl (laws_markText_fn (IntKind.i64.wrap ((IntKind.i64.wrap (l + 1)) + 1)) (by first | exact hlk | exact wrap_le _)) rfl (.cons (.one (.r .r)) (.nil)) rfl fun g30 => ?_
                refine RA.step (L := [2]) (by kernel_rfl) (by simp) (RA.each ?_ (RA.each0))
                · skip
                  refine RO.v (ls' := #[true, true, true, false, false, true, true, false]) rfl rfl (V.indexS rfl rfl rfl rfl rfl rfl Entry.len hei) rfl ?_
                  refine RA.step (L := [3]) (by kernel_rfl) (by simp) (RA.each ?_ (RA.each0))
                  · skip
                    refine RO.v (ls' := #[true, true, true, true, false, true, true, false]) rfl rfl (V.fieldR rfl rfl rfl rfl (by decide) rfl (Nat.le_of_ble_eq_true rfl)) rfl ?_
                    refine RA.step (L := [4]) (by kernel_rfl) (by simp) (RA.each ?_ (RA.each0))
                    · skip
                      refine RO.v (ls' := #[true, true, true, true, true, true, true, false]) rfl rfl (V.loadPrimR (t0 := .v (.string ei.data)) rfl rfl (.inl rfl) rfl rfl) rfl ?_
                      refine RA.step (L := [7]) (by kernel_rfl) (by simp) (RA.each ?_ (RA.each0))
                      · skip
                        refine RO.v (ls' := #[true, true, true, true, true, true, true, true]) rfl rfl (V.strCmp rfl rfl rfl rfl) rfl ?_
                        refine RA.fin (by kernel_rfl) ?_
                        refine CW.le [(0, .r (sl 3 Entry.c a)), (1, I (IntKind.i64.wrap ((IntKind.i64.wrap (l + 1)) + 1))), (5, I (i : Int)), (37, Bo (!(ei.data.toList == (mtext (IntKind.i64.wrap ((IntKind.i64.wrap (l + 1)) + 1))).toList)))] rfl (Le.c rfl <| Le.c rfl <| Le.c rfl <| Le.c rfl <| Le.e) ?_
                        refine CW.cond rfl (fun h31 => ?_) (fun h31 => ?_)
                        · skip
                          refine CW.seq ?_
                          refine CW.region ?_
                          refine RW.v rfl (V.as (d := I (-1)) rfl rfl) ?_
                          refine RW.nil ?_
                          refine CW.le [(4, I (-1))] rfl (Le.c rfl <| Le.e) ?_
                          refine CW.ret ?_
                          exact Post.one (RV.i rfl (by rw [← hr, hdi]; clear hr; first | rfl | (simp_all [hdL, hdEEntry, hdI, hdS, inc]; done) | grind [hdL, hdEEntry, hdI, hdS, inc])) (AOs.r (AOs.r AOs.e))
                        · skip
                          refine CW.skip ?_
                          refine CW.le [(0, .r (sl 3 Entry.c a)), (1, I (IntKind.i64.wrap ((IntKind.i64.wrap (l + 1)) + 1))), (5, I (i : Int))] rfl (Le.c rfl <| Le.c rfl <| Le.c rfl <| Le.e) ?_
                          refine CW.region ?_
                          refine RW.v rfl (V.mv (d := I (IntKind.i64.wrap ((IntKind.i64.wrap (l + 1)) + 1))) rfl rfl) ?_
                          refine RW.v rfl (V.arInt rfl rfl rfl rfl) ?_
                          refine RW.v rfl (V.as (d := I (IntKind.i64.wrap ((IntKind.i64.wrap ((IntKind.i64.wrap (l + 1)) + 1)) + 1))) rfl rfl) ?_
                          refine RW.nil ?_
                          refine CW.le [(0, .r (sl 3 Entry.c a)), (1, I (IntKind.i64.wrap ((IntKind.i64.wrap ((IntKind.i64.wrap (l + 1)) + 1)) + 1))), (5, I (i : Int))] rfl (Le.c rfl <| Le.c rfl <| Le.c rfl <| Le.e) ?_
                          refine CW.region ?_
                          refine RW.v rfl (V.mv (d := I (i : Int)) rfl rfl) ?_
                          refine RW.v rfl (V.inc rfl rfl rfl hii hl0) ?_
                          refine RW.v rfl (V.as (d := I ((i + 1 : Nat) : Int)) rfl rfl) ?_
                          refine RW.nil ?_
                          exact ⟨(i + 1, _), by simp only []; omega, ⟨by omega, by first | exact wrap_le _ | omega, by rw [← hr, hdi]; clear hr; first | rfl | (simp_all [hdL, hdEEntry, hdI, hdS, inc]; done) | grind [hdL, hdEEntry, hdI, hdS, inc]⟩, rfl, Le.c rfl <| Le.c rfl <| Le.c rfl <| Le.e⟩
            · skip
              refine RO.call (ls' := #[true, false, false, false, false, true, true, false]) rfl rfl (laws_markText_fn (IntKind.i64.wrap ((IntKind.i64.wrap (l + 1)) + 1)) (by first | exact hlk | exact wrap_le _)) rfl (.cons (.one (.r .r)) (.nil)) rfl fun g32 => ?_
              refine RA.step (L := [1]) (by kernel_rfl) (by simp) (RA.each ?_ (RA.each0))
              · skip
                refine RO.v (ls' := #[true, true, false, false, false, true, true, false]) rfl rfl (V.mv (d := I (i : Int)) rfl rfl) rfl ?_
                refine RA.step (L := [2]) (by kernel_rfl) (by simp) (RA.each ?_ (RA.each0))
                · skip
                  refine RO.v (ls' := #[true, true, true, false, false, true, true, false]) rfl rfl (V.indexS rfl rfl rfl rfl rfl rfl Entry.len hei) rfl ?_
                  refine RA.step (L := [3]) (by kernel_rfl) (by simp) (RA.each ?_ (RA.each0))
                  · skip
                    refine RO.v (ls' := #[true, true, true, true, false, true, true, false]) rfl rfl (V.fieldR rfl rfl rfl rfl (by decide) rfl (Nat.le_of_ble_eq_true rfl)) rfl ?_
                    refine RA.step (L := [4]) (by kernel_rfl) (by simp) (RA.each ?_ (RA.each0))
                    · skip
                      refine RO.v (ls' := #[true, true, true, true, true, true, true, false]) rfl rfl (V.loadPrimR (t0 := .v (.string ei.data)) rfl rfl (.inl rfl) rfl rfl) rfl ?_
                      refine RA.step (L := [7]) (by kernel_rfl) (by simp) (RA.each ?_ (RA.each0))
                      · skip
                        refine RO.v (ls' := #[true, true, true, true, true, true, true, true]) rfl rfl (V.strCmp rfl rfl rfl rfl) rfl ?_
                        refine RA.fin (by kernel_rfl) ?_
                        refine CW.le [(0, .r (sl 3 Entry.c a)), (1, I (IntKind.i64.wrap ((IntKind.i64.wrap (l + 1)) + 1))), (5, I (i : Int)), (37, Bo (!(ei.data.toList == (mtext (IntKind.i64.wrap ((IntKind.i64.wrap (l + 1)) + 1))).toList)))] rfl (Le.c rfl <| Le.c rfl <| Le.c rfl <| Le.c rfl <| Le.e) ?_
                        refine CW.cond rfl (fun h33 => ?_) (fun h33 => ?_)
                        · skip
                          refine CW.seq ?_
                          refine CW.region ?_
                          refine RW.v rfl (V.as (d := I (-1)) rfl rfl) ?_
                          refine RW.nil ?_
                          refine CW.le [(4, I (-1))] rfl (Le.c rfl <| Le.e) ?_
                          refine CW.ret ?_
                          exact Post.one (RV.i rfl (by rw [← hr, hdi]; clear hr; first | rfl | (simp_all [hdL, hdEEntry, hdI, hdS, inc]; done) | grind [hdL, hdEEntry, hdI, hdS, inc])) (AOs.r (AOs.r AOs.e))
                        · skip
                          refine CW.skip ?_
                          refine CW.le [(0, .r (sl 3 Entry.c a)), (1, I (IntKind.i64.wrap ((IntKind.i64.wrap (l + 1)) + 1))), (5, I (i : Int))] rfl (Le.c rfl <| Le.c rfl <| Le.c rfl <| Le.e) ?_
                          refine CW.region ?_
                          refine RW.v rfl (V.mv (d := I (IntKind.i64.wrap ((IntKind.i64.wrap (l + 1)) + 1))) rfl rfl) ?_
                          refine RW.v rfl (V.arInt rfl rfl rfl rfl) ?_
                          refine RW.v rfl (V.as (d := I (IntKind.i64.wrap ((IntKind.i64.wrap ((IntKind.i64.wrap (l + 1)) + 1)) + 1))) rfl rfl) ?_
                          refine RW.nil ?_
                          refine CW.le [(0, .r (sl 3 Entry.c a)), (1, I (IntKind.i64.wrap ((IntKind.i64.wrap ((IntKind.i64.wrap (l + 1)) + 1)) + 1))), (5, I (i : Int))] rfl (Le.c rfl <| Le.c rfl <| Le.c rfl <| Le.e) ?_
                          refine CW.region ?_
                          refine RW.v rfl (V.mv (d := I (i : Int)) rfl rfl) ?_
                          refine RW.v rfl (V.inc rfl rfl rfl hii hl0) ?_
                          refine RW.v rfl (V.as (d := I ((i + 1 : Nat) : Int)) rfl rfl) ?_
                          refine RW.nil ?_
                          exact ⟨(i + 1, _), by simp only []; omega, ⟨by omega, by first | exact wrap_le _ | omega, by rw [← hr, hdi]; clear hr; first | rfl | (simp_all [hdL, hdEEntry, hdI, hdS, inc]; done) | grind [hdL, hdEEntry, hdI, hdS, inc]⟩, rfl, Le.c rfl <| Le.c rfl <| Le.c rfl <| Le.e⟩
        · skip
          refine RO.v (ls' := #[false, true, false, false, false, false, false, false]) rfl rfl (V.mv (d := I (i : Int)) rfl rfl) rfl ?_
          refine RA.step (L := [0, 5]) (by kernel_rfl) (by simp) (RA.each ?_ (RA.each ?_ (RA.each0)))
          · skip
            refine RO.v (ls' := #[true, true, false, false, false, false, false, false]) rfl rfl (V.mv (d := .r (sl 3 Entry.c a)) rfl rfl) rfl ?_
            refine RA.step (L := [2, 5]) (by kernel_rfl) (by simp) (RA.each ?_ (RA.each ?_ (RA.each0)))
            · skip
              refine RO.v (ls' := #[true, true, true, false, false, false, false, false]) rfl rfl (V.indexS rfl rfl rfl rfl rfl rfl Entry.len hei) rfl ?_
              refine RA.step (L := [3, 5]) (by kernel_rfl) (by simp) (RA.each ?_ (RA.each ?_ (RA.each0)))
              · skip
                refine RO.v (ls' := #[true, true, true, true, false, false, false, false]) rfl rfl (V.fieldR rfl rfl rfl rfl (by decide) rfl (Nat.le_of_ble_eq_true rfl)) rfl ?_
                refine RA.step (L := [4, 5]) (by kernel_rfl) (by simp) (RA.each ?_ (RA.each ?_ (RA.each0)))
                · skip
                  refine RO.v (ls' := #[true, true, true, true, true, false, false, false]) rfl rfl (V.loadPrimR (t0 := .v (.string ei.data)) rfl rfl (.inl rfl) rfl rfl) rfl ?_
                  refine RA.step (L := [5]) (by kernel_rfl) (by simp) (RA.each ?_ (RA.each0))
                  · skip
                    refine RO.v (ls' := #[true, true, true, true, true, true, false, false]) rfl rfl (V.mv (d := I (IntKind.i64.wrap ((IntKind.i64.wrap (l + 1)) + 1))) rfl rfl) rfl ?_
                    refine RA.step (L := [6]) (by kernel_rfl) (by simp) (RA.each ?_ (RA.each0))
                    · skip
                      refine RO.call (ls' := #[true, true, true, true, true, true, true, false]) rfl rfl (laws_markText_fn (IntKind.i64.wrap ((IntKind.i64.wrap (l + 1)) + 1)) (by first | exact hlk | exact wrap_le _)) rfl (.cons (.one (.r .r)) (.nil)) rfl fun g34 => ?_
                      refine RA.step (L := [7]) (by kernel_rfl) (by simp) (RA.each ?_ (RA.each0))
                      · skip
                        refine RO.v (ls' := #[true, true, true, true, true, true, true, true]) rfl rfl (V.strCmp rfl rfl rfl rfl) rfl ?_
                        refine RA.fin (by kernel_rfl) ?_
                        refine CW.le [(0, .r (sl 3 Entry.c a)), (1, I (IntKind.i64.wrap ((IntKind.i64.wrap (l + 1)) + 1))), (5, I (i : Int)), (37, Bo (!(ei.data.toList == (mtext (IntKind.i64.wrap ((IntKind.i64.wrap (l + 1)) + 1))).toList)))] rfl (Le.c rfl <| Le.c rfl <| Le.c rfl <| Le.c rfl <| Le.e) ?_
                        refine CW.cond rfl (fun h35 => ?_) (fun h35 => ?_)
                        · skip
                          refine CW.seq ?_
                          refine CW.region ?_
                          refine RW.v rfl (V.as (d := I (-1)) rfl rfl) ?_
                          refine RW.nil ?_
                          refine CW.le [(4, I (-1))] rfl (Le.c rfl <| Le.e) ?_
                          refine CW.ret ?_
                          exact Post.one (RV.i rfl (by rw [← hr, hdi]; clear hr; first | rfl | (simp_all [hdL, hdEEntry, hdI, hdS, inc]; done) | grind [hdL, hdEEntry, hdI, hdS, inc])) (AOs.r (AOs.r AOs.e))
                        · skip
                          refine CW.skip ?_
                          refine CW.le [(0, .r (sl 3 Entry.c a)), (1, I (IntKind.i64.wrap ((IntKind.i64.wrap (l + 1)) + 1))), (5, I (i : Int))] rfl (Le.c rfl <| Le.c rfl <| Le.c rfl <| Le.e) ?_
                          refine CW.region ?_
                          refine RW.v rfl (V.mv (d := I (IntKind.i64.wrap ((IntKind.i64.wrap (l + 1)) + 1))) rfl rfl) ?_
                          refine RW.v rfl (V.arInt rfl rfl rfl rfl) ?_
                          refine RW.v rfl (V.as (d := I (IntKind.i64.wrap ((IntKind.i64.wrap ((IntKind.i64.wrap (l + 1)) + 1)) + 1))) rfl rfl) ?_
                          refine RW.nil ?_
                          refine CW.le [(0, .r (sl 3 Entry.c a)), (1, I (IntKind.i64.wrap ((IntKind.i64.wrap ((IntKind.i64.wrap (l + 1)) + 1)) + 1))), (5, I (i : Int))] rfl (Le.c rfl <| Le.c rfl <| Le.c rfl <| Le.e) ?_
                          refine CW.region ?_
                          refine RW.v rfl (V.mv (d := I (i : Int)) rfl rfl) ?_
                          refine RW.v rfl (V.inc rfl rfl rfl hii hl0) ?_
                          refine RW.v rfl (V.as (d := I ((i + 1 : Nat) : Int)) rfl rfl) ?_
                          refine RW.nil ?_
                          exact ⟨(i + 1, _), by simp only []; omega, ⟨by omega, by first | exact wrap_le _ | omega, by rw [← hr, hdi]; clear hr; first | rfl | (simp_all [hdL, hdEEntry, hdI, hdS, inc]; done) | grind [hdL, hdEEntry, hdI, hdS, inc]⟩, rfl, Le.c rfl <| Le.c rfl <| Le.c rfl <| Le.e⟩
                · skip
                  refine RO.v (ls' := #[true, true, true, true, false, true, false, false]) rfl rfl (V.mv (d := I (IntKind.i64.wrap ((IntKind.i64.wrap (l + 1)) + 1))) rfl rfl) rfl ?_
                  refine RA.step (L := [4, 6]) (by kernel_rfl) (by simp) (RA.each ?_ (RA.each ?_ (RA.each0)))
                  · skip
                    refine RO.v (ls' := #[true, true, true, true, true, true, false, false]) rfl rfl (V.loadPrimR (t0 := .v (.string ei.data)) rfl rfl (.inl rfl) rfl rfl) rfl ?_
                    refine RA.step (L := [6]) (by kernel_rfl) (by simp) (RA.each ?_ (RA.each0))
                    · skip
                      refine RO.call (ls' := #[true, true, true, true, true, true, true, false]) rfl rfl (laws_markText_fn (IntKind.i64.wrap ((IntKind.i64.wrap (l + 1)) + 1)) (by first | exact hlk | exact wrap_le _)) rfl (.cons (.one (.r .r)) (.nil)) rfl fun g36 => ?_
                      refine RA.step (L := [7]) (by kernel_rfl) (by simp) (RA.each ?_ (RA.each0))
                      · skip
                        refine RO.v (ls' := #[true, true, true, true, true, true, true, true]) rfl rfl (V.strCmp rfl rfl rfl rfl) rfl ?_
                        refine RA.fin (by kernel_rfl) ?_
                        refine CW.le [(0, .r (sl 3 Entry.c a)), (1, I (IntKind.i64.wrap ((IntKind.i64.wrap (l + 1)) + 1))), (5, I (i : Int)), (37, Bo (!(ei.data.toList == (mtext (IntKind.i64.wrap ((IntKind.i64.wrap (l + 1)) + 1))).toList)))] rfl (Le.c rfl <| Le.c rfl <| Le.c rfl <| Le.c rfl <| Le.e) ?_
                        refine CW.cond rfl (fun h37 => ?_) (fun h37 => ?_)
                        · skip
                          refine CW.seq ?_
                          refine CW.region ?_
                          refine RW.v rfl (V.as (d := I (-1)) rfl rfl) ?_
                          refine RW.nil ?_
                          refine CW.le [(4, I (-1))] rfl (Le.c rfl <| Le.e) ?_
                          refine CW.ret ?_
                          exact Post.one (RV.i rfl (by rw [← hr, hdi]; clear hr; first | rfl | (simp_all [hdL, hdEEntry, hdI, hdS, inc]; done) | grind [hdL, hdEEntry, hdI, hdS, inc])) (AOs.r (AOs.r AOs.e))
                        · skip
                          refine CW.skip ?_
                          refine CW.le [(0, .r (sl 3 Entry.c a)), (1, I (IntKind.i64.wrap ((IntKind.i64.wrap (l + 1)) + 1))), (5, I (i : Int))] rfl (Le.c rfl <| Le.c rfl <| Le.c rfl <| Le.e) ?_
                          refine CW.region ?_
                          refine RW.v rfl (V.mv (d := I (IntKind.i64.wrap ((IntKind.i64.wrap (l + 1)) + 1))) rfl rfl) ?_
                          refine RW.v rfl (V.arInt rfl rfl rfl rfl) ?_
                          refine RW.v rfl (V.as (d := I (IntKind.i64.wrap ((IntKind.i64.wrap ((IntKind.i64.wrap (l + 1)) + 1)) + 1))) rfl rfl) ?_
                          refine RW.nil ?_
                          refine CW.le [(0, .r (sl 3 Entry.c a)), (1, I (IntKind.i64.wrap ((IntKind.i64.wrap ((IntKind.i64.wrap (l + 1)) + 1)) + 1))), (5, I (i : Int))] rfl (Le.c rfl <| Le.c rfl <| Le.c rfl <| Le.e) ?_
                          refine CW.region ?_
                          refine RW.v rfl (V.mv (d := I (i : Int)) rfl rfl) ?_
                          refine RW.v rfl (V.inc rfl rfl rfl hii hl0) ?_
                          refine RW.v rfl (V.as (d := I ((i + 1 : Nat) : Int)) rfl rfl) ?_
                          refine RW.nil ?_
                          exact ⟨(i + 1, _), by simp only []; omega, ⟨by omega, by first | exact wrap_le _ | omega, by rw [← hr, hdi]; clear hr; first | rfl | (simp_all [hdL, hdEEntry, hdI, hdS, inc]; done) | grind [hdL, hdEEntry, hdI, hdS, inc]⟩, rfl, Le.c rfl <| Le.c rfl <| Le.c rfl <| Le.e⟩
                  · skip
                    refine RO.call (ls' := #[true, true, true, true, false, true, true, false]) rfl rfl (laws_markText_fn (IntKind.i64.wrap ((IntKind.i64.wrap (l + 1)) + 1)) (by first | exact hlk | exact wrap_le _)) rfl (.cons (.one (.r .r)) (.nil)) rfl fun g38 => ?_
                    refine RA.step (L := [4]) (by kernel_rfl) (by simp) (RA.each ?_ (RA.each0))
                    · skip
                      refine RO.v (ls' := #[true, true, true, true, true, true, true, false]) rfl rfl (V.loadPrimR (t0 := .v (.string ei.data)) rfl rfl (.inl rfl) rfl rfl) rfl ?_
                      refine RA.step (L := [7]) (by kernel_rfl) (by simp) (RA.each ?_ (RA.each0))
                      · skip
                        refine RO.v (ls' := #[true, true, true, true, true, true, true, true]) rfl rfl (V.strCmp rfl rfl rfl rfl) rfl ?_
                        refine RA.fin (by kernel_rfl) ?_
                        refine CW.le [(0, .r (sl 3 Entry.c a)), (1, I (IntKind.i64.wrap ((IntKind.i64.wrap (l + 1)) + 1))), (5, I (i : Int)), (37, Bo (!(ei.data.toList == (mtext (IntKind.i64.wrap ((IntKind.i64.wrap (l + 1)) + 1))).toList)))] rfl (Le.c rfl <| Le.c rfl <| Le.c rfl <| Le.c rfl <| Le.e) ?_
                        refine CW.cond rfl (fun h39 => ?_) (fun h39 => ?_)
                        · skip
                          refine CW.seq ?_
                          refine CW.region ?_
                          refine RW.v rfl (V.as (d := I (-1)) rfl rfl) ?_
                          refine RW.nil ?_
                          refine CW.le [(4, I (-1))] rfl (Le.c rfl <| Le.e) ?_
                          refine CW.ret ?_
                          exact Post.one (RV.i rfl (by rw [← hr, hdi]; clear hr; first | rfl | (simp_all [hdL, hdEEntry, hdI, hdS, inc]; done) | grind [hdL, hdEEntry, hdI, hdS, inc])) (AOs.r (AOs.r AOs.e))
                        · skip
                          refine CW.skip ?_
                          refine CW.le [(0, .r (sl 3 Entry.c a)), (1, I (IntKind.i64.wrap ((IntKind.i64.wrap (l + 1)) + 1))), (5, I (i : Int))] rfl (Le.c rfl <| Le.c rfl <| Le.c rfl <| Le.e) ?_
                          refine CW.region ?_
                          refine RW.v rfl (V.mv (d := I (IntKind.i64.wrap ((IntKind.i64.wrap (l + 1)) + 1))) rfl rfl) ?_
                          refine RW.v rfl (V.arInt rfl rfl rfl rfl) ?_
                          refine RW.v rfl (V.as (d := I (IntKind.i64.wrap ((IntKind.i64.wrap ((IntKind.i64.wrap (l + 1)) + 1)) + 1))) rfl rfl) ?_
                          refine RW.nil ?_
                          refine CW.le [(0, .r (sl 3 Entry.c a)), (1, I (IntKind.i64.wrap ((IntKind.i64.wrap ((IntKind.i64.wrap (l + 1)) + 1)) + 1))), (5, I (i : Int))] rfl (Le.c rfl <| Le.c rfl <| Le.c rfl <| Le.e) ?_
                          refine CW.region ?_
                          refine RW.v rfl (V.mv (d := I (i : Int)) rfl rfl) ?_
                          refine RW.v rfl (V.inc rfl rfl rfl hii hl0) ?_
                          refine RW.v rfl (V.as (d := I ((i + 1 : Nat) : Int)) rfl rfl) ?_
                          refine RW.nil ?_
                          exact ⟨(i + 1, _), by simp only []; omega, ⟨by omega, by first | exact wrap_le _ | omega, by rw [← hr, hdi]; clear hr; first | rfl | (simp_all [hdL, hdEEntry, hdI, hdS, inc]; done) | grind [hdL, hdEEntry, hdI, hdS, inc]⟩, rfl, Le.c rfl <| Le.c rfl <| Le.c rfl <| Le.e⟩
              · skip
                refine RO.v (ls' := #[true, true, true, false, false, true, false, false]) rfl rfl (V.mv (d := I (IntKind.i64.wrap ((IntKind.i64.wrap (l + 1)) + 1))) rfl rfl) rfl ?_
                refine RA.step (L := [3, 6]) (by kernel_rfl) (by simp) (RA.each ?_ (RA.each ?_ (RA.each0)))
                · skip
                  refine RO.v (ls' := #[true, true, true, true, false, true, false, false]) rfl rfl (V.fieldR rfl rfl rfl rfl (by decide) rfl (Nat.le_of_ble_eq_true rfl)) rfl ?_
                  refine RA.step (L := [4, 6]) (by kernel_rfl) (by simp) (RA.each ?_ (RA.each ?_ (RA.each0)))
                  · skip
                    refine RO.v (ls' := #[true, true, true, true, true, true, false, false]) rfl rfl (V.loadPrimR (t0 := .v (.string ei.data)) rfl rfl (.inl rfl) rfl rfl) rfl ?_
                    refine RA.step (L := [6]) (by kernel_rfl) (by simp) (RA.each ?_ (RA.each0))
                    · skip
                      refine RO.call (ls' := #[true, true, true, true, true, true, true, false]) rfl rfl (laws_markText_fn (IntKind.i64.wrap ((IntKind.i64.wrap (l + 1)) + 1)) (by first | exact hlk | exact wrap_le _)) rfl (.cons (.one (.r .r)) (.nil)) rfl fun g40 => ?_
                      refine RA.step (L := [7]) (by kernel_rfl) (by simp) (RA.each ?_ (RA.each0))
                      · skip
                        refine RO.v (ls' := #[true, true, true, true, true, true, true, true]) rfl rfl (V.strCmp rfl rfl rfl rfl) rfl ?_
                        refine RA.fin (by kernel_rfl) ?_
                        refine CW.le [(0, .r (sl 3 Entry.c a)), (1, I (IntKind.i64.wrap ((IntKind.i64.wrap (l + 1)) + 1))), (5, I (i : Int)), (37, Bo (!(ei.data.toList == (mtext (IntKind.i64.wrap ((IntKind.i64.wrap (l + 1)) + 1))).toList)))] rfl (Le.c rfl <| Le.c rfl <| Le.c rfl <| Le.c rfl <| Le.e) ?_
                        refine CW.cond rfl (fun h41 => ?_) (fun h41 => ?_)
                        · skip
                          refine CW.seq ?_
                          refine CW.region ?_
                          refine RW.v rfl (V.as (d := I (-1)) rfl rfl) ?_
                          refine RW.nil ?_
                          refine CW.le [(4, I (-1))] rfl (Le.c rfl <| Le.e) ?_
                          refine CW.ret ?_
                          exact Post.one (RV.i rfl (by rw [← hr, hdi]; clear hr; first | rfl | (simp_all [hdL, hdEEntry, hdI, hdS, inc]; done) | grind [hdL, hdEEntry, hdI, hdS, inc])) (AOs.r (AOs.r AOs.e))
                        · skip
                          refine CW.skip ?_
                          refine CW.le [(0, .r (sl 3 Entry.c a)), (1, I (IntKind.i64.wrap ((IntKind.i64.wrap (l + 1)) + 1))), (5, I (i : Int))] rfl (Le.c rfl <| Le.c rfl <| Le.c rfl <| Le.e) ?_
                          refine CW.region ?_
                          refine RW.v rfl (V.mv (d := I (IntKind.i64.wrap ((IntKind.i64.wrap (l + 1)) + 1))) rfl rfl) ?_
                          refine RW.v rfl (V.arInt rfl rfl rfl rfl) ?_
                          refine RW.v rfl (V.as (d := I (IntKind.i64.wrap ((IntKind.i64.wrap ((IntKind.i64.wrap (l + 1)) + 1)) + 1))) rfl rfl) ?_
                          refine RW.nil ?_
                          refine CW.le [(0, .r (sl 3 Entry.c a)), (1, I (IntKind.i64.wrap ((IntKind.i64.wrap ((IntKind.i64.wrap (l + 1)) + 1)) + 1))), (5, I (i : Int))] rfl (Le.c rfl <| Le.c rfl <| Le.c rfl <| Le.e) ?_
                          refine CW.region ?_
                          refine RW.v rfl (V.mv (d := I (i : Int)) rfl rfl) ?_
                          refine RW.v rfl (V.inc rfl rfl rfl hii hl0) ?_
                          refine RW.v rfl (V.as (d := I ((i + 1 : Nat) : Int)) rfl rfl) ?_
                          refine RW.nil ?_
                          exact ⟨(i + 1, _), by simp only []; omega, ⟨by omega, by first | exact wrap_le _ | omega, by rw [← hr, hdi]; clear hr; first | rfl | (simp_all [hdL, hdEEntry, hdI, hdS, inc]; done) | grind [hdL, hdEEntry, hdI, hdS, inc]⟩, rfl, Le.c rfl <| Le.c rfl <| Le.c rfl <| Le.e⟩
                  · skip
                    refine RO.call (ls' := #[true, true, true, true, false, true, true, false]) rfl rfl (laws_markText_fn (IntKind.i64.wrap ((IntKind.i64.wrap (l + 1)) + 1)) (by first | exact hlk | exact wrap_le _)) rfl (.cons (.one (.r .r)) (.nil)) rfl fun g42 => ?_
                    refine RA.step (L := [4]) (by kernel_rfl) (by simp) (RA.each ?_ (RA.each0))
                    · skip
                      refine RO.v (ls' := #[true, true, true, true, true, true, true, false]) rfl rfl (V.loadPrimR (t0 := .v (.string ei.data)) rfl rfl (.inl rfl) rfl rfl) rfl ?_
                      refine RA.step (L := [7]) (by kernel_rfl) (by simp) (RA.each ?_ (RA.each0))
                      · skip
                        refine RO.v (ls' := #[true, true, true, true, true, true, true, true]) rfl rfl (V.strCmp rfl rfl rfl rfl) rfl ?_
                        refine RA.fin (by kernel_rfl) ?_
                        refine CW.le [(0, .r (sl 3 Entry.c a)), (1, I (IntKind.i64.wrap ((IntKind.i64.wrap (l + 1)) + 1))), (5, I (i : Int)), (37, Bo (!(ei.data.toList == (mtext (IntKind.i64.wrap ((IntKind.i64.wrap (l + 1)) + 1))).toList)))] rfl (Le.c rfl <| Le.c rfl <| Le.c rfl <| Le.c rfl <| Le.e) ?_
                        refine CW.cond rfl (fun h43 => ?_) (fun h43 => ?_)
                        · skip
                          refine CW.seq ?_
                          refine CW.region ?_
                          refine RW.v rfl (V.as (d := I (-1)) rfl rfl) ?_
                          refine RW.nil ?_
                          refine CW.le [(4, I (-1))] rfl (Le.c rfl <| Le.e) ?_
                          refine CW.ret ?_
                          exact Post.one (RV.i rfl (by rw [← hr, hdi]; clear hr; first | rfl | (simp_all [hdL, hdEEntry, hdI, hdS, inc]; done) | grind [hdL, hdEEntry, hdI, hdS, inc])) (AOs.r (AOs.r AOs.e))
                        · skip
                          refine CW.skip ?_
                          refine CW.le [(0, .r (sl 3 Entry.c a)), (1, I (IntKind.i64.wrap ((IntKind.i64.wrap (l + 1)) + 1))), (5, I (i : Int))] rfl (Le.c rfl <| Le.c rfl <| Le.c rfl <| Le.e) ?_
                          refine CW.region ?_
                          refine RW.v rfl (V.mv (d := I (IntKind.i64.wrap ((IntKind.i64.wrap (l + 1)) + 1))) rfl rfl) ?_
                          refine RW.v rfl (V.arInt rfl rfl rfl rfl) ?_
                          refine RW.v rfl (V.as (d := I (IntKind.i64.wrap ((IntKind.i64.wrap ((IntKind.i64.wrap (l + 1)) + 1)) + 1))) rfl rfl) ?_
                          refine RW.nil ?_
                          refine CW.le [(0, .r (sl 3 Entry.c a)), (1, I (IntKind.i64.wrap ((IntKind.i64.wrap ((IntKind.i64.wrap (l + 1)) + 1)) + 1))), (5, I (i : Int))] rfl (Le.c rfl <| Le.c rfl <| Le.c rfl <| Le.e) ?_
                          refine CW.region ?_
                          refine RW.v rfl (V.mv (d := I (i : Int)) rfl rfl) ?_
                          refine RW.v rfl (V.inc rfl rfl rfl hii hl0) ?_
                          refine RW.v rfl (V.as (d := I ((i + 1 : Nat) : Int)) rfl rfl) ?_
                          refine RW.nil ?_
                          exact ⟨(i + 1, _), by simp only []; omega, ⟨by omega, by first | exact wrap_le _ | omega, by rw [← hr, hdi]; clear hr; first | rfl | (simp_all [hdL, hdEEntry, hdI, hdS, inc]; done) | grind [hdL, hdEEntry, hdI, hdS, inc]⟩, rfl, Le.c rfl <| Le.c rfl <| Le.c rfl <| Le.e⟩
                · skip
                  refine RO.call (ls' := #[true, true, true, false, false, true, true, false]) rfl rfl (laws_markText_fn (IntKind.i64.wrap ((IntKind.i64.wrap (l + 1)) + 1)) (by first | exact hlk | exact wrap_le _)) rfl (.cons (.one (.r .r)) (.nil)) rfl fun g44 => ?_
                  refine RA.step (L := [3]) (by kernel_rfl) (by simp) (RA.each ?_ (RA.each0))
                  · skip
                    refine RO.v (ls' := #[true, true, true, true, false, true, true, false]) rfl rfl (V.fieldR rfl rfl rfl rfl (by decide) rfl (Nat.le_of_ble_eq_true rfl)) rfl ?_
                    refine RA.step (L := [4]) (by kernel_rfl) (by simp) (RA.each ?_ (RA.each0))
                    · skip
                      refine RO.v (ls' := #[true, true, true, true, true, true, true, false]) rfl rfl (V.loadPrimR (t0 := .v (.string ei.data)) rfl rfl (.inl rfl) rfl rfl) rfl ?_
                      refine RA.step (L := [7]) (by kernel_rfl) (by simp) (RA.each ?_ (RA.each0))
                      · skip
                        refine RO.v (ls' := #[true, true, true, true, true, true, true, true]) rfl rfl (V.strCmp rfl rfl rfl rfl) rfl ?_
                        refine RA.fin (by kernel_rfl) ?_
                        refine CW.le [(0, .r (sl 3 Entry.c a)), (1, I (IntKind.i64.wrap ((IntKind.i64.wrap (l + 1)) + 1))), (5, I (i : Int)), (37, Bo (!(ei.data.toList == (mtext (IntKind.i64.wrap ((IntKind.i64.wrap (l + 1)) + 1))).toList)))] rfl (Le.c rfl <| Le.c rfl <| Le.c rfl <| Le.c rfl <| Le.e) ?_
                        refine CW.cond rfl (fun h45 => ?_) (fun h45 => ?_)
                        · skip
                          refine CW.seq ?_
                          refine CW.region ?_
                          refine RW.v rfl (V.as (d := I (-1)) rfl rfl) ?_
                          refine RW.nil ?_
                          refine CW.le [(4, I (-1))] rfl (Le.c rfl <| Le.e) ?_
                          refine CW.ret ?_
                          exact Post.one (RV.i rfl (by rw [← hr, hdi]; clear hr; first | rfl | (simp_all [hdL, hdEEntry, hdI, hdS, inc]; done) | grind [hdL, hdEEntry, hdI, hdS, inc])) (AOs.r (AOs.r AOs.e))
                        · skip
                          refine CW.skip ?_
                          refine CW.le [(0, .r (sl 3 Entry.c a)), (1, I (IntKind.i64.wrap ((IntKind.i64.wrap (l + 1)) + 1))), (5, I (i : Int))] rfl (Le.c rfl <| Le.c rfl <| Le.c rfl <| Le.e) ?_
                          refine CW.region ?_
                          refine RW.v rfl (V.mv (d := I (IntKind.i64.wrap ((IntKind.i64.wrap (l + 1)) + 1))) rfl rfl) ?_
                          refine RW.v rfl (V.arInt rfl rfl rfl rfl) ?_
                          refine RW.v rfl (V.as (d := I (IntKind.i64.wrap ((IntKind.i64.wrap ((IntKind.i64.wrap (l + 1)) + 1)) + 1))) rfl rfl) ?_
                          refine RW.nil ?_
                          refine CW.le [(0, .r (sl 3 Entry.c a)), (1, I (IntKind.i64.wrap ((IntKind.i64.wrap ((IntKind.i64.wrap (l + 1)) + 1)) + 1))), (5, I (i : Int))] rfl (Le.c rfl <| Le.c rfl <| Le.c rfl <| Le.e) ?_
                          refine CW.region ?_
                          refine RW.v rfl (V.mv (d := I (i : Int)) rfl rfl) ?_
                          refine RW.v rfl (V.inc rfl rfl rfl hii hl0) ?_
                          refine RW.v rfl (V.as (d := I ((i + 1 : Nat) : Int)) rfl rfl) ?_
                          refine RW.nil ?_
                          exact ⟨(i + 1, _), by simp only []; omega, ⟨by omega, by first | exact wrap_le _ | omega, by rw [← hr, hdi]; clear hr; first | rfl | (simp_all [hdL, hdEEntry, hdI, hdS, inc]; done) | grind [hdL, hdEEntry, hdI, hdS, inc]⟩, rfl, Le.c rfl <| Le.c rfl <| Le.c rfl <| Le.e⟩
            · skip
              refine RO.v (ls' := #[true, true, false, false, false, true, false, false]) rfl rfl (V.mv (d := I (IntKind.i64.wrap ((IntKind.i64.wrap (l + 1)) + 1))) rfl rfl) rfl ?_
              refine RA.step (L := [2, 6]) (by kernel_rfl) (by simp) (RA.each ?_ (RA.each ?_ (RA.each0)))
              · skip
                refine RO.v (ls' := #[true, true, true, false, false, true, false, false]) rfl rfl (V.indexS rfl rfl rfl rfl rfl rfl Entry.len hei) rfl ?_
                refine RA.step (L := [3, 6]) (by kernel_rfl) (by simp) (RA.each ?_ (RA.each ?_ (RA.each0)))
                · skip
                  refine RO.v (ls' := #[true, true, true, true, false, true, false, false]) rfl rfl (V.fieldR rfl rfl rfl rfl (by decide) rfl (Nat.le_of_ble_eq_true rfl)) rfl ?_
                  refine RA.step (L := [4, 6]) (by kernel_rfl) (by simp) (RA.each ?_ (RA.each ?_ (RA.each0)))
                  · skip
                    refine RO.v (ls' := #[true, true, true, true, true, true, false, false]) rfl rfl (V.loadPrimR (t0 := .v (.string ei.data)) rfl rfl (.inl rfl) rfl rfl) rfl ?_
                    refine RA.step (L := [6]) (by kernel_rfl) (by simp) (RA.each ?_ (RA.each0))
                    · skip
                      refine RO.call (ls' := #[true, true, true, true, true, true, true, false]) rfl rfl (laws_markText_fn (IntKind.i64.wrap ((IntKind.i64.wrap (l + 1)) + 1)) (by first | exact hlk | exact wrap_le _)) rfl (.cons (.one (.r .r)) (.nil)) rfl fun g46 => ?_
                      refine RA.step (L := [7]) (by kernel_rfl) (by simp) (RA.each ?_ (RA.each0))
                      · skip
                        refine RO.v (ls' := #[true, true, true, true, true, true, true, true]) rfl rfl (V.strCmp rfl rfl rfl rfl) rfl ?_
                        refine RA.fin (by kernel_rfl) ?_
                        refine CW.le [(0, .r (sl 3 Entry.c a)), (1, I (IntKind.i64.wrap ((IntKind.i64.wrap (l + 1)) + 1))), (5, I (i : Int)), (37, Bo (!(ei.data.toList == (mtext (IntKind.i64.wrap ((IntKind.i64.wrap (l + 1)) + 1))).toList)))] rfl (Le.c rfl <| Le.c rfl <| Le.c rfl <| Le.c rfl <| Le.e) ?_
                        refine CW.cond rfl (fun h47 => ?_) (fun h47 => ?_)
                        · skip
                          refine CW.seq ?_
                          refine CW.region ?_
                          refine RW.v rfl (V.as (d := I (-1)) rfl rfl) ?_
                          refine RW.nil ?_
                          refine CW.le [(4, I (-1))] rfl (Le.c rfl <| Le.e) ?_
                          refine CW.ret ?_
                          exact Post.one (RV.i rfl (by rw [← hr, hdi]; clear hr; first | rfl | (simp_all [hdL, hdEEntry, hdI, hdS, inc]; done) | grind [hdL, hdEEntry, hdI, hdS, inc])) (AOs.r (AOs.r AOs.e))
                        · skip
                          refine CW.skip ?_
                          refine CW.le [(0, .r (sl 3 Entry.c a)), (1, I (IntKind.i64.wrap ((IntKind.i64.wrap (l + 1)) + 1))), (5, I (i : Int))] rfl (Le.c rfl <| Le.c rfl <| Le.c rfl <| Le.e) ?_
                          refine CW.region ?_
                          refine RW.v rfl (V.mv (d := I (IntKind.i64.wrap ((IntKind.i64.wrap (l + 1)) + 1))) rfl rfl) ?_
                          refine RW.v rfl (V.arInt rfl rfl rfl rfl) ?_
                          refine RW.v rfl (V.as (d := I (IntKind.i64.wrap ((IntKind.i64.wrap ((IntKind.i64.wrap (l + 1)) + 1)) + 1))) rfl rfl) ?_
                          refine RW.nil ?_
                          refine CW.le [(0, .r (sl 3 Entry.c a)), (1, I (IntKind.i64.wrap ((IntKind.i64.wrap ((IntKind.i64.wrap (l + 1)) + 1)) + 1))), (5, I (i : Int))] rfl (Le.c rfl <| Le.c rfl <| Le.c rfl <| Le.e) ?_
                          refine CW.region ?_
                          refine RW.v rfl (V.mv (d := I (i : Int)) rfl rfl) ?_
                          refine RW.v rfl (V.inc rfl rfl rfl hii hl0) ?_
                          refine RW.v rfl (V.as (d := I ((i + 1 : Nat) : Int)) rfl rfl) ?_
                          refine RW.nil ?_
                          exact ⟨(i + 1, _), by simp only []; omega, ⟨by omega, by first | exact wrap_le _ | omega, by rw [← hr, hdi]; clear hr; first | rfl | (simp_all [hdL, hdEEntry, hdI, hdS, inc]; done) | grind [hdL, hdEEntry, hdI, hdS, inc]⟩, rfl, Le.c rfl <| Le.c rfl <| Le.c rfl <| Le.e⟩
                  · skip
                    refine RO.call (ls' := #[true, true, true, true, false, true, true, false]) rfl rfl (laws_markText_fn (IntKind.i64.wrap ((IntKind.i64.wrap (l + 1)) + 1)) (by first | exact hlk | exact wrap_le _)) rfl (.cons (.one (.r .r)) (.nil)) rfl fun g48 => ?_
                    refine RA.step (L := [4]) (by kernel_rfl) (by simp) (RA.each ?_ (RA.each0))
                    · skip
                      refine RO.v (ls' := #[true, true, true, true, true, true, true, false]) rfl rfl (V.loadPrimR (t0 := .v (.string ei.data)) rfl rfl (.inl rfl) rfl rfl) rfl ?_
                      refine RA.step (L := [7]) (by kernel_rfl) (by simp) (RA.each ?_ (RA.each0))
                      · skip
                        refine RO.v (ls' := #[true, true, true, true, true, true, true, true]) rfl rfl (V.strCmp rfl rfl rfl rfl) rfl ?_
                        refine RA.fin (by kernel_rfl) ?_
                        refine CW.le [(0, .r (sl 3 Entry.c a)), (1, I (IntKind.i64.wrap ((IntKind.i64.wrap (l + 1)) + 1))), (5, I (i : Int)), (37, Bo (!(ei.data.toList == (mtext (IntKind.i64.wrap ((IntKind.i64.wrap (l + 1)) + 1))).toList)))] rfl (Le.c rfl <| Le.c rfl <| Le.c rfl <| Le.c rfl <| Le.e) ?_
                        refine CW.cond rfl (fun h49 => ?_) (fun h49 => ?_)
                        · skip
                          refine CW.seq ?_
                          refine CW.region ?_
                          refine RW.v rfl (V.as (d := I (-1)) rfl rfl) ?_
                          refine RW.nil ?_
                          refine CW.le [(4, I (-1))] rfl (Le.c rfl <| Le.e) ?_
                          refine CW.ret ?_
                          exact Post.one (RV.i rfl (by rw [← hr, hdi]; clear hr; first | rfl | (simp_all [hdL, hdEEntry, hdI, hdS, inc]; done) | grind [hdL, hdEEntry, hdI, hdS, inc])) (AOs.r (AOs.r AOs.e))
                        · skip
                          refine CW.skip ?_
                          refine CW.le [(0, .r (sl 3 Entry.c a)), (1, I (IntKind.i64.wrap ((IntKind.i64.wrap (l + 1)) + 1))), (5, I (i : Int))] rfl (Le.c rfl <| Le.c rfl <| Le.c rfl <| Le.e) ?_
                          refine CW.region ?_
                          refine RW.v rfl (V.mv (d := I (IntKind.i64.wrap ((IntKind.i64.wrap (l + 1)) + 1))) rfl rfl) ?_
                          refine RW.v rfl (V.arInt rfl rfl rfl rfl) ?_
                          refine RW.v rfl (V.as (d := I (IntKind.i64.wrap ((IntKind.i64.wrap ((IntKind.i64.wrap (l + 1)) + 1)) + 1))) rfl rfl) ?_
                          refine RW.nil ?_
                          refine CW.le [(0, .r (sl 3 Entry.c a)), (1, I (IntKind.i64.wrap ((IntKind.i64.wrap ((IntKind.i64.wrap (l + 1)) + 1)) + 1))), (5, I (i : Int))] rfl (Le.c rfl <| Le.c rfl <| Le.c rfl <| Le.e) ?_
                          refine CW.region ?_
                          refine RW.v rfl (V.mv (d := I (i : Int)) rfl rfl) ?_
                          refine RW.v rfl (V.inc rfl rfl rfl hii hl0) ?_
                          refine RW.v rfl (V.as (d := I ((i + 1 : Nat) : Int)) rfl rfl) ?_
                          refine RW.nil ?_
                          exact ⟨(i + 1, _), by simp only []; omega, ⟨by omega, by first | exact wrap_le _ | omega, by rw [← hr, hdi]; clear hr; first | rfl | (simp_all [hdL, hdEEntry, hdI, hdS, inc]; done) | grind [hdL, hdEEntry, hdI, hdS, inc]⟩, rfl, Le.c rfl <| Le.c rfl <| Le.c rfl <| Le.e⟩
                · skip
                  refine RO.call (ls' := #[true, true, true, false, false, true, true, false]) rfl rfl (laws_markText_fn (IntKind.i64.wrap ((IntKind.i64.wrap (l + 1)) + 1)) (by first | exact hlk | exact wrap_le _)) rfl (.cons (.one (.r .r)) (.nil)) rfl fun g50 => ?_
                  refine RA.step (L := [3]) (by kernel_rfl) (by simp) (RA.each ?_ (RA.each0))
                  · skip
                    refine RO.v (ls' := #[true, true, true, true, false, true, true, false]) rfl rfl (V.fieldR rfl rfl rfl rfl (by decide) rfl (Nat.le_of_ble_eq_true rfl)) rfl ?_
                    refine RA.step (L := [4]) (by kernel_rfl) (by simp) (RA.each ?_ (RA.each0))
                    · skip
                      refine RO.v (ls' := #[true, true, true, true, true, true, true, false]) rfl rfl (V.loadPrimR (t0 := .v (.string ei.data)) rfl rfl (.inl rfl) rfl rfl) rfl ?_
                      refine RA.step (L := [7]) (by kernel_rfl) (by simp) (RA.each ?_ (RA.each0))
                      · skip
                        refine RO.v (ls' := #[true, true, true, true, true, true, true, true]) rfl rfl (V.strCmp rfl rfl rfl rfl) rfl ?_
                        refine RA.fin (by kernel_rfl) ?_
                        refine CW.le [(0, .r (sl 3 Entry.c a)), (1, I (IntKind.i64.wrap ((IntKind.i64.wrap (l + 1)) + 1))), (5, I (i : Int)), (37, Bo (!(ei.data.toList == (mtext (IntKind.i64.wrap ((IntKind.i64.wrap (l + 1)) + 1))).toList)))] rfl (Le.c rfl <| Le.c rfl <| Le.c rfl <| Le.c rfl <| Le.e) ?_
                        refine CW.cond rfl (fun h51 => ?_) (fun h51 => ?_)
                        · skip
                          refine CW.seq ?_
                          refine CW.region ?_
                          refine RW.v rfl (V.as (d := I (-1)) rfl rfl) ?_
                          refine RW.nil ?_
                          refine CW.le [(4, I (-1))] rfl (Le.c rfl <| Le.e) ?_
                          refine CW.ret ?_
                          exact Post.one (RV.i rfl (by rw [← hr, hdi]; clear hr; first | rfl | (simp_all [hdL, hdEEntry, hdI, hdS, inc]; done) | grind [hdL, hdEEntry, hdI, hdS, inc])) (AOs.r (AOs.r AOs.e))
                        · skip
                          refine CW.skip ?_
                          refine CW.le [(0, .r (sl 3 Entry.c a)), (1, I (IntKind.i64.wrap ((IntKind.i64.wrap (l + 1)) + 1))), (5, I (i : Int))] rfl (Le.c rfl <| Le.c rfl <| Le.c rfl <| Le.e) ?_
                          refine CW.region ?_
                          refine RW.v rfl (V.mv (d := I (IntKind.i64.wrap ((IntKind.i64.wrap (l + 1)) + 1))) rfl rfl) ?_
                          refine RW.v rfl (V.arInt rfl rfl rfl rfl) ?_
                          refine RW.v rfl (V.as (d := I (IntKind.i64.wrap ((IntKind.i64.wrap ((IntKind.i64.wrap (l + 1)) + 1)) + 1))) rfl rfl) ?_
                          refine RW.nil ?_
                          refine CW.le [(0, .r (sl 3 Entry.c a)), (1, I (IntKind.i64.wrap ((IntKind.i64.wrap ((IntKind.i64.wrap (l + 1)) + 1)) + 1))), (5, I (i : Int))] rfl (Le.c rfl <| Le.c rfl <| Le.c rfl <| Le.e) ?_
                          refine CW.region ?_
                          refine RW.v rfl (V.mv (d := I (i : Int)) rfl rfl) ?_
                          refine RW.v rfl (V.inc rfl rfl rfl hii hl0) ?_
                          refine RW.v rfl (V.as (d := I ((i + 1 : Nat) : Int)) rfl rfl) ?_
                          refine RW.nil ?_
                          exact ⟨(i + 1, _), by simp only []; omega, ⟨by omega, by first | exact wrap_le _ | omega, by rw [← hr, hdi]; clear hr; first | rfl | (simp_all [hdL, hdEEntry, hdI, hdS, inc]; done) | grind [hdL, hdEEntry, hdI, hdS, inc]⟩, rfl, Le.c rfl <| Le.c rfl <| Le.c rfl <| Le.e⟩
              · skip
                refine RO.call (ls' := #[true, true, false, false, false, true, true, false]) rfl rfl (laws_markText_fn (IntKind.i64.wrap ((IntKind.i64.wrap (l + 1)) + 1)) (by first | exact hlk | exact wrap_le _)) rfl (.cons (.one (.r .r)) (.nil)) rfl fun g52 => ?_
                refine RA.step (L := [2]) (by kernel_rfl) (by simp) (RA.each ?_ (RA.each0))
                · skip
                  refine RO.v (ls' := #[true, true, true, false, false, true, true, false]) rfl rfl (V.indexS rfl rfl rfl rfl rfl rfl Entry.len hei) rfl ?_
                  refine RA.step (L := [3]) (by kernel_rfl) (by simp) (RA.each ?_ (RA.each0))
                  · skip
                    refine RO.v (ls' := #[true, true, true, true, false, true, true, false]) rfl rfl (V.fieldR rfl rfl rfl rfl (by decide) rfl (Nat.le_of_ble_eq_true rfl)) rfl ?_
                    refine RA.step (L := [4]) (by kernel_rfl) (by simp) (RA.each ?_ (RA.each0))
                    · skip
                      refine RO.v (ls' := #[true, true, true, true, true, true, true, false]) rfl rfl (V.loadPrimR (t0 := .v (.string ei.data)) rfl rfl (.inl rfl) rfl rfl) rfl ?_
                      refine RA.step (L := [7]) (by kernel_rfl) (by simp) (RA.each ?_ (RA.each0))
                      · skip
                        refine RO.v (ls' := #[true, true, true, true, true, true, true, true]) rfl rfl (V.strCmp rfl rfl rfl rfl) rfl ?_
                        refine RA.fin (by kernel_rfl) ?_
                        refine CW.le [(0, .r (sl 3 Entry.c a)), (1, I (IntKind.i64.wrap ((IntKind.i64.wrap (l + 1)) + 1))), (5, I (i : Int)), (37, Bo (!(ei.data.toList == (mtext (IntKind.i64.wrap ((IntKind.i64.wrap (l + 1)) + 1))).toList)))] rfl (Le.c rfl <| Le.c rfl <| Le.c rfl <| Le.c rfl <| Le.e) ?_
                        refine CW.cond rfl (fun h53 => ?_) (fun h53 => ?_)
                        · skip
                          refine CW.seq ?_
                          refine CW.region ?_
                          refine RW.v rfl (V.as (d := I (-1)) rfl rfl) ?_
                          refine RW.nil ?_
                          refine CW.le [(4, I (-1))] rfl (Le.c rfl <| Le.e) ?_
                          refine CW.ret ?_
                          exact Post.one (RV.i rfl (by rw [← hr, hdi]; clear hr; first | rfl | (simp_all [hdL, hdEEntry, hdI, hdS, inc]; done) | grind [hdL, hdEEntry, hdI, hdS, inc])) (AOs.r (AOs.r AOs.e))
                        · skip
                          refine CW.skip ?_
                          refine CW.le [(0, .r (sl 3 Entry.c a)), (1, I (IntKind.i64.wrap ((IntKind.i64.wrap (l + 1)) + 1))), (5, I (i : Int))] rfl (Le.c rfl <| Le.c rfl <| Le.c rfl <| Le.e) ?_
                          refine CW.region ?_
                          refine RW.v rfl (V.mv (d := I (IntKind.i64.wrap ((IntKind.i64.wrap (l + 1)) + 1))) rfl rfl) ?_
                          refine RW.v rfl (V.arInt rfl rfl rfl rfl) ?_
                          refine RW.v rfl (V.as (d := I (IntKind.i64.wrap ((IntKind.i64.wrap ((IntKind.i64.wrap (l + 1)) + 1)) + 1))) rfl rfl) ?_
                          refine RW.nil ?_
                          refine CW.le [(0, .r (sl 3 Entry.c a)), (1, I (IntKind.i64.wrap ((IntKind.i64.wrap ((IntKind.i64.wrap (l + 1)) + 1)) + 1))), (5, I (i : Int))] rfl (Le.c rfl <| Le.c rfl <| Le.c rfl <| Le.e) ?_
                          refine CW.region ?_
                          refine RW.v rfl (V.mv (d := I (i : Int)) rfl rfl) ?_
                          refine RW.v rfl (V.inc rfl rfl rfl hii hl0) ?_
                          refine RW.v rfl (V.as (d := I ((i + 1 : Nat) : Int)) rfl rfl) ?_
                          refine RW.nil ?_
                          exact ⟨(i + 1, _), by simp only []; omega, ⟨by omega, by first | exact wrap_le _ | omega, by rw [← hr, hdi]; clear hr; first | rfl | (simp_all [hdL, hdEEntry, hdI, hdS, inc]; done) | grind [hdL, hdEEntry, hdI, hdS, inc]⟩, rfl, Le.c rfl <| Le.c rfl <| Le.c rfl <| Le.e⟩
          · skip
            refine RO.v (ls' := #[false, true, false, false, false, true, false, false]) rfl rfl (V.mv (d := I (IntKind.i64.wrap ((IntKind.i64.wrap (l + 1)) + 1))) rfl rfl) rfl ?_
            refine RA.step (L := [0, 6]) (by kernel_rfl) (by simp) (RA.each ?_ (RA.each ?_ (RA.each0)))
            · skip
              refine RO.v (ls' := #[true, true, false, false, false, true, false, false]) rfl rfl (V.mv (d := .r (sl 3 Entry.c a)) rfl rfl) rfl ?_
              refine RA.step (L := [2, 6]) (by kernel_rfl) (by simp) (RA.each ?_ (RA.each ?_ (RA.each0)))
              · skip
                refine RO.v (ls' := #[true, true, true, false, false, true, false, false]) rfl rfl (V.indexS rfl rfl rfl rfl rfl rfl Entry.len hei) rfl ?_
                refine RA.step (L := [3, 6]) (by kernel_rfl) (by simp) (RA.each ?_ (RA.each ?_ (RA.each0)))
                · skip
                  refine RO.v (ls' := #[true, true, true, true, false, true, false, false]) rfl rfl (V.fieldR rfl rfl rfl rfl (by decide) rfl (Nat.le_of_ble_eq_true rfl)) rfl ?_
                  refine RA.step (L := [4, 6]) (by kernel_rfl) (by simp) (RA.each ?_ (RA.each ?_ (RA.each0)))
                  · skip
                    refine RO.v (ls' := #[true, true, true, true, true, true, false, false]) rfl rfl (V.loadPrimR (t0 := .v (.string ei.data)) rfl rfl (.inl rfl) rfl rfl) rfl ?_
                    refine RA.step (L := [6]) (by kernel_rfl) (by simp) (RA.each ?_ (RA.each0))
                    · skip
                      refine RO.call (ls' := #[true, true, true, true, true, true, true, false]) rfl rfl (laws_markText_fn (IntKind.i64.wrap ((IntKind.i64.wrap (l + 1)) + 1)) (by first | exact hlk | exact wrap_le _)) rfl (.cons (.one (.r .r)) (.nil)) rfl fun g54 => ?_
                      refine RA.step (L := [7]) (by kernel_rfl) (by simp) (RA.each ?_ (RA.each0))
                      · skip
                        refine RO.v (ls' := #[true, true, true, true, true, true, true, true]) rfl rfl (V.strCmp rfl rfl rfl rfl) rfl ?_
                        refine RA.fin (by kernel_rfl) ?_
                        refine CW.le [(0, .r (sl 3 Entry.c a)), (1, I (IntKind.i64.wrap ((IntKind.i64.wrap (l + 1)) + 1))), (5, I (i : Int)), (37, Bo (!(ei.data.toList == (mtext (IntKind.i64.wrap ((IntKind.i64.wrap (l + 1)) + 1))).toList)))] rfl (Le.c rfl <| Le.c rfl <| Le.c rfl <| Le.c rfl <| Le.e) ?_
                        refine CW.cond rfl (fun h55 => ?_) (fun h55 => ?_)
                        · skip
                          refine CW.seq ?_
                          refine CW.region ?_
                          refine RW.v rfl (V.as (d := I (-1)) rfl rfl) ?_
                          refine RW.nil ?_
                          refine CW.le [(4, I (-1))] rfl (Le.c rfl <| Le.e) ?_
                          refine CW.ret ?_
                          exact Post.one (RV.i rfl (by rw [← hr, hdi]; clear hr; first | rfl | (simp_all [hdL, hdEEntry, hdI, hdS, inc]; done) | grind [hdL, hdEEntry, hdI, hdS, inc])) (AOs.r (AOs.r AOs.e))
                        · skip
                          refine CW.skip ?_
                          refine CW.le [(0, .r (sl 3 Entry.c a)), (1, I (IntKind.i64.wrap ((IntKind.i64.wrap (l + 1)) + 1))), (5, I (i : Int))] rfl (Le.c rfl <| Le.c rfl <| Le.c rfl <| Le.e) ?_
                          refine CW.region ?_
                          refine RW.v rfl (V.mv (d := I (IntKind.i64.wrap ((IntKind.i64.wrap (l + 1)) + 1))) rfl rfl) ?_
                          refine RW.v rfl (V.arInt rfl rfl rfl rfl) ?_
                          refine RW.v rfl (V.as (d := I (IntKind.i64.wrap ((IntKind.i64.wrap ((IntKind.i64.wrap (l + 1)) + 1)) + 1))) rfl rfl) ?_
                          refine RW.nil ?_
                          refine CW.le [(0, .r (sl 3 Entry.c a)), (1, I (IntKind.i64.wrap ((IntKind.i64.wrap ((IntKind.i64.wrap (l + 1)) + 1)) + 1))), (5, I (i : Int))] rfl (Le.c rfl <| Le.c rfl <| Le.c rfl <| Le.e) ?_
                          refine CW.region ?_
                          refine RW.v rfl (V.mv (d := I (i : Int)) rfl rfl) ?_
                          refine RW.v rfl (V.inc rfl rfl rfl hii hl0) ?_
                          refine RW.v rfl (V.as (d := I ((i + 1 : Nat) : Int)) rfl rfl) ?_
                          refine RW.nil ?_
                          exact ⟨(i + 1, _), by simp only []; omega, ⟨by omega, by first | exact wrap_le _ | omega, by rw [← hr, hdi]; clear hr; first | rfl | (simp_all [hdL, hdEEntry, hdI, hdS, inc]; done) | grind [hdL, hdEEntry, hdI, hdS, inc]⟩, rfl, Le.c rfl <| Le.c rfl <| Le.c rfl <| Le.e⟩
                  · skip
                    refine RO.call (ls' := #[true, true, true, true, false, true, true, false]) rfl rfl (laws_markText_fn (IntKind.i64.wrap ((IntKind.i64.wrap (l + 1)) + 1)) (by first | exact hlk | exact wrap_le _)) rfl (.cons (.one (.r .r)) (.nil)) rfl fun g56 => ?_
                    refine RA.step (L := [4]) (by kernel_rfl) (by simp) (RA.each ?_ (RA.each0))
                    · skip
                      refine RO.v (ls' := #[true, true, true, true, true, true, true, false]) rfl rfl (V.loadPrimR (t0 := .v (.string ei.data)) rfl rfl (.inl rfl) rfl rfl) rfl ?_
                      refine RA.step (L := [7]) (by kernel_rfl) (by simp) (RA.each ?_ (RA.each0))
                      · skip
                        refine RO.v (ls' := #[true, true, true, true, true, true, true, true]) rfl rfl (V.strCmp rfl rfl rfl rfl) rfl ?_
                        refine RA.fin (by kernel_rfl) ?_
                        refine CW.le [(0, .r (sl 3 Entry.c a)), (1, I (IntKind.i64.wrap ((IntKind.i64.wrap (l + 1)) + 1))), (5, I (i : Int)), (37, Bo (!(ei.data.toList == (mtext (IntKind.i64.wrap ((IntKind.i64.wrap (l + 1)) + 1))).toList)))] rfl (Le.c rfl <| Le.c rfl <| Le.c rfl <| Le.c rfl <| Le.e) ?_
                        refine CW.cond rfl (fun h57 => ?_) (fun h57 => ?_)
                        · skip
                          refine CW.seq ?_
                          refine CW.region ?_
                          refine RW.v rfl (V.as (d := I (-1)) rfl rfl) ?_
                          refine RW.nil ?_
                          refine CW.le [(4, I (-1))] rfl (Le.c rfl <| Le.e) ?_
                          refine CW.ret ?_
                          exact Post.one (RV.i rfl (by rw [← hr, hdi]; clear hr; first | rfl | (simp_all [hdL, hdEEntry, hdI, hdS, inc]; done) | grind [hdL, hdEEntry, hdI, hdS, inc])) (AOs.r (AOs.r AOs.e))
                        · skip
                          refine CW.skip ?_
                          refine CW.le [(0, .r (sl 3 Entry.c a)), (1, I (IntKind.i64.wrap ((IntKind.i64.wrap (l + 1)) + 1))), (5, I (i : Int))] rfl (Le.c rfl <| Le.c rfl <| Le.c rfl <| Le.e) ?_
                          refine CW.region ?_
                          refine RW.v rfl (V.mv (d := I (IntKind.i64.wrap ((IntKind.i64.wrap (l + 1)) + 1))) rfl rfl) ?_
                          refine RW.v rfl (V.arInt rfl rfl rfl rfl) ?_
                          refine RW.v rfl (V.as (d := I (IntKind.i64.wrap ((IntKind.i64.wrap ((IntKind.i64.wrap (l + 1)) + 1)) + 1))) rfl rfl) ?_
                          refine RW.nil ?_
                          refine CW.le [(0, .r (sl 3 Entry.c a)), (1, I (IntKind.i64.wrap ((IntKind.i64.wrap ((IntKind.i64.wrap (l + 1)) + 1)) + 1))), (5, I (i : Int))] rfl (Le.c rfl <| Le.c rfl <| Le.c rfl <| Le.e) ?_
                          refine CW.region ?_
                          refine RW.v rfl (V.mv (d := I (i : Int)) rfl rfl) ?_
                          refine RW.v rfl (V.inc rfl rfl rfl hii hl0) ?_
                          refine RW.v rfl (V.as (d := I ((i + 1 : Nat) : Int)) rfl rfl) ?_
                          refine RW.nil ?_
                          exact ⟨(i + 1, _), by simp only []; omega, ⟨by omega, by first | exact wrap_le _ | omega, by rw [← hr, hdi]; clear hr; first | rfl | (simp_all [hdL, hdEEntry, hdI, hdS, inc]; done) | grind [hdL, hdEEntry, hdI, hdS, inc]⟩, rfl, Le.c rfl <| Le.c rfl <| Le.c rfl <| Le.e⟩
                · skip
                  refine RO.call (ls' := #[true, true, true, false, false, true, true, false]) rfl rfl (laws_markText_fn (IntKind.i64.wrap ((IntKind.i64.wrap (l + 1)) + 1)) (by first | exact hlk | exact wrap_le _)) rfl (.cons (.one (.r .r)) (.nil)) rfl fun g58 => ?_
                  refine RA.step (L := [3]) (by kernel_rfl) (by simp) (RA.each ?_ (RA.each0))
                  · skip
                    refine RO.v (ls' := #[true, true, true, true, false, true, true, false]) rfl rfl (V.fieldR rfl rfl rfl rfl (by decide) rfl (Nat.le_of_ble_eq_true rfl)) rfl ?_
                    refine RA.step (L := [4]) (by kernel_rfl) (by simp) (RA.each ?_ (RA.each0))
                    · skip
                      refine RO.v (ls' := #[true, true, true, true, true, true, true, false]) rfl rfl (V.loadPrimR (t0 := .v (.string ei.data)) rfl rfl (.inl rfl) rfl rfl) rfl ?_
                      refine RA.step (L := [7]) (by kernel_rfl) (by simp) (RA.each ?_ (RA.each0))
                      · skip
                        refine RO.v (ls' := #[true, true, true, true, true, true, true, true]) rfl rfl (V.strCmp rfl rfl rfl rfl) rfl ?_
                        refine RA.fin (by kernel_rfl) ?_
                        refine CW.le [(0, .r (sl 3 Entry.c a)), (1, I (IntKind.i64.wrap ((IntKind.i64.wrap (l + 1)) + 1))), (5, I (i : Int)), (37, Bo (!(ei.data.toList == (mtext (IntKind.i64.wrap ((IntKind.i64.wrap (l + 1)) + 1))).toList)))] rfl (Le.c rfl <| Le.c rfl <| Le.c rfl <| Le.c rfl <| Le.e) ?_
                        refine CW.cond rfl (fun h59 => ?_) (fun h59 => ?_)
                        · skip
                          refine CW.seq ?_
                          refine CW.region ?_
                          refine RW.v rfl (V.as (d := I (-1)) rfl rfl) ?_
                          refine RW.nil ?_
                          refine CW.le [(4, I (-1))] rfl (Le.c rfl <| Le.e) ?_
                          refine CW.ret ?_
                          exact Post.one (RV.i rfl (by rw [← hr, hdi]; clear hr; first | rfl | (simp_all [hdL, hdEEntry, hdI, hdS, inc]; done) | grind [hdL, hdEEntry, hdI, hdS, inc])) (AOs.r (AOs.r AOs.e))
                        · skip
                          refine CW.skip ?_
                          refine CW.le [(0, .r (sl 3 Entry.c a)), (1, I (IntKind.i64.wrap ((IntKind.i64.wrap (l + 1)) + 1))), (5, I (i : Int))] rfl (Le.c rfl <| Le.c rfl <| Le.c rfl <| Le.e) ?_
                          refine CW.region ?_
                          refine RW.v rfl (V.mv (d := I (IntKind.i64.wrap ((IntKind.i64.wrap (l + 1)) + 1))) rfl rfl) ?_
                          refine RW.v rfl (V.arInt rfl rfl rfl rfl) ?_
                          refine RW.v rfl (V.as (d := I (IntKind.i64.wrap ((IntKind.i64.wrap ((IntKind.i64.wrap (l + 1)) + 1)) + 1))) rfl rfl) ?_
                          refine RW.nil ?_
                          refine CW.le [(0, .r (sl 3 Entry.c a)), (1, I (IntKind.i64.wrap ((IntKind.i64.wrap ((IntKind.i64.wrap (l + 1)) + 1)) + 1))), (5, I (i : Int))] rfl (Le.c rfl <| Le.c rfl <| Le.c rfl <| Le.e) ?_
                          refine CW.region ?_
                          refine RW.v rfl (V.mv (d := I (i : Int)) rfl rfl) ?_
                          refine RW.v rfl (V.inc rfl rfl rfl hii hl0) ?_
                          refine RW.v rfl (V.as (d := I ((i + 1 : Nat) : Int)) rfl rfl) ?_
                          refine RW.nil ?_
                          exact ⟨(i + 1, _), by simp only []; omega, ⟨by omega, by first | exact wrap_le _ | omega, by rw [← hr, hdi]; clear hr; first | rfl | (simp_all [hdL, hdEEntry, hdI, hdS, inc]; done) | grind [hdL, hdEEntry, hdI, hdS, inc]⟩, rfl, Le.c rfl <| Le.c rfl <| Le.c rfl <| Le.e⟩
              · skip
                refine RO.call (ls' := #[true, true, false, false, false, true, true, false]) rfl rfl (laws_markText_fn (IntKind.i64.wrap ((IntKind.i64.wrap (l + 1)) + 1)) (by first | exact hlk | exact wrap_le _)) rfl (.cons (.one (.r .r)) (.nil)) rfl fun g60 => ?_
                refine RA.step (L := [2]) (by kernel_rfl) (by simp) (RA.each ?_ (RA.each0))
                · skip
                  refine RO.v (ls' := #[true, true, true, false, false, true, true, false]) rfl rfl (V.indexS rfl rfl rfl rfl rfl rfl Entry.len hei) rfl ?_
                  refine RA.step (L := [3]) (by kernel_rfl) (by simp) (RA.each ?_ (RA.each0))
                  · skip
                    refine RO.v (ls' := #[true, true, true, true, false, true, true, false]) rfl rfl (V.fieldR rfl rfl rfl rfl (by decide) rfl (Nat.le_of_ble_eq_true rfl)) rfl ?_
                    refine RA.step (L := [4]) (by kernel_rfl) (by simp) (RA.each ?_ (RA.each0))
                    · skip
                      refine RO.v (ls' := #[true, true, true, true, true, true, true, false]) rfl rfl (V.loadPrimR (t0 := .v (.string ei.data)) rfl rfl (.inl rfl) rfl rfl) rfl ?_
                      refine RA.step (L := [7]) (by kernel_rfl) (by simp) (RA.each ?_ (RA.each0))
                      · skip
                        refine RO.v (ls' := #[true, true, true, true, true, true, true, true]) rfl rfl (V.strCmp rfl rfl rfl rfl) rfl ?_
                        refine RA.fin (by kernel_rfl) ?_
                        refine CW.le [(0, .r (sl 3 Entry.c a)), (1, I (IntKind.i64.wrap ((IntKind.i64.wrap (l + 1)) + 1))), (5, I (i : Int)), (37, Bo (!(ei.data.toList == (mtext (IntKind.i64.wrap ((IntKind.i64.wrap (l + 1)) + 1))).toList)))] rfl (Le.c rfl <| Le.c rfl <| Le.c rfl <| Le.c rfl <| Le.e) ?_
                        refine CW.cond rfl (fun h61 => ?_) (fun h61 => ?_)
                        · skip
                          refine CW.seq ?_
                          refine CW.region ?_
                          refine RW.v rfl (V.as (d := I (-1)) rfl rfl) ?_
                          refine RW.nil ?_
                          refine CW.le [(4, I (-1))] rfl (Le.c rfl <| Le.e) ?_
                          refine CW.ret ?_
                          exact Post.one (RV.i rfl (by rw [← hr, hdi]; clear hr; first | rfl | (simp_all [hdL, hdEEntry, hdI, hdS, inc]; done) | grind [hdL, hdEEntry, hdI, hdS, inc])) (AOs.r (AOs.r AOs.e))
                        · skip
                          refine CW.skip ?_
                          refine CW.le [(0, .r (sl 3 Entry.c a)), (1, I (IntKind.i64.wrap ((IntKind.i64.wrap (l + 1)) + 1))), (5, I (i : Int))] rfl (Le.c rfl <| Le.c rfl <| Le.c rfl <| Le.e) ?_
                          refine CW.region ?_
                          refine RW.v rfl (V.mv (d := I (IntKind.i64.wrap ((IntKind.i64.wrap (l + 1)) + 1))) rfl rfl) ?_
                          refine RW.v rfl (V.arInt rfl rfl rfl rfl) ?_
                          refine RW.v rfl (V.as (d := I (IntKind.i64.wrap ((IntKind.i64.wrap ((IntKind.i64.wrap (l + 1)) + 1)) + 1))) rfl rfl) ?_
                          refine RW.nil ?_
                          refine CW.le [(0, .r (sl 3 Entry.c a)), (1, I (IntKind.i64.wrap ((IntKind.i64.wrap ((IntKind.i64.wrap (l + 1)) + 1)) + 1))), (5, I (i : Int))] rfl (Le.c rfl <| Le.c rfl <| Le.c rfl <| Le.e) ?_
                          refine CW.region ?_
                          refine RW.v rfl (V.mv (d := I (i : Int)) rfl rfl) ?_
                          refine RW.v rfl (V.inc rfl rfl rfl hii hl0) ?_
                          refine RW.v rfl (V.as (d := I ((i + 1 : Nat) : Int)) rfl rfl) ?_
                          refine RW.nil ?_
                          exact ⟨(i + 1, _), by simp only []; omega, ⟨by omega, by first | exact wrap_le _ | omega, by rw [← hr, hdi]; clear hr; first | rfl | (simp_all [hdL, hdEEntry, hdI, hdS, inc]; done) | grind [hdL, hdEEntry, hdI, hdS, inc]⟩, rfl, Le.c rfl <| Le.c rfl <| Le.c rfl <| Le.e⟩
            · skip
              refine RO.call (ls' := #[false, true, false, false, false, true, true, false]) rfl rfl (laws_markText_fn (IntKind.i64.wrap ((IntKind.i64.wrap (l + 1)) + 1)) (by first | exact hlk | exact wrap_le _)) rfl (.cons (.one (.r .r)) (.nil)) rfl fun g62 => ?_
              refine RA.step (L := [0]) (by kernel_rfl) (by simp) (RA.each ?_ (RA.each0))
              · skip
                refine RO.v (ls' := #[true, true, false, false, false, true, true, false]) rfl rfl (V.mv (d := .r (sl 3 Entry.c a)) rfl rfl) rfl ?_
                refine RA.step (L := [2]) (by kernel_rfl) (by simp) (RA.each ?_ (RA.each0))
                · skip
                  refine RO.v (ls' := #[true, true, true, false, false, true, true, false]) rfl rfl (V.indexS rfl rfl rfl rfl rfl rfl Entry.len hei) rfl ?_
                  refine RA.step (L := [3]) (by kernel_rfl) (by simp) (RA.each ?_ (RA.each0))
                  · skip
                    refine RO.v (ls' := #[true, true, true, true, false, true, true, false]) rfl rfl (V.fieldR rfl rfl rfl rfl (by decide) rfl (Nat.le_of_ble_eq_true rfl)) rfl ?_
                    refine RA.step (L := [4]) (by kernel_rfl) (by simp) (RA.each ?_ (RA.each0))
                    · skip
                      refine RO.v (ls' := #[true, true, true, true, true, true, true, false]) rfl rfl (V.loadPrimR (t0 := .v (.string ei.data)) rfl rfl (.inl rfl) rfl rfl) rfl ?_
                      refine RA.step (L := [7]) (by kernel_rfl) (by simp) (RA.each ?_ (RA.each0))
                      · skip
                        refine RO.v (ls' := #[true, true, true, true, true, true, true, true]) rfl rfl (V.strCmp rfl rfl rfl rfl) rfl ?_
                        refine RA.fin (by kernel_rfl) ?_
                        refine CW.le [(0, .r (sl 3 Entry.c a)), (1, I (IntKind.i64.wrap ((IntKind.i64.wrap (l + 1)) + 1))), (5, I (i : Int)), (37, Bo (!(ei.data.toList == (mtext (IntKind.i64.wrap ((IntKind.i64.wrap (l + 1)) + 1))).toList)))] rfl (Le.c rfl <| Le.c rfl <| Le.c rfl <| Le.c rfl <| Le.e) ?_
                        refine CW.cond rfl (fun h63 => ?_) (fun h63 => ?_)
                        · skip
                          refine CW.seq ?_
                          refine CW.region ?_
                          refine RW.v rfl (V.as (d := I (-1)) rfl rfl) ?_
                          refine RW.nil ?_
                          refine CW.le [(4, I (-1))] rfl (Le.c rfl <| Le.e) ?_
                          refine CW.ret ?_
                          exact Post.one (RV.i rfl (by rw [← hr, hdi]; clear hr; first | rfl | (simp_all [hdL, hdEEntry, hdI, hdS, inc]; done) | grind [hdL, hdEEntry, hdI, hdS, inc])) (AOs.r (AOs.r AOs.e))
                        · skip
                          refine CW.skip ?_
                          refine CW.le [(0, .r (sl 3 Entry.c a)), (1, I (IntKind.i64.wrap ((IntKind.i64.wrap (l + 1)) + 1))), (5, I (i : Int))] rfl (Le.c rfl <| Le.c rfl <| Le.c rfl <| Le.e) ?_
                          refine CW.region ?_
                          refine RW.v rfl (V.mv (d := I (IntKind.i64.wrap ((IntKind.i64.wrap (l + 1)) + 1))) rfl rfl) ?_
                          refine RW.v rfl (V.arInt rfl rfl rfl rfl) ?_
                          refine RW.v rfl (V.as (d := I (IntKind.i64.wrap ((IntKind.i64.wrap ((IntKind.i64.wrap (l + 1)) + 1)) + 1))) rfl rfl) ?_
                          refine RW.nil ?_
                          refine CW.le [(0, .r (sl 3 Entry.c a)), (1, I (IntKind.i64.wrap ((IntKind.i64.wrap ((IntKind.i64.wrap (l + 1)) + 1)) + 1))), (5, I (i : Int))] rfl (Le.c rfl <| Le.c rfl <| Le.c rfl <| Le.e) ?_
                          refine CW.region ?_
                          refine RW.v rfl (V.mv (d := I (i : Int)) rfl rfl) ?_
                          refine RW.v rfl (V.inc rfl rfl rfl hii hl0) ?_
                          refine RW.v rfl (V.as (d := I ((i + 1 : Nat) : Int)) rfl rfl) ?_
                          refine RW.nil ?_
                          exact ⟨(i + 1, _), by simp only []; omega, ⟨by omega, by first | exact wrap_le _ | omega, by rw [← hr, hdi]; clear hr; first | rfl | (simp_all [hdL, hdEEntry, hdI, hdS, inc]; done) | grind [hdL, hdEEntry, hdI, hdS, inc]⟩, rfl, Le.c rfl <| Le.c rfl <| Le.c rfl <| Le.e⟩
        · skip
          refine RO.v (ls' := #[false, false, false, false, false, true, false, false]) rfl rfl (V.mv (d := I (IntKind.i64.wrap ((IntKind.i64.wrap (l + 1)) + 1))) rfl rfl) rfl ?_
          refine RA.step (L := [0, 1, 6]) (by kernel_rfl) (by simp) (RA.each ?_ (RA.each ?_ (RA.each ?_ (RA.each0))))
          · skip
            refine RO.v (ls' := #[true, false, false, false, false, true, false, false]) rfl rfl (V.mv (d := .r (sl 3 Entry.c a)) rfl rfl) rfl ?_
            refine RA.step (L := [1, 6]) (by kernel_rfl) (by simp) (RA.each ?_ (RA.each ?_ (RA.each0)))
            · skip
              refine RO.v (ls' := #[true, true, false, false, false, true, false, false]) rfl rfl (V.mv (d := I (i : Int)) rfl rfl) rfl ?_
              refine RA.step (L := [2, 6]) (by kernel_rfl) (by simp) (RA.each ?_ (RA.each ?_ (RA.each0)))
              · skip
                refine RO.v (ls' := #[true, true, true, false, false, true, false, false]) rfl rfl (V.indexS rfl rfl rfl rfl rfl rfl Entry.len hei) rfl ?_
                refine RA.step (L := [3, 6]) (by kernel_rfl) (by simp) (RA.each ?_ (RA.each ?_ (RA.each0)))
                · skip
                  refine RO.v (ls' := #[true, true, true, true, false, true, false, false]) rfl rfl (V.fieldR rfl rfl rfl rfl (by decide) rfl (Nat.le_of_ble_eq_true rfl)) rfl ?_
                  refine RA.step (L := [4, 6]) (by kernel_rfl) (by simp) (RA.each ?_ (RA.each ?_ (RA.each0)))
                  · skip
                    refine RO.v (ls' := #[true, true, true, true, true, true, false, false]) rfl rfl (V.loadPrimR (t0 := .v (.string ei.data)) rfl rfl (.inl rfl) rfl rfl) rfl ?_
                    refine RA.step (L := [6]) (by kernel_rfl) (by simp) (RA.each ?_ (RA.each0))
                    · skip
                      refine RO.call (ls' := #[true, true, true, true, true, true, true, false]) rfl rfl (laws_markText_fn (IntKind.i64.wrap ((IntKind.i64.wrap (l + 1)) + 1)) (by first | exact hlk | exact wrap_le _)) rfl (.cons (.one (.r .r)) (.nil)) rfl fun g64 => ?_
                      refine RA.step (L := [7]) (by kernel_rfl) (by simp) (RA.each ?_ (RA.each0))
                      · skip
                        refine RO.v (ls' := #[true, true, true, true, true, true, true, true]) rfl rfl (V.strCmp rfl rfl rfl rfl) rfl ?_
                        refine RA.fin (by kernel_rfl) ?_
                        refine CW.le [(0, .r (sl 3 Entry.c a)), (1, I (IntKind.i64.wrap ((IntKind.i64.wrap (l + 1)) + 1))), (5, I (i : Int)), (37, Bo (!(ei.data.toList == (mtext (IntKind.i64.wrap ((IntKind.i64.wrap (l + 1)) + 1))).toList)))] rfl (Le.c rfl <| Le.c rfl <| Le.c rfl <| Le.c rfl <| Le.e) ?_
                        refine CW.cond rfl (fun h65 => ?_) (fun h65 => ?_)
                        · skip
                          refine CW.seq ?_
                          refine CW.region ?_
                          refine RW.v rfl (V.as (d := I (-1)) rfl rfl) ?_
                          refine RW.nil ?_
                          refine CW.le [(4, I (-1))] rfl (Le.c rfl <| Le.e) ?_
                          refine CW.ret ?_
                          exact Post.one (RV.i rfl (by rw [← hr, hdi]; clear hr; first | rfl | (simp_all [hdL, hdEEntry, hdI, hdS, inc]; done) | grind [hdL, hdEEntry, hdI, hdS, inc])) (AOs.r (AOs.r AOs.e))
                        · skip
                          refine CW.skip ?_
                          refine CW.le [(0, .r (sl 3 Entry.c a)), (1, I (IntKind.i64.wrap ((IntKind.i64.wrap (l + 1)) + 1))), (5, I (i : Int))] rfl (Le.c rfl <| Le.c rfl <| Le.c rfl <| Le.e) ?_
                          refine CW.region ?_
                          refine RW.v rfl (V.mv (d := I (IntKind.i64.wrap ((IntKind.i64.wrap (l + 1)) + 1))) rfl rfl) ?_
                          refine RW.v rfl (V.arInt rfl rfl rfl rfl) ?_
                          refine RW.v rfl (V.as (d := I (IntKind.i64.wrap ((IntKind.i64.wrap ((IntKind.i64.wrap (l + 1)) + 1)) + 1))) rfl rfl) ?_
                          refine RW.nil ?_
                          refine CW.le [(0, .r (sl 3 Entry.c a)), (1, I (IntKind.i64.wrap ((IntKind.i64.wrap ((IntKind.i64.wrap (l + 1)) + 1)) + 1))), (5, I (i : Int))] rfl (Le.c rfl <| Le.c rfl <| Le.c rfl <| Le.e) ?_
                          refine CW.region ?_
                          refine RW.v rfl (V.mv (d := I (i : Int)) rfl rfl) ?_
                          refine RW.v rfl (V.inc rfl rfl rfl hii hl0) ?_
                          refine RW.v rfl (V.as (d := I ((i + 1 : Nat) : Int)) rfl rfl) ?_
                          refine RW.nil ?_
                          exact ⟨(i + 1, _), by simp only []; omega, ⟨by omega, by first | exact wrap_le _ | omega, by rw [← hr, hdi]; clear hr; first | rfl | (simp_all [hdL, hdEEntry, hdI, hdS, inc]; done) | grind [hdL, hdEEntry, hdI, hdS, inc]⟩, rfl, Le.c rfl <| Le.c rfl <| Le.c rfl <| Le.e⟩
                  · skip
                    refine RO.call (ls' := #[true, true, true, true, false, true, true, false]) rfl rfl (laws_markText_fn (IntKind.i64.wrap ((IntKind.i64.wrap (l + 1)) + 1)) (by first | exact hlk | exact wrap_le _)) rfl (.cons (.one (.r .r)) (.nil)) rfl fun g66 => ?_
                    refine RA.step (L := [4]) (by kernel_rfl) (by simp) (RA.each ?_ (RA.each0))
                    · skip
                      refine RO.v (ls' := #[true, true, true, true, true, true, true, false]) rfl rfl (V.loadPrimR (t0 := .v (.string ei.data)) rfl rfl (.inl rfl) rfl rfl) rfl ?_
                      refine RA.step (L := [7]) (by kernel_rfl) (by simp) (RA.each ?_ (RA.each0))
                      · skip
                        refine RO.v (ls' := #[true, true, true, true, true, true, true, true]) rfl rfl (V.strCmp rfl rfl rfl rfl) rfl ?_
                        refine RA.fin (by kernel_rfl) ?_
                        refine CW.le [(0, .r (sl 3 Entry.c a)), (1, I (IntKind.i64.wrap ((IntKind.i64.wrap (l + 1)) + 1))), (5, I (i : Int)), (37, Bo (!(ei.data.toList == (mtext (IntKind.i64.wrap ((IntKind.i64.wrap (l + 1)) + 1))).toList)))] rfl (Le.c rfl <| Le.c rfl <| Le.c rfl <| Le.c rfl <| Le.e) ?_
                        refine CW.cond rfl (fun h67 => ?_) (fun h67 => ?_)
                        · skip
                          refine CW.seq ?_
                          refine CW.region ?_
                          refine RW.v rfl (V.as (d := I (-1)) rfl rfl) ?_
                          refine RW.nil ?_
                          refine CW.le [(4, I (-1))] rfl (Le.c rfl <| Le.e) ?_
                          refine CW.ret ?_
                          exact Post.one (RV.i rfl (by rw [← hr, hdi]; clear hr; first | rfl | (simp_all [hdL, hdEEntry, hdI, hdS, inc]; done) | grind [hdL, hdEEntry, hdI, hdS, inc])) (AOs.r (AOs.r AOs.e))
                        · skip
                          refine CW.skip ?_
                          refine CW.le [(0, .r (sl 3 Entry.c a)), (1, I (IntKind.i64.wrap ((IntKind.i64.wrap (l + 1)) + 1))), (5, I (i : Int))] rfl (Le.c rfl <| Le.c rfl <| Le.c rfl <| Le.e) ?_
                          refine CW.region ?_
                          refine RW.v rfl (V.mv (d := I (IntKind.i64.wrap ((IntKind.i64.wrap (l + 1)) + 1))) rfl rfl) ?_
                          refine RW.v rfl (V.arInt rfl rfl rfl rfl) ?_
                          refine RW.v rfl (V.as (d := I (IntKind.i64.wrap ((IntKind.i64.wrap ((IntKind.i64.wrap (l + 1)) + 1)) + 1))) rfl rfl) ?_
                          refine RW.nil ?_
                          refine CW.le [(0, .r (sl 3 Entry.c a)), (1, I (IntKind.i64.wrap ((IntKind.i64.wrap ((IntKind.i64.wrap (l + 1)) + 1)) + 1))), (5, I (i : Int))] rfl (Le.c rfl <| Le.c rfl <| Le.c rfl <| Le.e) ?_
                          refine CW.region ?_
                          refine RW.v rfl (V.mv (d := I (i : Int)) rfl rfl) ?_
                          refine RW.v rfl (V.inc rfl rfl rfl hii hl0) ?_
                          refine RW.v rfl (V.as (d := I ((i + 1 : Nat) : Int)) rfl rfl) ?_
                          refine RW.nil ?_
                          exact ⟨(i + 1, _), by simp only []; omega, ⟨by omega, by first | exact wrap_le _ | omega, by rw [← hr, hdi]; clear hr; first | rfl | (simp_all [hdL, hdEEntry, hdI, hdS, inc]; done) | grind [hdL, hdEEntry, hdI, hdS, inc]⟩, rfl, Le.c rfl <| Le.c rfl <| Le.c rfl <| Le.e⟩
                · skip
                  refine RO.call (ls' := #[true, true, true, false, false, true, true, false]) rfl rfl (laws_markText_fn (IntKind.i64.wrap ((IntKind.i64.wrap (l + 1)) + 1)) (by first | exact hlk | exact wrap_le _)) rfl (.cons (.one (.r .r)) (.nil)) rfl fun g68 => ?_
                  refine RA.step (L := [3]) (by kernel_rfl) (by simp) (RA.each ?_ (RA.each0))
                  · skip
                    refine RO.v (ls' := #[true, true, true, true, false, true, true, false]) rfl rfl (V.fieldR rfl rfl rfl rfl (by decide) rfl (Nat.le_of_ble_eq_true rfl)) rfl ?_
                    refine RA.step (L := [4]) (by kernel_rfl) (by simp) (RA.each ?_ (RA.each0))
                    · skip
                      refine RO.v (ls' := #[true, true, true, true, true, true, true, false]) rfl rfl (V.loadPrimR (t0 := .v (.string ei.data)) rfl rfl (.inl rfl) rfl rfl) rfl ?_
                      refine RA.step (L := [7]) (by kernel_rfl) (by simp) (RA.each ?_ (RA.each0))
                      · skip
                        refine RO.v (ls' := #[true, true, true, true, true, true, true, true]) rfl rfl (V.strCmp rfl rfl rfl rfl) rfl ?_
                        refine RA.fin (by kernel_rfl) ?_
                        refine CW.le [(0, .r (sl 3 Entry.c a)), (1, I (IntKind.i64.wrap ((IntKind.i64.wrap (l + 1)) + 1))), (5, I (i : Int)), (37, Bo (!(ei.data.toList == (mtext (IntKind.i64.wrap ((IntKind.i64.wrap (l + 1)) + 1))).toList)))] rfl (Le.c rfl <| Le.c rfl <| Le.c rfl <| Le.c rfl <| Le.e) ?_
                        refine CW.cond rfl (fun h69 => ?_) (fun h69 => ?_)
                        · skip
                          refine CW.seq ?_
                          refine CW.region ?_
                          refine RW.v rfl (V.as (d := I (-1)) rfl rfl) ?_
                          refine RW.nil ?_
                          refine CW.le [(4, I (-1))] rfl (Le.c rfl <| Le.e) ?_
                          refine CW.ret ?_
                          exact Post.one (RV.i rfl (by rw [← hr, hdi]; clear hr; first | rfl | (simp_all [hdL, hdEEntry, hdI, hdS, inc]; done) | grind [hdL, hdEEntry, hdI, hdS, inc])) (AOs.r (AOs.r AOs.e))
                        · skip
                          refine CW.skip ?_
                          refine CW.le [(0, .r (sl 3 Entry.c a)), (1, I (IntKind.i64.wrap ((IntKind.i64.wrap (l + 1)) + 1))), (5, I (i : Int))] rfl (Le.c rfl <| Le.c rfl <| Le.c rfl <| Le.e) ?_
                          refine CW.region ?_
                          refine RW.v rfl (V.mv (d := I (IntKind.i64.wrap ((IntKind.i64.wrap (l + 1)) + 1))) rfl rfl) ?_
                          refine RW.v rfl (V.arInt rfl rfl rfl rfl) ?_
                          refine RW.v rfl (V.as (d := I (IntKind.i64.wrap ((IntKind.i64.wrap ((IntKind.i64.wrap (l + 1)) + 1)) + 1))) rfl rfl) ?_
                          refine RW.nil ?_
                          refine CW.le [(0, .r (sl 3 Entry.c a)), (1, I (IntKind.i64.wrap ((IntKind.i64.wrap ((IntKind.i64.wrap (l + 1)) + 1)) + 1))), (5, I (i : Int))] rfl (Le.c rfl <| Le.c rfl <| Le.c rfl <| Le.e) ?_
                          refine CW.region ?_
                          refine RW.v rfl (V.mv (d := I (i : Int)) rfl rfl) ?_
                          refine RW.v rfl (V.inc rfl rfl rfl hii hl0) ?_
                          refine RW.v rfl (V.as (d := I ((i + 1 : Nat) : Int)) rfl rfl) ?_
                          refine RW.nil ?_
                          exact ⟨(i + 1, _), by simp only []; omega, ⟨by omega, by first | exact wrap_le _ | omega, by rw [← hr, hdi]; clear hr; first | rfl | (simp_all [hdL, hdEEntry, hdI, hdS, inc]; done) | grind [hdL, hdEEntry, hdI, hdS, inc]⟩, rfl, Le.c rfl <| Le.c rfl <| Le.c rfl <| Le.e⟩
              · skip
                refine RO.call (ls' := #[true, true, false, false, false, true, true, false]) rfl rfl (laws_markText_fn (IntKind.i64.wrap ((IntKind.i64.wrap (l + 1)) + 1)) (by first | exact hlk | exact wrap_le _)) rfl (.cons (.one (.r .r)) (.nil)) rfl fun g70 => ?_
                refine RA.step (L := [2]) (by kernel_rfl) (by simp) (RA.each ?_ (RA.each0))
                · skip
                  refine RO.v (ls' := #[true, true, true, false, false, true, true, false]) rfl rfl (V.indexS rfl rfl rfl rfl rfl rfl Entry.len hei) rfl ?_
                  refine RA.step (L := [3]) (by kernel_rfl) (by simp) (RA.each ?_ (RA.each0))
                  · skip
                    refine RO.v (ls' := #[true, true, true, true, false, true, true, false]) rfl rfl (V.fieldR rfl rfl rfl rfl (by decide) rfl (Nat.le_of_ble_eq_true rfl)) rfl ?_
                    refine RA.step (L := [4]) (by kernel_rfl) (by simp) (RA.each ?_ (RA.each0))
                    · skip
                      refine RO.v (ls' := #[true, true, true, true, true, true, true, false]) rfl rfl (V.loadPrimR (t0 := .v (.string ei.data)) rfl rfl (.inl rfl) rfl rfl) rfl ?_
                      refine RA.step (L := [7]) (by kernel_rfl) (by simp) (RA.each ?_ (RA.each0))
                      · skip
                        refine RO.v (ls' := #[true, true, true, true, true, true, true, true]) rfl rfl (V.strCmp rfl rfl rfl rfl) rfl ?_
                        refine RA.fin (by kernel_rfl) ?_
                        refine CW.le [(0, .r (sl 3 Entry.c a)), (1, I (IntKind.i64.wrap ((IntKind.i64.wrap (l + 1)) + 1))), (5, I (i : Int)), (37, Bo (!(ei.data.toList == (mtext (IntKind.i64.wrap ((IntKind.i64.wrap (l + 1)) + 1))).toList)))] rfl (Le.c rfl <| Le.c rfl <| Le.c rfl <| Le.c rfl <| Le.e) ?_
                        refine CW.cond rfl (fun h71 => ?_) (fun h71 => ?_)
                        · skip
                          refine CW.seq ?_
                          refine CW.region ?_
                          refine RW.v rfl (V.as (d := I (-1)) rfl rfl) ?_
                          refine RW.nil ?_
                          refine CW.le [(4, I (-1))] rfl (Le.c rfl <| Le.e) ?_
                          refine CW.ret ?_
                          exact Post.one (RV.i rfl (by rw [← hr, hdi]; clear hr; first | rfl | (simp_all [hdL, hdEEntry, hdI, hdS, inc]; done) | grind [hdL, hdEEntry, hdI, hdS, inc])) (AOs.r (AOs.r AOs.e))
                        · skip
                          refine CW.skip ?_
                          refine CW.le [(0, .r (sl 3 Entry.c a)), (1, I (IntKind.i64.wrap ((IntKind.i64.wrap (l + 1)) + 1))), (5, I (i : Int))] rfl (Le.c rfl <| Le.c rfl <| Le.c rfl <| Le.e) ?_
                          refine CW.region ?_
                          refine RW.v rfl (V.mv (d := I (IntKind.i64.wrap ((IntKind.i64.wrap (l + 1)) + 1))) rfl rfl) ?_
                          refine RW.v rfl (V.arInt rfl rfl rfl rfl) ?_
                          refine RW.v rfl (V.as (d := I (IntKind.i64.wrap ((IntKind.i64.wrap ((IntKind.i64.wrap (l + 1)) + 1)) + 1))) rfl rfl) ?_
                          refine RW.nil ?_
                          refine CW.le [(0, .r (sl 3 Entry.c a)), (1, I (IntKind.i64.wrap ((IntKind.i64.wrap ((IntKind.i64.wrap (l + 1)) + 1)) + 1))), (5, I (i : Int))] rfl (Le.c rfl <| Le.c rfl <| Le.c rfl <| Le.e) ?_
                          refine CW.region ?_
                          refine RW.v rfl (V.mv (d := I (i : Int)) rfl rfl) ?_
                          refine RW.v rfl (V.inc rfl rfl rfl hii hl0) ?_
                          refine RW.v rfl (V.as (d := I ((i + 1 : Nat) : Int)) rfl rfl) ?_
                          refine RW.nil ?_
                          exact ⟨(i + 1, _), by simp only []; omega, ⟨by omega, by first | exact wrap_le _ | omega, by rw [← hr, hdi]; clear hr; first | rfl | (simp_all [hdL, hdEEntry, hdI, hdS, inc]; done) | grind [hdL, hdEEntry, hdI, hdS, inc]⟩, rfl, Le.c rfl <| Le.c rfl <| Le.c rfl <| Le.e⟩
            · skip
              refine RO.call (ls' := #[true, false, false, false, false, true, true, false]) rfl rfl (laws_markText_fn (IntKind.i64.wrap ((IntKind.i64.wrap (l + 1)) + 1)) (by first | exact hlk | exact wrap_le _)) rfl (.cons (.one (.r .r)) (.nil)) rfl fun g72 => ?_
              refine RA.step (L := [1]) (by kernel_rfl) (by simp) (RA.each ?_ (RA.each0))
              · skip
                refine RO.v (ls' := #[true, true, false, false, false, true, true, false]) rfl rfl (V.mv (d := I (i : Int)) rfl rfl) rfl ?_
                refine RA.step (L := [2]) (by kernel_rfl) (by simp) (RA.each ?_ (RA.each0))
                · skip
                  refine RO.v (ls' := #[true, true, true, false, false, true, true, false]) rfl rfl (V.indexS rfl rfl rfl rfl rfl rfl Entry.len hei) rfl ?_
                  refine RA.step (L := [3]) (by kernel_rfl) (by simp) (RA.each ?_ (RA.each0))
                  · skip
                    refine RO.v (ls' := #[true, true, true, true, false, true, true, false]) rfl rfl (V.fieldR rfl rfl rfl rfl (by decide) rfl (Nat.le_of_ble_eq_true rfl)) rfl ?_
                    refine RA.step (L := [4]) (by kernel_rfl) (by simp) (RA.each ?_ (RA.each0))
                    · skip
                      refine RO.v (ls' := #[true, true, true, true, true, true, true, false]) rfl rfl (V.loadPrimR (t0 := .v (.string ei.data)) rfl rfl (.inl rfl) rfl rfl) rfl ?_
                      refine RA.step (L := [7]) (by kernel_rfl) (by simp) (RA.each ?_ (RA.each0))
                      · skip
                        refine RO.v (ls' := #[true, true, true, true, true, true, true, true]) rfl rfl (V.strCmp rfl rfl rfl rfl) rfl ?_
                        refine RA.fin (by kernel_rfl) ?_
                        refine CW.le [(0, .r (sl 3 Entry.c a)), (1, I (IntKind.i64.wrap ((IntKind.i64.wrap (l + 1)) + 1))), (5, I (i : Int)), (37, Bo (!(ei.data.toList == (mtext (IntKind.i64.wrap ((IntKind.i64.wrap (l + 1)) + 1))).toList)))] rfl (Le.c rfl <| Le.c rfl <| Le.c rfl <| Le.c rfl <| Le.e) ?_
                        refine CW.cond rfl (fun h73 => ?_) (fun h73 => ?_)
                        · skip
                          refine CW.seq ?_
                          refine CW.region ?_
                          refine RW.v rfl (V.as (d := I (-1)) rfl rfl) ?_
                          refine RW.nil ?_
                          refine CW.le [(4, I (-1))] rfl (Le.c rfl <| Le.e) ?_
                          refine CW.ret ?_
                          exact Post.one (RV.i rfl (by rw [← hr, hdi]; clear hr; first | rfl | (simp_all [hdL, hdEEntry, hdI, hdS, inc]; done) | grind [hdL, hdEEntry, hdI, hdS, inc])) (AOs.r (AOs.r AOs.e))
                        · skip
                          refine CW.skip ?_
                          refine CW.le [(0, .r (sl 3 Entry.c a)), (1, I (IntKind.i64.wrap ((IntKind.i64.wrap (l + 1)) + 1))), (5, I (i : Int))] rfl (Le.c rfl <| Le.c rfl <| Le.c rfl <| Le.e) ?_
                          refine CW.region ?_
                          refine RW.v rfl (V.mv (d := I (IntKind.i64.wrap ((IntKind.i64.wrap (l + 1)) + 1))) rfl rfl) ?_
                          refine RW.v rfl (V.arInt rfl rfl rfl rfl) ?_
                          refine RW.v rfl (V.as (d := I (IntKind.i64.wrap ((IntKind.i64.wrap ((IntKind.i64.wrap (l + 1)) + 1)) + 1))) rfl rfl) ?_
                          refine RW.nil ?_
                          refine CW.le [(0, .r (sl 3 Entry.c a)), (1, I (IntKind.i64.wrap ((IntKind.i64.wrap ((IntKind.i64.wrap (l + 1)) + 1)) + 1))), (5, I (i : Int))] rfl (Le.c rfl <| Le.c rfl <| Le.c rfl <| Le.e) ?_
                          refine CW.region ?_
                          refine RW.v rfl (V.mv (d := I (i : Int)) rfl rfl) ?_
                          refine RW.v rfl (V.inc rfl rfl rfl hii hl0) ?_
                          refine RW.v rfl (V.as (d := I ((i + 1 : Nat) : Int)) rfl rfl) ?_
                          refine RW.nil ?_
                          exact ⟨(i + 1, _), by simp only []; omega, ⟨by omega, by first | exact wrap_le _ | omega, by rw [← hr, hdi]; clear hr; first | rfl | (simp_all [hdL, hdEEntry, hdI, hdS, inc]; done) | grind [hdL, hdEEntry, hdI, hdS, inc]⟩, rfl, Le.c rfl <| Le.c rfl <| Le.c rfl <| Le.e⟩
          · skip
            refine RO.v (ls' := #[false, true, false, false, false, true, false, false]) rfl rfl (V.mv (d := I (i : Int)) rfl rfl) rfl ?_
            refine RA.step (L := [0, 6]) (by kernel_rfl) (by simp) (RA.each ?_ (RA.each ?_ (RA.each0)))
            · skip
              refine RO.v (ls' := #[true, true, false, false, false, true, false, false]) rfl rfl (V.mv (d := .r (sl 3 Entry.c a)) rfl rfl) rfl ?_
              refine RA.step (L := [2, 6]) (by kernel_rfl) (by simp) (RA.each ?_ (RA.each ?_ (RA.each0)))
              · skip
                refine RO.v (ls' := #[true, true, true, false, false, true, false, false]) rfl rfl (V.indexS rfl rfl rfl rfl rfl rfl Entry.len hei) rfl ?_
                refine RA.step (L := [3, 6]) (by kernel_rfl) (by simp) (RA.each ?_ (RA.each ?_ (RA.each0)))
                · skip
                  refine RO.v (ls' := #[true, true, true, true, false, true, false, false]) rfl rfl (V.fieldR rfl rfl rfl rfl (by decide) rfl (Nat.le_of_ble_eq_true rfl)) rfl ?_
                  refine RA.step (L := [4, 6]) (by kernel_rfl) (by simp) (RA.each ?_ (RA.each ?_ (RA.each0)))
                  · skip
                    refine RO.v (ls' := #[true, true, true, true, true, true, false, false]) rfl rfl (V.loadPrimR (t0 := .v (.string ei.data)) rfl rfl (.inl rfl) rfl rfl) rfl ?_
                    refine RA.step (L := [6]) (by kernel_rfl) (by simp) (RA.each ?_ (RA.each0))
                    · skip
                      refine RO.call (ls' := #[true, true, true, true, true, true, true, false]) rfl rfl (laws_markText_fn (IntKind.i64.wrap ((IntKind.i64.wrap (l + 1)) + 1)) (by first | exact hlk | exact wrap_le _)) rfl (.cons (.one (.r .r)) (.nil)) rfl fun g74 => ?_
                      refine RA.step (L := [7]) (by kernel_rfl) (by simp) (RA.each ?_ (RA.each0))
                      · skip
                        refine RO.v (ls' := #[true, true, true, true, true, true, true, true]) rfl rfl (V.strCmp rfl rfl rfl rfl) rfl ?_
                        refine RA.fin (by kernel_rfl) ?_
                        refine CW.le [(0, .r (sl 3 Entry.c a)), (1, I (IntKind.i64.wrap ((IntKind.i64.wrap (l + 1)) + 1))), (5, I (i : Int)), (37, Bo (!(ei.data.toList == (mtext (IntKind.i64.wrap ((IntKind.i64.wrap (l + 1)) + 1))).toList)))] rfl (Le.c rfl <| Le.c rfl <| Le.c rfl <| Le.c rfl <| Le.e) ?_
                        refine CW.cond rfl (fun h75 => ?_) (fun h75 => ?_)
                        · skip
                          refine CW.seq ?_
                          refine CW.region ?_
                          refine RW.v rfl (V.as (d := I (-1)) rfl rfl) ?_
                          refine RW.nil ?_
                          refine CW.le [(4, I (-1))] rfl (Le.c rfl <| Le.e) ?_
                          refine CW.ret ?_
                          exact Post.one (RV.i rfl (by rw [← hr, hdi]; clear hr; first | rfl | (simp_all [hdL, hdEEntry, hdI, hdS, inc]; done) | grind [hdL, hdEEntry, hdI, hdS, inc])) (AOs.r (AOs.r AOs.e))
                        · skip
                          refine CW.skip ?_
                          refine CW.le [(0, .r (sl 3 Entry.c a)), (1, I (IntKind.i64.wrap ((IntKind.i64.wrap (l + 1)) + 1))), (5, I (i : Int))] rfl (Le.c rfl <| Le.c rfl <| Le.c rfl <| Le.e) ?_
                          refine CW.region ?_
                          refine RW.v rfl (V.mv (d := I (IntKind.i64.wrap ((IntKind.i64.wrap (l + 1)) + 1))) rfl rfl) ?_
                          refine RW.v rfl (V.arInt rfl rfl rfl rfl) ?_
                          refine RW.v rfl (V.as (d := I (IntKind.i64.wrap ((IntKind.i64.wrap ((IntKind.i64.wrap (l + 1)) + 1)) + 1))) rfl rfl) ?_
                          refine RW.nil ?_
                          refine CW.le [(0, .r (sl 3 Entry.c a)), (1, I (IntKind.i64.wrap ((IntKind.i64.wrap ((IntKind.i64.wrap (l + 1)) + 1)) + 1))), (5, I (i : Int))] rfl (Le.c rfl <| Le.c rfl <| Le.c rfl <| Le.e) ?_
                          refine CW.region ?_
                          refine RW.v rfl (V.mv (d := I (i : Int)) rfl rfl) ?_
                          refine RW.v rfl (V.inc rfl rfl rfl hii hl0) ?_
                          refine RW.v rfl (V.as (d := I ((i + 1 : Nat) : Int)) rfl rfl) ?_
                          refine RW.nil ?_
                          exact ⟨(i + 1, _), by simp only []; omega, ⟨by omega, by first | exact wrap_le _ | omega, by rw [← hr, hdi]; clear hr; first | rfl | (simp_all [hdL, hdEEntry, hdI, hdS, inc]; done) | grind [hdL, hdEEntry, hdI, hdS, inc]⟩, rfl, Le.c rfl <| Le.c rfl <| Le.c rfl <| Le.e⟩
                  · skip
                    refine RO.call (ls' := #[true, true, true, true, false, true, true, false]) rfl rfl (laws_markText_fn (IntKind.i64.wrap ((IntKind.i64.wrap (l + 1)) + 1)) (by first | exact hlk | exact wrap_le _)) rfl (.cons (.one (.r .r)) (.nil)) rfl fun g76 => ?_
                    refine RA.step (L := [4]) (by kernel_rfl) (by simp) (RA.each ?_ (RA.each0))
                    · skip
                      refine RO.v (ls' := #[true, true, true, true, true, true, true, false]) rfl rfl (V.loadPrimR (t0 := .v (.string ei.data)) rfl rfl (.inl rfl) rfl rfl) rfl ?_
                      refine RA.step (L := [7]) (by kernel_rfl) (by simp) (RA.each ?_ (RA.each0))
                      · skip
                        refine RO.v (ls' := #[true, true, true, true, true, true, true, true]) rfl rfl (V.strCmp rfl rfl rfl rfl) rfl ?_
                        refine RA.fin (by kernel_rfl) ?_
                        refine CW.le [(0, .r (sl 3 Entry.c a)), (1, I (IntKind.i64.wrap ((IntKind.i64.wrap (l + 1)) + 1))), (5, I (i : Int)), (37, Bo (!(ei.data.toList == (mtext (IntKind.i64.wrap ((IntKind.i64.wrap (l + 1)) + 1))).toList)))] rfl (Le.c rfl <| Le.c rfl <| Le.c rfl <| Le.c rfl <| Le.e) ?_
                        refine CW.cond rfl (fun h77 => ?_) (fun h77 => ?_)
                        · skip
                          refine CW.seq ?_
                          refine CW.region ?_
                          refine RW.v rfl (V.as (d := I (-1)) rfl rfl) ?_
                          refine RW.nil ?_
                          refine CW.le [(4, I (-1))] rfl (Le.c rfl <| Le.e) ?_
                          refine CW.ret ?_
                          exact Post.one (RV.i rfl (by rw [← hr, hdi]; clear hr; first | rfl | (simp_all [hdL, hdEEntry, hdI, hdS, inc]; done) | grind [hdL, hdEEntry, hdI, hdS, inc])) (AOs.r (AOs.r AOs.e))
                        · skip
                          refine CW.skip ?_
                          refine CW.le [(0, .r (sl 3 Entry.c a)), (1, I (IntKind.i64.wrap ((IntKind.i64.wrap (l + 1)) + 1))), (5, I (i : Int))] rfl (Le.c rfl <| Le.c rfl <| Le.c rfl <| Le.e) ?_
                          refine CW.region ?_
                          refine RW.v rfl (V.mv (d := I (IntKind.i64.wrap ((IntKind.i64.wrap (l + 1)) + 1))) rfl rfl) ?_
                          refine RW.v rfl (V.arInt rfl rfl rfl rfl) ?_
                          refine RW.v rfl (V.as (d := I (IntKind.i64.wrap ((IntKind.i64.wrap ((IntKind.i64.wrap (l + 1)) + 1)) + 1))) rfl rfl) ?_
                          refine RW.nil ?_
                          refine CW.le [(0, .r (sl 3 Entry.c a)), (1, I (IntKind.i64.wrap ((IntKind.i64.wrap ((IntKind.i64.wrap (l + 1)) + 1)) + 1))), (5, I (i : Int))] rfl (Le.c rfl <| Le.c rfl <| Le.c rfl <| Le.e) ?_
                          refine CW.region ?_
                          refine RW.v rfl (V.mv (d := I (i : Int)) rfl rfl) ?_
                          refine RW.v rfl (V.inc rfl rfl rfl hii hl0) ?_
                          refine RW.v rfl (V.as (d := I ((i + 1 : Nat) : Int)) rfl rfl) ?_
                          refine RW.nil ?_
                          exact ⟨(i + 1, _), by simp only []; omega, ⟨by omega, by first | exact wrap_le _ | omega, by rw [← hr, hdi]; clear hr; first | rfl | (simp_all [hdL, hdEEntry, hdI, hdS, inc]; done) | grind [hdL, hdEEntry, hdI, hdS, inc]⟩, rfl, Le.c rfl <| Le.c rfl <| Le.c rfl <| Le.e⟩
                · skip
                  refine RO.call (ls' := #[true, true, true, false, false, true, true, false]) rfl rfl (laws_markText_fn (IntKind.i64.wrap ((IntKind.i64.wrap (l + 1)) + 1)) (by first | exact hlk | exact wrap_le _)) rfl (.cons (.one (.r .r)) (.nil)) rfl fun g78 => ?_
                  refine RA.step (L := [3]) (by kernel_rfl) (by simp) (RA.each ?_ (RA.each0))
                  · skip
                    refine RO.v (ls' := #[true, true, true, true, false, true, true, false]) rfl rfl (V.fieldR rfl rfl rfl rfl (by decide) rfl (Nat.le_of_ble_eq_true rfl)) rfl ?_
                    refine RA.step (L := [4]) (by kernel_rfl) (by simp) (RA.each ?_ (RA.each0))
                    · skip
                      refine RO.v (ls' := #[true, true, true, true, true, true, true, false]) rfl rfl (V.loadPrimR (t0 := .v (.string ei.data)) rfl rfl (.inl rfl) rfl rfl) rfl ?_
                      refine RA.step (L := [7]) (by kernel_rfl) (by simp) (RA.each ?_ (RA.each0))
                      · skip
                        refine RO.v (ls' := #[true, true, true, true, true, true, true, true]) rfl rfl (V.strCmp rfl rfl rfl rfl) rfl ?_
                        refine RA.fin (by kernel_rfl) ?_
                        refine CW.le [(0, .r (sl 3 Entry.c a)), (1, I (IntKind.i64.wrap ((IntKind.i64.wrap (l + 1)) + 1))), (5, I (i : Int)), (37, Bo (!(ei.data.toList == (mtext (IntKind.i64.wrap ((IntKind.i64.wrap (l + 1)) + 1))).toList)))] rfl (Le.c rfl <| Le.c rfl <| Le.c rfl <| Le.c rfl <| Le.e) ?_
                        refine CW.cond rfl (fun h79 => ?_) (fun h79 => ?_)
                        · skip
                          refine CW.seq ?_
                          refine CW.region ?_
                          refine RW.v rfl (V.as (d := I (-1)) rfl rfl) ?_
                          refine RW.nil ?_
                          refine CW.le [(4, I (-1))] rfl (Le.c rfl <| Le.e) ?_
                          refine CW.ret ?_
                          exact Post.one (RV.i rfl (by rw [← hr, hdi]; clear hr; first | rfl | (simp_all [hdL, hdEEntry, hdI, hdS, inc]; done) | grind [hdL, hdEEntry, hdI, hdS, inc])) (AOs.r (AOs.r AOs.e))
                        · skip
                          refine CW.skip ?_
                          refine CW.le [(0, .r (sl 3 Entry.c a)), (1, I (IntKind.i64.wrap ((IntKind.i64.wrap (l + 1)) + 1))), (5, I (i : Int))] rfl (Le.c rfl <| Le.c rfl <| Le.c rfl <| Le.e) ?_
                          refine CW.region ?_
                          refine RW.v rfl (V.mv (d := I (IntKind.i64.wrap ((IntKind.i64.wrap (l + 1)) + 1))) rfl rfl) ?_
                          refine RW.v rfl (V.arInt rfl rfl rfl rfl) ?_
                          refine RW.v rfl (V.as (d := I (IntKind.i64.wrap ((IntKind.i64.wrap ((IntKind.i64.wrap (l + 1)) + 1)) + 1))) rfl rfl) ?_
                          refine RW.nil ?_
                          refine CW.le [(0, .r (sl 3 Entry.c a)), (1, I (IntKind.i64.wrap ((IntKind.i64.wrap ((IntKind.i64.wrap (l + 1)) + 1)) + 1))), (5, I (i : Int))] rfl (Le.c rfl <| Le.c rfl <| Le.c rfl <| Le.e) ?_
                          refine CW.region ?_
                          refine RW.v rfl (V.mv (d := I (i : Int)) rfl rfl) ?_
                          refine RW.v rfl (V.inc rfl rfl rfl hii hl0) ?_
                          refine RW.v rfl (V.as (d := I ((i + 1 : Nat) : Int)) rfl rfl) ?_
                          refine RW.nil ?_
                          exact ⟨(i + 1, _), by simp only []; omega, ⟨by omega, by first | exact wrap_le _ | omega, by rw [← hr, hdi]; clear hr; first | rfl | (simp_all [hdL, hdEEntry, hdI, hdS, inc]; done) | grind [hdL, hdEEntry, hdI, hdS, inc]⟩, rfl, Le.c rfl <| Le.c rfl <| Le.c rfl <| Le.e⟩
              · skip
                refine RO.call (ls' := #[true, true, false, false, false, true, true, false]) rfl rfl (laws_markText_fn (IntKind.i64.wrap ((IntKind.i64.wrap (l + 1)) + 1)) (by first | exact hlk | exact wrap_le _)) rfl (.cons (.one (.r .r)) (.nil)) rfl fun g80 => ?_
                refine RA.step (L := [2]) (by kernel_rfl) (by simp) (RA.each ?_ (RA.each0))
                · skip
                  refine RO.v (ls' := #[true, true, true, false, false, true, true, false]) rfl rfl (V.indexS rfl rfl rfl rfl rfl rfl Entry.len hei) rfl ?_
                  refine RA.step (L := [3]) (by kernel_rfl) (by simp) (RA.each ?_ (RA.each0))
                  · skip
                    refine RO.v (ls' := #[true, true, true, true, false, true, true, false]) rfl rfl (V.fieldR rfl rfl rfl rfl (by decide) rfl (Nat.le_of_ble_eq_true rfl)) rfl ?_
                    refine RA.step (L := [4]) (by kernel_rfl) (by simp) (RA.each ?_ (RA.each0))
                    · skip
                      refine RO.v (ls' := #[true, true, true, true, true, true, true, false]) rfl rfl (V.loadPrimR (t0 := .v (.string ei.data)) rfl rfl (.inl rfl) rfl rfl) rfl ?_
                      refine RA.step (L := [7]) (by kernel_rfl) (by simp) (RA.each ?_ (RA.each0))
                      · skip
                        refine RO.v (ls' := #[true, true, true, true, true, true, true, true]) rfl rfl (V.strCmp rfl rfl rfl rfl) rfl ?_
                        refine RA.fin (by kernel_rfl) ?_
                        refine CW.le [(0, .r (sl 3 Entry.c a)), (1, I (IntKind.i64.wrap ((IntKind.i64.wrap (l + 1)) + 1))), (5, I (i : Int)), (37, Bo (!(ei.data.toList == (mtext (IntKind.i64.wrap ((IntKind.i64.wrap (l + 1)) + 1))).toList)))] rfl (Le.c rfl <| Le.c rfl <| Le.c rfl <| Le.c rfl <| Le.e) ?_
                        refine CW.cond rfl (fun h81 => ?_) (fun h81 => ?_)
                        · skip
                          refine CW.seq ?_
                          refine CW.region ?_
                          refine RW.v rfl (V.as (d := I (-1)) rfl rfl) ?_
                          refine RW.nil ?_
                          refine CW.le [(4, I (-1))] rfl (Le.c rfl <| Le.e) ?_
                          refine CW.ret ?_
                          exact Post.one (RV.i rfl (by rw [← hr, hdi]; clear hr; first | rfl | (simp_all [hdL, hdEEntry, hdI, hdS, inc]; done) | grind [hdL, hdEEntry, hdI, hdS, inc])) (AOs.r (AOs.r AOs.e))
                        · skip
                          refine CW.skip ?_
                          refine CW.le [(0, .r (sl 3 Entry.c a)), (1, I (IntKind.i64.wrap ((IntKind.i64.wrap (l + 1)) + 1))), (5, I (i : Int))] rfl (Le.c rfl <| Le.c rfl <| Le.c rfl <| Le.e) ?_
                          refine CW.region ?_
                          refine RW.v rfl (V.mv (d := I (IntKind.i64.wrap ((IntKind.i64.wrap (l + 1)) + 1))) rfl rfl) ?_
                          refine RW.v rfl (V.arInt rfl rfl rfl rfl) ?_
                          refine RW.v rfl (V.as (d := I (IntKind.i64.wrap ((IntKind.i64.wrap ((IntKind.i64.wrap (l + 1)) + 1)) + 1))) rfl rfl) ?_
                          refine RW.nil ?_
                          refine CW.le [(0, .r (sl 3 Entry.c a)), (1, I (IntKind.i64.wrap ((IntKind.i64.wrap ((IntKind.i64.wrap (l + 1)) + 1)) + 1))), (5, I (i : Int))] rfl (Le.c rfl <| Le.c rfl <| Le.c rfl <| Le.e) ?_
                          refine CW.region ?_
                          refine RW.v rfl (V.mv (d := I (i : Int)) rfl rfl) ?_
                          refine RW.v rfl (V.inc rfl rfl rfl hii hl0) ?_
                          refine RW.v rfl (V.as (d := I ((i + 1 : Nat) : Int)) rfl rfl) ?_
                          refine RW.nil ?_
                          exact ⟨(i + 1, _), by simp only []; omega, ⟨by omega, by first | exact wrap_le _ | omega, by rw [← hr, hdi]; clear hr; first | rfl | (simp_all [hdL, hdEEntry, hdI, hdS, inc]; done) | grind [hdL, hdEEntry, hdI, hdS, inc]⟩, rfl, Le.c rfl <| Le.c rfl <| Le.c rfl <| Le.e⟩
            · skip
              refine RO.call (ls' := #[false, true, false, false, false, true, true, false]) rfl rfl (laws_markText_fn (IntKind.i64.wrap ((IntKind.i64.wrap (l + 1)) + 1)) (by first | exact hlk | exact wrap_le _)) rfl (.cons (.one (.r .r)) (.nil)) rfl fun g82 => ?_
              refine RA.step (L := [0]) (by kernel_rfl) (by simp) (RA.each ?_ (RA.each0))
              · skip
                refine RO.v (ls' := #[true, true, false, false, false, true, true, false]) rfl rfl (V.mv (d := .r (sl 3 Entry.c a)) rfl rfl) rfl ?_
                refine RA.step (L := [2]) (by kernel_rfl) (by simp) (RA.each ?_ (RA.each0))
                · skip
                  refine RO.v (ls' := #[true, true, true, false, false, true, true, false]) rfl rfl (V.indexS rfl rfl rfl rfl rfl rfl Entry.len hei) rfl ?_
                  refine RA.step (L := [3]) (by kernel_rfl) (by simp) (RA.each ?_ (RA.each0))
                  · skip
                    refine RO.v (ls' := #[true, true, true, true, false, true, true, false]) rfl rfl (V.fieldR rfl rfl rfl rfl (by decide) rfl (Nat.le_of_ble_eq_true rfl)) rfl ?_
                    refine RA.step (L := [4]) (by kernel_rfl) (by simp) (RA.each ?_ (RA.each0))
                    · skip
                      refine RO.v (ls' := #[true, true, true, true, true, true, true, false]) rfl rfl (V.loadPrimR (t0 := .v (.string ei.data)) rfl rfl (.inl rfl) rfl rfl) rfl ?_
                      refine RA.step (L := [7]) (by kernel_rfl) (by simp) (RA.each ?_ (RA.each0))
                      · skip
                        refine RO.v (ls' := #[true, true, true, true, true, true, true, true]) rfl rfl (V.strCmp rfl rfl rfl rfl) rfl ?_
                        refine RA.fin (by kernel_rfl) ?_
                        refine CW.le [(0, .r (sl 3 Entry.c a)), (1, I (IntKind.i64.wrap ((IntKind.i64.wrap (l + 1)) + 1))), (5, I (i : Int)), (37, Bo (!(ei.data.toList == (mtext (IntKind.i64.wrap ((IntKind.i64.wrap (l + 1)) + 1))).toList)))] rfl (Le.c rfl <| Le.c rfl <| Le.c rfl <| Le.c rfl <| Le.e) ?_
                        refine CW.cond rfl (fun h83 => ?_) (fun h83 => ?_)
                        · skip
                          refine CW.seq ?_
                          refine CW.region ?_
                          refine RW.v rfl (V.as (d := I (-1)) rfl rfl) ?_
                          refine RW.nil ?_
                          refine CW.le [(4, I (-1))] rfl (Le.c rfl <| Le.e) ?_
                          refine CW.ret ?_
                          exact Post.one (RV.i rfl (by rw [← hr, hdi]; clear hr; first | rfl | (simp_all [hdL, hdEEntry, hdI, hdS, inc]; done) | grind [hdL, hdEEntry, hdI, hdS, inc])) (AOs.r (AOs.r AOs.e))
                        · skip
                          refine CW.skip ?_
                          refine CW.le [(0, .r (sl 3 Entry.c a)), (1, I (IntKind.i64.wrap ((IntKind.i64.wrap (l + 1)) + 1))), (5, I (i : Int))] rfl (Le.c rfl <| Le.c rfl <| Le.c rfl <| Le.e) ?_
                          refine CW.region ?_
                          refine RW.v rfl (V.mv (d := I (IntKind.i64.wrap ((IntKind.i64.wrap (l + 1)) + 1))) rfl rfl) ?_
                          refine RW.v rfl (V.arInt rfl rfl rfl rfl) ?_
                          refine RW.v rfl (V.as (d := I (IntKind.i64.wrap ((IntKind.i64.wrap ((IntKind.i64.wrap (l + 1)) + 1)) + 1))) rfl rfl) ?_
                          refine RW.nil ?_
                          refine CW.le [(0, .r (sl 3 Entry.c a)), (1, I (IntKind.i64.wrap ((IntKind.i64.wrap ((IntKind.i64.wrap (l + 1)) + 1)) + 1))), (5, I (i : Int))] rfl (Le.c rfl <| Le.c rfl <| Le.c rfl <| Le.e) ?_
                          refine CW.region ?_
                          refine RW.v rfl (V.mv (d := I (i : Int)) rfl rfl) ?_
                          refine RW.v rfl (V.inc rfl rfl rfl hii hl0) ?_
                          refine RW.v rfl (V.as (d := I ((i + 1 : Nat) : Int)) rfl rfl) ?_
                          refine RW.nil ?_
                          exact ⟨(i + 1, _), by simp only []; omega, ⟨by omega, by first | exact wrap_le _ | omega, by rw [← hr, hdi]; clear hr; first | rfl | (simp_all [hdL, hdEEntry, hdI, hdS, inc]; done) | grind [hdL, hdEEntry, hdI, hdS, inc]⟩, rfl, Le.c rfl <| Le.c rfl <| Le.c rfl <| Le.e⟩
          · skip
            refine RO.call (ls' := #[false, false, false, false, false, true, true, false]) rfl rfl (laws_markText_fn (IntKind.i64.wrap ((IntKind.i64.wrap (l + 1)) + 1)) (by first | exact hlk | exact wrap_le _)) rfl (.cons (.one (.r .r)) (.nil)) rfl fun g84 => ?_
            refine RA.step (L := [0, 1]) (by kernel_rfl) (by simp) (RA.each ?_ (RA.each ?_ (RA.each0)))
            · skip
              refine RO.v (ls' := #[true, false, false, false, false, true, true, false]) rfl rfl (V.mv (d := .r (sl 3 Entry.c a)) rfl rfl) rfl ?_
              refine RA.step (L := [1]) (by kernel_rfl) (by simp) (RA.each ?_ (RA.each0))
              · skip
                refine RO.v (ls' := #[true, true, false, false, false, true, true, false]) rfl rfl (V.mv (d := I (i : Int)) rfl rfl) rfl ?_
                refine RA.step (L := [2]) (by kernel_rfl) (by simp) (RA.each ?_ (RA.each0))
                · skip
                  refine RO.v (ls' := #[true, true, true, false, false, true, true, false]) rfl rfl (V.indexS rfl rfl rfl rfl rfl rfl Entry.len hei) rfl ?_
                  refine RA.step (L := [3]) (by kernel_rfl) (by simp) (RA.each ?_ (RA.each0))
                  · skip
                    refine RO.v (ls' := #[true, true, true, true, false, true, true, false]) rfl rfl (V.fieldR rfl rfl rfl rfl (by decide) rfl (Nat.le_of_ble_eq_true rfl)) rfl ?_
                    refine RA.step (L := [4]) (by kernel_rfl) (by simp) (RA.each ?_ (RA.each0))
                    · skip
                      refine RO.v (ls' := #[true, true, true, true, true, true, true, false]) rfl rfl (V.loadPrimR (t0 := .v (.string ei.data)) rfl rfl (.inl rfl) rfl rfl) rfl ?_
                      refine RA.step (L := [7]) (by kernel_rfl) (by simp) (RA.each ?_ (RA.each0))
                      · skip
                        refine RO.v (ls' := #[true, true, true, true, true, true, true, true]) rfl rfl (V.strCmp rfl rfl rfl rfl) rfl ?_
                        refine RA.fin (by kernel_rfl) ?_
                        refine CW.le [(0, .r (sl 3 Entry.c a)), (1, I (IntKind.i64.wrap ((IntKind.i64.wrap (l + 1)) + 1))), (5, I (i : Int)), (37, Bo (!(ei.data.toList == (mtext (IntKind.i64.wrap ((IntKind.i64.wrap (l + 1)) + 1))).toList)))] rfl (Le.c rfl <| Le.c rfl <| Le.c rfl <| Le.c rfl <| Le.e) ?_
                        refine CW.cond rfl (fun h85 => ?_) (fun h85 => ?_)
                        · skip
                          refine CW.seq ?_
                          refine CW.region ?_
                          refine RW.v rfl (V.as (d := I (-1)) rfl rfl) ?_
                          refine RW.nil ?_
                          refine CW.le [(4, I (-1))] rfl (Le.c rfl <| Le.e) ?_
                          refine CW.ret ?_
                          exact Post.one (RV.i rfl (by rw [← hr, hdi]; clear hr; first | rfl | (simp_all [hdL, hdEEntry, hdI, hdS, inc]; done) | grind [hdL, hdEEntry, hdI, hdS, inc])) (AOs.r (AOs.r AOs.e))
                        · skip
                          refine CW.skip ?_
                          refine CW.le [(0, .r (sl 3 Entry.c a)), (1, I (IntKind.i64.wrap ((IntKind.i64.wrap (l + 1)) + 1))), (5, I (i : Int))] rfl (Le.c rfl <| Le.c rfl <| Le.c rfl <| Le.e) ?_
                          refine CW.region ?_
                          refine RW.v rfl (V.mv (d := I (IntKind.i64.wrap ((IntKind.i64.wrap (l + 1)) + 1))) rfl rfl) ?_
                          refine RW.v rfl (V.arInt rfl rfl rfl rfl) ?_
                          refine RW.v rfl (V.as (d := I (IntKind.i64.wrap ((IntKind.i64.wrap ((IntKind.i64.wrap (l + 1)) + 1)) + 1))) rfl rfl) ?_
                          refine RW.nil ?_
                          refine CW.le [(0, .r (sl 3 Entry.c a)), (1, I (IntKind.i64.wrap ((IntKind.i64.wrap ((IntKind.i64.wrap (l + 1)) + 1)) + 1))), (5, I (i : Int))] rfl (Le.c rfl <| Le.c rfl <| Le.c rfl <| Le.e) ?_
                          refine CW.region ?_
                          refine RW.v rfl (V.mv (d := I (i : Int)) rfl rfl) ?_
                          refine RW.v rfl (V.inc rfl rfl rfl hii hl0) ?_
                          refine RW.v rfl (V.as (d := I ((i + 1 : Nat) : Int)) rfl rfl) ?_
                          refine RW.nil ?_
                          exact ⟨(i + 1, _), by simp only []; omega, ⟨by omega, by first | exact wrap_le _ | omega, by rw [← hr, hdi]; clear hr; first | rfl | (simp_all [hdL, hdEEntry, hdI, hdS, inc]; done) | grind [hdL, hdEEntry, hdI, hdS, inc]⟩, rfl, Le.c rfl <| Le.c rfl <| Le.c rfl <| Le.e⟩
            · skip
              refine RO.v (ls' := #[false, true, false, false, false, true, true, false]) rfl rfl (V.mv (d := I (i : Int)) rfl rfl) rfl ?_
              refine RA.step (L := [0]) (by kernel_rfl) (by simp) (RA.each ?_ (RA.each0))
              · skip
                refine RO.v (ls' := #[true, true, false, false, false, true, true, false]) rfl rfl (V.mv (d := .r (sl 3 Entry.c a)) rfl rfl) rfl ?_
                refine RA.step (L := [2]) (by kernel_rfl) (by simp) (RA.each ?_ (RA.each0))
                · skip
                  refine RO.v (ls' := #[true, true, true, false, false, true, true, false]) rfl rfl (V.indexS rfl rfl rfl rfl rfl rfl Entry.len hei) rfl ?_
                  refine RA.step (L := [3]) (by kernel_rfl) (by simp) (RA.each ?_ (RA.each0))
                  · skip
                    refine RO.v (ls' := #[true, true, true, true, false, true, true, false]) rfl rfl (V.fieldR rfl rfl rfl rfl (by decide) rfl (Nat.le_of_ble_eq_true rfl)) rfl ?_
                    refine RA.step (L := [4]) (by kernel_rfl) (by simp) (RA.each ?_ (RA.each0))
                    · skip
                      refine RO.v (ls' := #[true, true, true, true, true, true, true, false]) rfl rfl (V.loadPrimR (t0 := .v (.string ei.data)) rfl rfl (.inl rfl) rfl rfl) rfl ?_
                      refine RA.step (L := [7]) (by kernel_rfl) (by simp) (RA.each ?_ (RA.each0))
                      · skip
                        refine RO.v (ls' := #[true, true, true, true, true, true, true, true]) rfl rfl (V.strCmp rfl rfl rfl rfl) rfl ?_
                        refine RA.fin (by kernel_rfl) ?_
                        refine CW.le [(0, .r (sl 3 Entry.c a)), (1, I (IntKind.i64.wrap ((IntKind.i64.wrap (l + 1)) + 1))), (5, I (i : Int)), (37, Bo (!(ei.data.toList == (mtext (IntKind.i64.wrap ((IntKind.i64.wrap (l + 1)) + 1))).toList)))] rfl (Le.c rfl <| Le.c rfl <| Le.c rfl <| Le.c rfl <| Le.e) ?_
                        refine CW.cond rfl (fun h86 => ?_) (fun h86 => ?_)
                        · skip
                          refine CW.seq ?_
                          refine CW.region ?_
                          refine RW.v rfl (V.as (d := I (-1)) rfl rfl) ?_
                          refine RW.nil ?_
                          refine CW.le [(4, I (-1))] rfl (Le.c rfl <| Le.e) ?_
                          refine CW.ret ?_
                          exact Post.one (RV.i rfl (by rw [← hr, hdi]; clear hr; first | rfl | (simp_all [hdL, hdEEntry, hdI, hdS, inc]; done) | grind [hdL, hdEEntry, hdI, hdS, inc])) (AOs.r (AOs.r AOs.e))
                        · skip
                          refine CW.skip ?_
                          refine CW.le [(0, .r (sl 3 Entry.c a)), (1, I (IntKind.i64.wrap ((IntKind.i64.wrap (l + 1)) + 1))), (5, I (i : Int))] rfl (Le.c rfl <| Le.c rfl <| Le.c rfl <| Le.e) ?_
                          refine CW.region ?_
                          refine RW.v rfl (V.mv (d := I (IntKind.i64.wrap ((IntKind.i64.wrap (l + 1)) + 1))) rfl rfl) ?_
                          refine RW.v rfl (V.arInt rfl rfl rfl rfl) ?_
                          refine RW.v rfl (V.as (d := I (IntKind.i64.wrap ((IntKind.i64.wrap ((IntKind.i64.wrap (l + 1)) + 1)) + 1))) rfl rfl) ?_
                          refine RW.nil ?_
                          refine CW.le [(0, .r (sl 3 Entry.c a)), (1, I (IntKind.i64.wrap ((IntKind.i64.wrap ((IntKind.i64.wrap (l + 1)) + 1)) + 1))), (5, I (i : Int))] rfl (Le.c rfl <| Le.c rfl <| Le.c rfl <| Le.e) ?_
                          refine CW.region ?_
                          refine RW.v rfl (V.mv (d := I (i : Int)) rfl rfl) ?_
                          refine RW.v rfl (V.inc rfl rfl rfl hii hl0) ?_
                          refine RW.v rfl (V.as (d := I ((i + 1 : Nat) : Int)) rfl rfl) ?_
                          refine RW.nil ?_
                          exact ⟨(i + 1, _), by simp only []; omega, ⟨by omega, by first | exact wrap_le _ | omega, by rw [← hr, hdi]; clear hr; first | rfl | (simp_all [hdL, hdEEntry, hdI, hdS, inc]; done) | grind [hdL, hdEEntry, hdI, hdS, inc]⟩, rfl, Le.c rfl <| Le.c rfl <| Le.c rfl <| Le.e⟩
  · skip
    have hii : a.length ≤ i := by have := h1; simp at this; first | exact this | (simp; omega)
    have hdi : a.drop i = [] := List.drop_eq_nil_of_le hii
    refine CW.exit ?_
    refine CW.le [(1, I l)] rfl (Le.c rfl <| Le.e) ?_
    refine CW.seq ?_
    refine CW.region ?_
    refine RW.v rfl (V.mv (d := I l) rfl rfl) ?_
    refine RW.v rfl (V.as (d := I l) rfl rfl) ?_
    refine RW.nil ?_
    refine CW.le [(4, I l)] rfl (Le.c rfl <| Le.e) ?_
    refine CW.ret ?_
    exact Post.one (RV.i rfl (by rw [← hr, hdi]; clear hr; first | rfl | (simp_all [hdL, hdEEntry, hdI, hdS, inc]; done) | grind [hdL, hdEEntry, hdI, hdS, inc])) (AOs.r (AOs.r AOs.e))
set_option maxHeartbeats 4000000 in
theorem laws_FnExactEntries_fn (a : List Applied) (hok : okL okApplied a) : Eng.Fn E.P 3 [.one (.r (sl 6 Applied.c a))] (.one (.one (.w (.v (.bool true))))) [.one (.r (sl 6 Applied.c a))] := by
  refine Eng.Fn.intro (E := E) (rvs := [.tmp 2]) Try.func3 rfl rfl rfl (by simp [outSlots, moved, rvSlot, sl]) ?_
  intro B g bo
  refine CW.bound (x := .tmp 0) (n := a.length) (AsT.r) (fun hl0 => ?_)
  refine CW.le [(0, .r (sl 6 Applied.c a))] rfl (Le.c rfl <| Le.e) ?_
  refine CW.seq ?_
  refine CW.region ?_
  refine RW.v rfl (V.as (d := Bo false) rfl rfl) ?_
  refine RW.nil ?_
  refine CW.le [(0, .r (sl 6 Applied.c a))] rfl (Le.c rfl <| Le.e) ?_
  refine CW.seq ?_
  refine CW.region ?_
  refine RW.v rfl (V.as (d := I 1048576) rfl rfl) ?_
  refine RW.nil ?_
  refine CW.le [(0, .r (sl 6 Applied.c a)), (3, I 1048576)] rfl (Le.c rfl <| Le.c rfl <| Le.e) ?_
  refine CW.seq ?_
  refine CW.region ?_
  refine RW.v rfl (V.mv (d := .r (sl 6 Applied.c a)) rfl rfl) ?_
  refine RW.v rfl (V.mv (d := I 1048576) rfl rfl) ?_
  refine RW.call rfl (laws_szAppliedS_fn a 1048576) rfl (.cons (.one (.r .r)) (.cons (.one (.r .r)) (.nil))) fun g1 => ?_
  refine RW.v rfl (V.as (d := I (szS szApplied a 1048576)) rfl rfl) ?_
  refine RW.nil ?_
  refine CW.le [(0, .r (sl 6 Applied.c a)), (3, I (szS szApplied a 1048576))] rfl (Le.c rfl <| Le.c rfl <| Le.e) ?_
  refine CW.seq ?_
  refine CW.seq ?_
  refine CW.region ?_
  refine RW.v rfl (V.mv (d := I (szS szApplied a 1048576)) rfl rfl) ?_
  refine RW.v rfl (V.cmpInt rfl rfl rfl rfl) ?_
  refine RW.nil ?_
  refine CW.le [(0, .r (sl 6 Applied.c a)), (18, Bo (decide ((szS szApplied a 1048576) < 0)))] rfl (Le.c rfl <| Le.c rfl <| Le.e) ?_
  refine CW.cond rfl (fun h2 => ?_) (fun h2 => ?_)
  · skip
    refine CW.seq ?_
    refine CW.region ?_
    refine RW.v rfl (V.as (d := Bo true) rfl rfl) ?_
    refine RW.nil ?_
    refine CW.le [(2, Bo true)] rfl (Le.c rfl <| Le.e) ?_
    refine CW.ret ?_
    exact Post.one (RV.b rfl (by first | rfl | (exfalso; have p1 := mkEApplied_pos a (szS_ok szApplied_ok a 1048576 hok (by omega) (by omega) (by simpa using h2)).1.1; have p2 := mkEEntry_pos (ents a) (Nat.le_trans (ents_len a) (szS_ok szApplied_ok a 1048576 hok (by omega) (by omega) (by simpa using h2)).1.1); have p3 := hdEEntry_all (ents a); simp_all [eqS_refl eqEntry_refl, eqS_refl eqApplied_refl]; done) | (exfalso; have p1 := mkEApplied_pos a (szS_ok szApplied_ok a 1048576 hok (by omega) (by omega) (by simpa using h2)).1.1; have p2 := mkEEntry_pos (ents a) (Nat.le_trans (ents_len a) (szS_ok szApplied_ok a 1048576 hok (by omega) (by omega) (by simpa using h2)).1.1); have p3 := hdEEntry_all (ents a); simp_all [eqS_refl eqEntry_refl, eqS_refl eqApplied_refl]; omega))) (AOs.r AOs.e)
  · skip
    refine CW.skip ?_
    refine CW.le [(0, .r (sl 6 Applied.c a))] rfl (Le.c rfl <| Le.e) ?_
    refine CW.seq ?_
    refine CW.region ?_
    refine RW.v rfl (V.mv (d := .r (sl 6 Applied.c a)) rfl rfl) ?_
    refine RW.call rfl (laws_toAppliedS_fn a (szS_ok szApplied_ok a 1048576 hok (by omega) (by omega) (by simpa using h2)).1.1 (szS_ok szApplied_ok a 1048576 hok (by omega) (by omega) (by simpa using h2)).1.2) rfl (.cons (.one (.r .r)) (.nil)) fun g3 => ?_
    refine RW.callOwn rfl (spec_Entries_fn a (szS_ok szApplied_ok a 1048576 hok (by omega) (by omega) (by simpa using h2)).1.1) rfl (.cons (.one (.r (.al rfl rfl nofun))) (.nil)) rfl fun g4 => ?_
    refine RW.moveMove rfl rfl rfl (by decide) (Nat.le_of_ble_eq_true rfl) (Nat.le_of_ble_eq_true rfl) ?_
    refine RW.extract (d := .w (sl 3 Entry.c (ents a)) (g4 0 0)) rfl rfl rfl (by decide) (Nat.le_of_ble_eq_true rfl) rfl rfl ?_
    refine RW.extract (d := Bo (pairs badApplied [] a)) rfl rfl rfl (by decide) (Nat.le_of_ble_eq_true rfl) rfl rfl ?_
    refine RW.assignMove rfl rfl rfl (by decide) (Nat.le_of_ble_eq_true rfl) (Nat.le_of_ble_eq_true rfl) ?_
    refine RW.v rfl (V.as (d := Bo (pairs badApplied [] a)) rfl rfl) ?_
    refine RW.nil ?_
    refine CW.le [(0, .r (sl 6 Applied.c a)), (4, .w (sl 3 Entry.c (ents a)) (g4 0 0)), (5, Bo (pairs badApplied [] a))] rfl (Le.c rfl <| Le.c rfl <| Le.c rfl <| Le.e) ?_
    refine CW.seq ?_
    refine CW.region ?_
    refine RW.v rfl (V.mv (d := .r (sl 6 Applied.c a)) rfl rfl) ?_
    refine RW.call rfl (laws_toAppliedS_fn a (szS_ok szApplied_ok a 1048576 hok (by omega) (by omega) (by simpa using h2)).1.1 (szS_ok szApplied_ok a 1048576 hok (by omega) (by omega) (by simpa using h2)).1.2) rfl (.cons (.one (.r .r)) (.nil)) fun g5 => ?_
    refine RW.assignMove rfl rfl rfl (by decide) (Nat.le_of_ble_eq_true rfl) (Nat.le_of_ble_eq_true rfl) ?_
    refine RW.nil ?_
    refine CW.le [(0, .r (sl 6 Applied.c a)), (4, .w (sl 3 Entry.c (ents a)) (g4 0 0)), (5, Bo (pairs badApplied [] a)), (6, .w (sl 6 Applied.c a) (g5 0 0))] rfl (Le.c rfl <| Le.c rfl <| Le.c rfl <| Le.c rfl <| Le.e) ?_
    refine CW.seq ?_
    refine CW.region ?_
    refine RW.v rfl (V.mv (d := .al 6 none 6 a.length (g5 0 0) 0) rfl rfl) ?_
    refine RW.callOwn rfl (impl_Entries_fn a (szS_ok szApplied_ok a 1048576 hok (by omega) (by omega) (by simpa using h2)).1.1) rfl (.cons (.one (.r (.al rfl rfl nofun))) (.nil)) rfl fun g6 => ?_
    refine RW.moveMove rfl rfl rfl (by decide) (Nat.le_of_ble_eq_true rfl) (Nat.le_of_ble_eq_true rfl) ?_
    refine RW.extract (d := .w (sl 3 Entry.c (ents a)) (g6 0 0)) rfl rfl rfl (by decide) (Nat.le_of_ble_eq_true rfl) rfl rfl ?_
    refine RW.extract (d := Bo (pairs badApplied [] a)) rfl rfl rfl (by decide) (Nat.le_of_ble_eq_true rfl) rfl rfl ?_
    refine RW.assignMove rfl rfl rfl (by decide) (Nat.le_of_ble_eq_true rfl) (Nat.le_of_ble_eq_true rfl) ?_
    refine RW.v rfl (V.as (d := Bo (pairs badApplied [] a)) rfl rfl) ?_
    refine RW.nil ?_
    refine CW.le [(0, .r (sl 6 Applied.c a)), (4, .w (sl 3 Entry.c (ents a)) (g4 0 0)), (5, Bo (pairs badApplied [] a)), (6, .w (sl 6 Applied.c a) (g5 0 0)), (7, .w (sl 3 Entry.c (ents a)) (g6 0 0)), (8, Bo (pairs badApplied [] a))] rfl (Le.c rfl <| Le.c rfl <| Le.c rfl <| Le.c rfl <| Le.c rfl <| Le.c rfl <| Le.e) ?_
    refine CW.seq ?_
    refine CW.seqJ 96 (fun (v7 : Bool) => [(0, .r (sl 6 Applied.c a)), (4, .w (sl 3 Entry.c (ents a)) (g4 0 0)), (5, Bo (pairs badApplied [] a)), (6, .w (sl 6 Applied.c a) (g5 0 0)), (7, .w (sl 3 Entry.c (ents a)) (g6 0 0)), (8, Bo (pairs badApplied [] a)), (40, Bo v7)]) (fun v7 => v7 = ((!(eqS eqEntry (ents a) (ents a))) || (!((pairs badApplied [] a) == (pairs badApplied [] a))))) ?_ ?_
    · refine CW.region ?_
      refine RW.v rfl (V.mv (d := .al 7 none 3 ((ents a).length) (g6 0 0) 0) rfl rfl) ?_
      refine RW.v rfl (V.mv (d := .al 4 none 3 ((ents a).length) (g4 0 0) 0) rfl rfl) ?_
      refine RW.callOwn rfl (laws_eqEntryS_fn (ents a) (ents a)) rfl (.cons (.one (.r (.al rfl rfl nofun))) (.cons (.one (.r (.al rfl rfl nofun))) (.nil))) rfl fun g8 => ?_
      refine RW.v rfl (V.not rfl rfl) ?_
      refine RW.v rfl (V.mv (d := Bo (!(eqS eqEntry (ents a) (ents a)))) rfl rfl) ?_
      refine RW.gv rfl rfl rfl rfl (fun h9 => V.mv (d := Bo (pairs badApplied [] a)) rfl rfl) (fun h9 => ?_) (fun h9 => ?_)
      · skip
        refine RW.gt rfl rfl rfl rfl (V.mv (d := Bo (pairs badApplied [] a)) rfl rfl) ?_
        refine RW.gt rfl rfl rfl rfl (V.eqBool rfl rfl rfl (by kernel_rfl) (.inr ⟨rfl, rfl⟩)) ?_
        refine RW.v rfl (V.pickF (d := Bo (!((pairs badApplied [] a) == (pairs badApplied [] a)))) rfl rfl rfl) ?_
        refine RW.nil ?_
        exact ⟨_, by first | rfl | (simp_all; done) | (simp_all; omega) | grind, rfl, Le.c rfl <| Le.c rfl <| Le.c rfl <| Le.c rfl <| Le.c rfl <| Le.c rfl <| Le.c rfl <| Le.e⟩
      · skip
        refine RW.guardF rfl rfl rfl rfl ?_
        refine RW.guardF rfl rfl rfl rfl ?_
        refine RW.v rfl (V.pickT (d := Bo true) rfl rfl rfl) ?_
        refine RW.nil ?_
        exact ⟨_, by first | rfl | (simp_all; done) | (simp_all; omega) | grind, rfl, Le.c rfl <| Le.c rfl <| Le.c rfl <| Le.c rfl <| Le.c rfl <| Le.c rfl <| Le.c rfl <| Le.e⟩
    · intro v7 hv10
      refine CW.cond rfl (fun h11 => ?_) (fun h11 => ?_)
      · skip
        refine CW.seq ?_
        refine CW.region ?_
        refine RW.v rfl (V.as (d := Bo false) rfl rfl) ?_
        refine RW.nil ?_
        refine CW.le [(2, Bo false)] rfl (Le.c rfl <| Le.e) ?_
        refine CW.ret ?_
        exact Post.one (RV.b rfl (by first | rfl | (exfalso; have p1 := mkEApplied_pos a (szS_ok szApplied_ok a 1048576 hok (by omega) (by omega) (by simpa using h2)).1.1; have p2 := mkEEntry_pos (ents a) (Nat.le_trans (ents_len a) (szS_ok szApplied_ok a 1048576 hok (by omega) (by omega) (by simpa using h2)).1.1); have p3 := hdEEntry_all (ents a); simp_all [eqS_refl eqEntry_refl, eqS_refl eqApplied_refl]; done) | (exfalso; have p1 := mkEApplied_pos a (szS_ok szApplied_ok a 1048576 hok (by omega) (by omega) (by simpa using h2)).1.1; have p2 := mkEEntry_pos (ents a) (Nat.le_trans (ents_len a) (szS_ok szApplied_ok a 1048576 hok (by omega) (by omega) (by simpa using h2)).1.1); have p3 := hdEEntry_all (ents a); simp_all [eqS_refl eqEntry_refl, eqS_refl eqApplied_refl]; omega))) (AOs.r AOs.e)
      · skip
        refine CW.skip ?_
        refine CW.le [(0, .r (sl 6 Applied.c a)), (4, .w (sl 3 Entry.c (ents a)) (g4 0 0)), (5, Bo (pairs badApplied [] a)), (6, .w (sl 6 Applied.c a) (g5 0 0)), (7, .w (sl 3 Entry.c (ents a)) (g6 0 0)), (8, Bo (pairs badApplied [] a))] rfl (Le.c rfl <| Le.c rfl <| Le.c rfl <| Le.c rfl <| Le.c rfl <| Le.c rfl <| Le.e) ?_
        refine CW.seq ?_
        refine CW.seq ?_
        refine CW.region ?_
        refine RW.v rfl (V.mv (d := .al 6 none 6 a.length (g5 0 0) 0) rfl rfl) ?_
        refine RW.v rfl (V.mv (d := .r (sl 6 Applied.c a)) rfl rfl) ?_
        refine RW.call rfl (laws_toAppliedS_fn a (szS_ok szApplied_ok a 1048576 hok (by omega) (by omega) (by simpa using h2)).1.1 (szS_ok szApplied_ok a 1048576 hok (by omega) (by omega) (by simpa using h2)).1.2) rfl (.cons (.one (.r .r)) (.nil)) fun g12 => ?_
        refine RW.callOwn rfl (laws_eqAppliedS_fn a a) rfl (.cons (.one (.r (.al rfl rfl nofun))) (.cons (.one (.r (.al rfl rfl nofun))) (.nil))) rfl fun g13 => ?_
        refine RW.v rfl (V.not rfl rfl) ?_
        refine RW.nil ?_
        refine CW.le [(0, .r (sl 6 Applied.c a)), (4, .w (sl 3 Entry.c (ents a)) (g4 0 0)), (5, Bo (pairs badApplied [] a)), (6, .w (sl 6 Applied.c a) (g5 0 0)), (7, .w (sl 3 Entry.c (ents a)) (g6 0 0)), (8, Bo (pairs badApplied [] a)), (45, Bo (!(eqS eqApplied a a)))] rfl (Le.c rfl <| Le.c rfl <| Le.c rfl <| Le.c rfl <| Le.c rfl <| Le.c rfl <| Le.c rfl <| Le.e) ?_
        refine CW.cond rfl (fun h14 => ?_) (fun h14 => ?_)
        · skip
          refine CW.seq ?_
          refine CW.region ?_
          refine RW.v rfl (V.as (d := Bo false) rfl rfl) ?_
          refine RW.nil ?_
          refine CW.le [(2, Bo false)] rfl (Le.c rfl <| Le.e) ?_
          refine CW.ret ?_
          exact Post.one (RV.b rfl (by first | rfl | (exfalso; have p1 := mkEApplied_pos a (szS_ok szApplied_ok a 1048576 hok (by omega) (by omega) (by simpa using h2)).1.1; have p2 := mkEEntry_pos (ents a) (Nat.le_trans (ents_len a) (szS_ok szApplied_ok a 1048576 hok (by omega) (by omega) (by simpa using h2)).1.1); have p3 := hdEEntry_all (ents a); simp_all [eqS_refl eqEntry_refl, eqS_refl eqApplied_refl]; done) | (exfalso; have p1 := mkEApplied_pos a (szS_ok szApplied_ok a 1048576 hok (by omega) (by omega) (by simpa using h2)).1.1; have p2 := mkEEntry_pos (ents a) (Nat.le_trans (ents_len a) (szS_ok szApplied_ok a 1048576 hok (by omega) (by omega) (by simpa using h2)).1.1); have p3 := hdEEntry_all (ents a); simp_all [eqS_refl eqEntry_refl, eqS_refl eqApplied_refl]; omega))) (AOs.r AOs.e)
        · skip
          refine CW.skip ?_
          refine CW.le [(0, .r (sl 6 Applied.c a)), (4, .w (sl 3 Entry.c (ents a)) (g4 0 0)), (5, Bo (pairs badApplied [] a)), (6, .w (sl 6 Applied.c a) (g5 0 0)), (7, .w (sl 3 Entry.c (ents a)) (g6 0 0)), (8, Bo (pairs badApplied [] a))] rfl (Le.c rfl <| Le.c rfl <| Le.c rfl <| Le.c rfl <| Le.c rfl <| Le.c rfl <| Le.e) ?_
          refine CW.seq ?_
          refine CW.region ?_
          refine RW.v rfl (V.as (d := I 1) rfl rfl) ?_
          refine RW.nil ?_
          refine CW.le [(0, .r (sl 6 Applied.c a)), (4, .w (sl 3 Entry.c (ents a)) (g4 0 0)), (5, Bo (pairs badApplied [] a)), (6, .w (sl 6 Applied.c a) (g5 0 0)), (7, .w (sl 3 Entry.c (ents a)) (g6 0 0)), (8, Bo (pairs badApplied [] a)), (9, I 1)] rfl (Le.c rfl <| Le.c rfl <| Le.c rfl <| Le.c rfl <| Le.c rfl <| Le.c rfl <| Le.c rfl <| Le.e) ?_
          refine CW.seq ?_
          refine CW.region ?_
          refine RW.v rfl (V.mv (d := .al 6 none 6 a.length (g5 0 0) 0) rfl rfl) ?_
          refine RW.v rfl (V.mv (d := I 1) rfl rfl) ?_
          refine RW.callW (k := 6) (laws_markAppliedS_fn a 1 (by decide)) rfl rfl (Nat.le_of_ble_eq_true rfl) (by decide) (.here (AsW.own) (.cons (.one (.r .r)) (.nil))) rfl fun g15 g16 => ?_
          refine RW.v rfl (V.as (d := I ((mkL mkEApplied a 1).2)) rfl rfl) ?_
          refine RW.nil ?_
          refine CW.le [(0, .r (sl 6 Applied.c a)), (4, .w (sl 3 Entry.c (ents a)) (g4 0 0)), (5, Bo (pairs badApplied [] a)), (7, .w (sl 3 Entry.c (ents a)) (g6 0 0)), (8, Bo (pairs badApplied [] a)), (9, I ((mkL mkEApplied a 1).2))] rfl (Le.c rfl <| Le.c rfl <| Le.c rfl <| Le.c rfl <| Le.c rfl <| Le.c rfl <| Le.e) ?_
          refine CW.seq ?_
          refine CW.seqJ 96 (fun (v17 : Bool) => [(0, .r (sl 6 Applied.c a)), (4, .w (sl 3 Entry.c (ents a)) (g4 0 0)), (5, Bo (pairs badApplied [] a)), (7, .w (sl 3 Entry.c (ents a)) (g6 0 0)), (61, Bo v17)]) (fun v17 => v17 = ((decide (((mkL mkEApplied a 1).2) < 0) || (!(eqS eqEntry (ents a) (ents a)))) || (!((pairs badApplied [] a) == (pairs badApplied [] a))))) ?_ ?_
          · refine CW.region ?_
            refine RW.v rfl (V.mv (d := I ((mkL mkEApplied a 1).2)) rfl rfl) ?_
            refine RW.v rfl (V.cmpInt rfl rfl rfl rfl) ?_
            refine RW.v rfl (V.mv (d := Bo (decide (((mkL mkEApplied a 1).2) < 0))) rfl rfl) ?_
            refine RW.gv rfl rfl rfl rfl (fun h18 => V.mv (d := .al 7 none 3 ((ents a).length) (g6 0 0) 0) rfl rfl) (fun h18 => ?_) (fun h18 => ?_)
            · skip
              refine RW.gt rfl rfl rfl rfl (V.mv (d := .al 4 none 3 ((ents a).length) (g4 0 0) 0) rfl rfl) ?_
              refine RW.gcallOwn rfl rfl rfl rfl (laws_eqEntryS_fn (ents a) (ents a)) rfl (.cons (.one (.r (.al rfl rfl nofun))) (.cons (.one (.r (.al rfl rfl nofun))) (.nil))) rfl fun g19 => ?_
              refine RW.gt rfl rfl rfl rfl (V.not rfl rfl) ?_
              refine RW.v rfl (V.pickF (d := Bo (!(eqS eqEntry (ents a) (ents a)))) rfl rfl rfl) ?_
              refine RW.v rfl (V.mv (d := Bo (!(eqS eqEntry (ents a) (ents a)))) rfl rfl) ?_
              refine RW.gv rfl rfl rfl rfl (fun h20 => V.mv (d := Bo (pairs badApplied [] a)) rfl rfl) (fun h20 => ?_) (fun h20 => ?_)
              · skip
                refine RW.gt rfl rfl rfl rfl (V.mv (d := Bo (pairs badApplied [] a)) rfl rfl) ?_
                refine RW.gt rfl rfl rfl rfl (V.eqBool rfl rfl rfl (by kernel_rfl) (.inr ⟨rfl, rfl⟩)) ?_
                refine RW.v rfl (V.pickF (d := Bo (!((pairs badApplied [] a) == (pairs badApplied [] a)))) rfl rfl rfl) ?_
                refine RW.nil ?_
                exact ⟨_, by first | rfl | (simp_all; done) | (simp_all; omega) | grind, rfl, Le.c rfl <| Le.c rfl <| Le.c rfl <| Le.c rfl <| Le.c rfl <| Le.e⟩
              · skip
                refine RW.guardF rfl rfl rfl rfl ?_
                refine RW.guardF rfl rfl rfl rfl ?_
                refine RW.v rfl (V.pickT (d := Bo true) rfl rfl rfl) ?_
                refine RW.nil ?_
                exact ⟨_, by first | rfl | (simp_all; done) | (simp_all; omega) | grind, rfl, Le.c rfl <| Le.c rfl <| Le.c rfl <| Le.c rfl <| Le.c rfl <| Le.e⟩
            · skip
              refine RW.guardF rfl rfl rfl rfl ?_
              refine RW.guardF rfl rfl rfl rfl ?_
              refine RW.guardF rfl rfl rfl rfl ?_
              refine RW.v rfl (V.pickT (d := Bo true) rfl rfl rfl) ?_
              refine RW.v rfl (V.mv (d := Bo true) rfl rfl) ?_
              refine RW.guardF rfl rfl rfl rfl ?_
              refine RW.guardF rfl rfl rfl rfl ?_
              refine RW.guardF rfl rfl rfl rfl ?_
              refine RW.v rfl (V.pickT (d := Bo true) rfl rfl rfl) ?_
              refine RW.nil ?_
              exact ⟨_, by first | rfl | (simp_all; done) | (simp_all; omega) | grind, rfl, Le.c rfl <| Le.c rfl <| Le.c rfl <| Le.c rfl <| Le.c rfl <| Le.e⟩
          · intro v17 hv21
            refine CW.cond rfl (fun h22 => ?_) (fun h22 => ?_)
            · skip
              refine CW.seq ?_
              refine CW.region ?_
              refine RW.v rfl (V.as (d := Bo false) rfl rfl) ?_
              refine RW.nil ?_
              refine CW.le [(2, Bo false)] rfl (Le.c rfl <| Le.e) ?_
              refine CW.ret ?_
              exact Post.one (RV.b rfl (by first | rfl | (exfalso; have p1 := mkEApplied_pos a (szS_ok szApplied_ok a 1048576 hok (by omega) (by omega) (by simpa using h2)).1.1; have p2 := mkEEntry_pos (ents a) (Nat.le_trans (ents_len a) (szS_ok szApplied_ok a 1048576 hok (by omega) (by omega) (by simpa using h2)).1.1); have p3 := hdEEntry_all (ents a); simp_all [eqS_refl eqEntry_refl, eqS_refl eqApplied_refl]; done) | (exfalso; have p1 := mkEApplied_pos a (szS_ok szApplied_ok a 1048576 hok (by omega) (by omega) (by simpa using h2)).1.1; have p2 := mkEEntry_pos (ents a) (Nat.le_trans (ents_len a) (szS_ok szApplied_ok a 1048576 hok (by omega) (by omega) (by simpa using h2)).1.1); have p3 := hdEEntry_all (ents a); simp_all [eqS_refl eqEntry_refl, eqS_refl eqApplied_refl]; omega))) (AOs.r AOs.e)
            · skip
              refine CW.skip ?_
              refine CW.le [(0, .r (sl 6 Applied.c a)), (4, .w (sl 3 Entry.c (ents a)) (g4 0 0)), (5, Bo (pairs badApplied [] a)), (7, .w (sl 3 Entry.c (ents a)) (g6 0 0))] rfl (Le.c rfl <| Le.c rfl <| Le.c rfl <| Le.c rfl <| Le.e) ?_
              refine CW.seq ?_
              refine CW.region ?_
              refine RW.v rfl (V.as (d := I 1) rfl rfl) ?_
              refine RW.nil ?_
              refine CW.le [(0, .r (sl 6 Applied.c a)), (4, .w (sl 3 Entry.c (ents a)) (g4 0 0)), (5, Bo (pairs badApplied [] a)), (7, .w (sl 3 Entry.c (ents a)) (g6 0 0)), (10, I 1)] rfl (Le.c rfl <| Le.c rfl <| Le.c rfl <| Le.c rfl <| Le.c rfl <| Le.e) ?_
              refine CW.seq ?_
              refine CW.region ?_
              refine RW.v rfl (V.mv (d := .al 7 none 3 ((ents a).length) (g6 0 0) 0) rfl rfl) ?_
              refine RW.v rfl (V.mv (d := I 1) rfl rfl) ?_
              refine RW.callW (k := 7) (laws_markEntryS_fn (ents a) 1 (by decide)) rfl rfl (Nat.le_of_ble_eq_true rfl) (by decide) (.here (AsW.own) (.cons (.one (.r .r)) (.nil))) rfl fun g23 g24 => ?_
              refine RW.v rfl (V.as (d := I ((mkL mkEEntry (ents a) 1).2)) rfl rfl) ?_
              refine RW.nil ?_
              refine CW.le [(0, .r (sl 6 Applied.c a)), (4, .w (sl 3 Entry.c (ents a)) (g4 0 0)), (5, Bo (pairs badApplied [] a)), (7, .w (sl 3 Entry.c ((mkL mkEEntry (ents a) 1).1)) (g6 0 0)), (10, I ((mkL mkEEntry (ents a) 1).2))] rfl (Le.c rfl <| Le.c rfl <| Le.c rfl <| Le.c rfl <| Le.c rfl <| Le.e) ?_
              refine CW.seq ?_
              refine CW.region ?_
              refine RW.v rfl (V.as (d := I 1) rfl rfl) ?_
              refine RW.nil ?_
              refine CW.le [(0, .r (sl 6 Applied.c a)), (4, .w (sl 3 Entry.c (ents a)) (g4 0 0)), (5, Bo (pairs badApplied [] a)), (7, .w (sl 3 Entry.c ((mkL mkEEntry (ents a) 1).1)) (g6 0 0)), (10, I ((mkL mkEEntry (ents a) 1).2)), (11, I 1)] rfl (Le.c rfl <| Le.c rfl <| Le.c rfl <| Le.c rfl <| Le.c rfl <| Le.c rfl <| Le.e) ?_
              refine CW.seq ?_
              refine CW.region ?_
              refine RW.v rfl (V.mv (d := .al 7 none 3 (((mkL mkEEntry (ents a) 1).1).length) (g6 0 0) 0) rfl rfl) ?_
              refine RW.v rfl (V.mv (d := I 1) rfl rfl) ?_
              refine RW.callOwn rfl (laws_heldEntryS_fn ((mkL mkEEntry (ents a) 1).1) 1 (by decide)) rfl (.cons (.one (.r (.al rfl rfl nofun))) (.cons (.one (.r .r)) (.nil))) rfl fun g25 => ?_
              refine RW.v rfl (V.as (d := I ((hdL hdEEntry ((mkL mkEEntry (ents a) 1).1) 1).getD (-1))) rfl rfl) ?_
              refine RW.nil ?_
              refine CW.le [(0, .r (sl 6 Applied.c a)), (4, .w (sl 3 Entry.c (ents a)) (g4 0 0)), (5, Bo (pairs badApplied [] a)), (7, .w (sl 3 Entry.c ((mkL mkEEntry (ents a) 1).1)) (g6 0 0)), (10, I ((mkL mkEEntry (ents a) 1).2)), (11, I ((hdL hdEEntry ((mkL mkEEntry (ents a) 1).1) 1).getD (-1)))] rfl (Le.c rfl <| Le.c rfl <| Le.c rfl <| Le.c rfl <| Le.c rfl <| Le.c rfl <| Le.e) ?_
              refine CW.seq ?_
              refine CW.seq ?_
              refine CW.region ?_
              refine RW.v rfl (V.mv (d := I ((hdL hdEEntry ((mkL mkEEntry (ents a) 1).1) 1).getD (-1))) rfl rfl) ?_
              refine RW.v rfl (V.cmpInt rfl rfl rfl rfl) ?_
              refine RW.nil ?_
              refine CW.le [(0, .r (sl 6 Applied.c a)), (4, .w (sl 3 Entry.c (ents a)) (g4 0 0)), (5, Bo (pairs badApplied [] a)), (7, .w (sl 3 Entry.c ((mkL mkEEntry (ents a) 1).1)) (g6 0 0)), (10, I ((mkL mkEEntry (ents a) 1).2)), (11, I ((hdL hdEEntry ((mkL mkEEntry (ents a) 1).1) 1).getD (-1))), (69, Bo (decide (((hdL hdEEntry ((mkL mkEEntry (ents a) 1).1) 1).getD (-1)) < 0)))] rfl (Le.c rfl <| Le.c rfl <| Le.c rfl <| Le.c rfl <| Le.c rfl <| Le.c rfl <| Le.c rfl <| Le.e) ?_
              refine CW.cond rfl (fun h26 => ?_) (fun h26 => ?_)
              · skip
                refine CW.seq ?_
                refine CW.region ?_
                refine RW.v rfl (V.as (d := Bo false) rfl rfl) ?_
                refine RW.nil ?_
                refine CW.le [(2, Bo false)] rfl (Le.c rfl <| Le.e) ?_
                refine CW.ret ?_
                exact Post.one (RV.b rfl (by first | rfl | (exfalso; have p1 := mkEApplied_pos a (szS_ok szApplied_ok a 1048576 hok (by omega) (by omega) (by simpa using h2)).1.1; have p2 := mkEEntry_pos (ents a) (Nat.le_trans (ents_len a) (szS_ok szApplied_ok a 1048576 hok (by omega) (by omega) (by simpa using h2)).1.1); have p3 := hdEEntry_all (ents a); simp_all [eqS_refl eqEntry_refl, eqS_refl eqApplied_refl]; done) | (exfalso; have p1 := mkEApplied_pos a (szS_ok szApplied_ok a 1048576 hok (by omega) (by omega) (by simpa using h2)).1.1; have p2 := mkEEntry_pos (ents a) (Nat.le_trans (ents_len a) (szS_ok szApplied_ok a 1048576 hok (by omega) (by omega) (by simpa using h2)).1.1); have p3 := hdEEntry_all (ents a); simp_all [eqS_refl eqEntry_refl, eqS_refl eqApplied_refl]; omega))) (AOs.r AOs.e)
              · skip
                refine CW.skip ?_
                refine CW.le [(0, .r (sl 6 Applied.c a)), (4, .w (sl 3 Entry.c (ents a)) (g4 0 0)), (5, Bo (pairs badApplied [] a)), (7, .w (sl 3 Entry.c ((mkL mkEEntry (ents a) 1).1)) (g6 0 0)), (10, I ((mkL mkEEntry (ents a) 1).2)), (11, I ((hdL hdEEntry ((mkL mkEEntry (ents a) 1).1) 1).getD (-1)))] rfl (Le.c rfl <| Le.c rfl <| Le.c rfl <| Le.c rfl <| Le.c rfl <| Le.c rfl <| Le.e) ?_
                refine CW.seq ?_
                refine CW.seq ?_
                refine CW.region ?_
                refine RW.v rfl (V.mv (d := I ((hdL hdEEntry ((mkL mkEEntry (ents a) 1).1) 1).getD (-1))) rfl rfl) ?_
                refine RW.v rfl (V.mv (d := I ((mkL mkEEntry (ents a) 1).2)) rfl rfl) ?_
                refine RW.v rfl (V.cmpInt rfl rfl rfl rfl) ?_
                refine RW.nil ?_
                refine CW.le [(0, .r (sl 6 Applied.c a)), (4, .w (sl 3 Entry.c (ents a)) (g4 0 0)), (5, Bo (pairs badApplied [] a)), (7, .w (sl 3 Entry.c ((mkL mkEEntry (ents a) 1).1)) (g6 0 0)), (10, I ((mkL mkEEntry (ents a) 1).2)), (72, Bo (((hdL hdEEntry ((mkL mkEEntry (ents a) 1).1) 1).getD (-1)) != ((mkL mkEEntry (ents a) 1).2)))] rfl (Le.c rfl <| Le.c rfl <| Le.c rfl <| Le.c rfl <| Le.c rfl <| Le.c rfl <| Le.e) ?_
                refine CW.cond rfl (fun h27 => ?_) (fun h27 => ?_)
                · skip
                  refine CW.seq ?_
                  refine CW.region ?_
                  refine RW.v rfl (V.as (d := Bo false) rfl rfl) ?_
                  refine RW.nil ?_
                  refine CW.le [(2, Bo false)] rfl (Le.c rfl <| Le.e) ?_
                  refine CW.ret ?_
                  exact Post.one (RV.b rfl (by first | rfl | (exfalso; have p1 := mkEApplied_pos a (szS_ok szApplied_ok a 1048576 hok (by omega) (by omega) (by simpa using h2)).1.1; have p2 := mkEEntry_pos (ents a) (Nat.le_trans (ents_len a) (szS_ok szApplied_ok a 1048576 hok (by omega) (by omega) (by simpa using h2)).1.1); have p3 := hdEEntry_all (ents a); simp_all [eqS_refl eqEntry_refl, eqS_refl eqApplied_refl]; done) | (exfalso; have p1 := mkEApplied_pos a (szS_ok szApplied_ok a 1048576 hok (by omega) (by omega) (by simpa using h2)).1.1; have p2 := mkEEntry_pos (ents a) (Nat.le_trans (ents_len a) (szS_ok szApplied_ok a 1048576 hok (by omega) (by omega) (by simpa using h2)).1.1); have p3 := hdEEntry_all (ents a); simp_all [eqS_refl eqEntry_refl, eqS_refl eqApplied_refl]; omega))) (AOs.r AOs.e)
                · skip
                  refine CW.skip ?_
                  refine CW.le [(0, .r (sl 6 Applied.c a)), (4, .w (sl 3 Entry.c (ents a)) (g4 0 0)), (5, Bo (pairs badApplied [] a)), (7, .w (sl 3 Entry.c ((mkL mkEEntry (ents a) 1).1)) (g6 0 0)), (10, I ((mkL mkEEntry (ents a) 1).2))] rfl (Le.c rfl <| Le.c rfl <| Le.c rfl <| Le.c rfl <| Le.c rfl <| Le.e) ?_
                  refine CW.seq ?_
                  refine CW.region ?_
                  refine RW.v rfl (V.mv (d := .r (sl 6 Applied.c a)) rfl rfl) ?_
                  refine RW.call rfl (laws_toAppliedS_fn a (szS_ok szApplied_ok a 1048576 hok (by omega) (by omega) (by simpa using h2)).1.1 (szS_ok szApplied_ok a 1048576 hok (by omega) (by omega) (by simpa using h2)).1.2) rfl (.cons (.one (.r .r)) (.nil)) fun g28 => ?_
                  refine RW.callOwn rfl (impl_Entries_fn a (szS_ok szApplied_ok a 1048576 hok (by omega) (by omega) (by simpa using h2)).1.1) rfl (.cons (.one (.r (.al rfl rfl nofun))) (.nil)) rfl fun g29 => ?_
                  refine RW.moveMove rfl rfl rfl (by decide) (Nat.le_of_ble_eq_true rfl) (Nat.le_of_ble_eq_true rfl) ?_
                  refine RW.extract (d := .w (sl 3 Entry.c (ents a)) (g29 0 0)) rfl rfl rfl (by decide) (Nat.le_of_ble_eq_true rfl) rfl rfl ?_
                  refine RW.extract (d := Bo (pairs badApplied [] a)) rfl rfl rfl (by decide) (Nat.le_of_ble_eq_true rfl) rfl rfl ?_
                  refine RW.assignMove rfl rfl rfl (by decide) (Nat.le_of_ble_eq_true rfl) (Nat.le_of_ble_eq_true rfl) ?_
                  refine RW.v rfl (V.as (d := Bo (pairs badApplied [] a)) rfl rfl) ?_
                  refine RW.nil ?_
                  refine CW.le [(4, .w (sl 3 Entry.c (ents a)) (g4 0 0)), (5, Bo (pairs badApplied [] a)), (7, .w (sl 3 Entry.c ((mkL mkEEntry (ents a) 1).1)) (g6 0 0)), (10, I ((mkL mkEEntry (ents a) 1).2)), (12, .w (sl 3 Entry.c (ents a)) (g29 0 0)), (13, Bo (pairs badApplied [] a))] rfl (Le.c rfl <| Le.c rfl <| Le.c rfl <| Le.c rfl <| Le.c rfl <| Le.c rfl <| Le.e) ?_
                  refine CW.seq ?_
                  refine CW.seqJ 96 (fun (v30 : Bool) => [(7, .w (sl 3 Entry.c ((mkL mkEEntry (ents a) 1).1)) (g6 0 0)), (10, I ((mkL mkEEntry (ents a) 1).2)), (87, Bo v30)]) (fun v30 => v30 = ((!(eqS eqEntry (ents a) (ents a))) || (!((pairs badApplied [] a) == (pairs badApplied [] a))))) ?_ ?_
                  · refine CW.region ?_
                    refine RW.v rfl (V.mv (d := .al 12 none 3 ((ents a).length) (g29 0 0) 0) rfl rfl) ?_
                    refine RW.v rfl (V.mv (d := .al 4 none 3 ((ents a).length) (g4 0 0) 0) rfl rfl) ?_
                    refine RW.callOwn rfl (laws_eqEntryS_fn (ents a) (ents a)) rfl (.cons (.one (.r (.al rfl rfl nofun))) (.cons (.one (.r (.al rfl rfl nofun))) (.nil))) rfl fun g31 => ?_
                    refine RW.v rfl (V.not rfl rfl) ?_
                    refine RW.v rfl (V.mv (d := Bo (!(eqS eqEntry (ents a) (ents a)))) rfl rfl) ?_
                    refine RW.gv rfl rfl rfl rfl (fun h32 => V.mv (d := Bo (pairs badApplied [] a)) rfl rfl) (fun h32 => ?_) (fun h32 => ?_)
                    · skip
                      refine RW.gt rfl rfl rfl rfl (V.mv (d := Bo (pairs badApplied [] a)) rfl rfl) ?_
                      refine RW.gt rfl rfl rfl rfl (V.eqBool rfl rfl rfl (by kernel_rfl) (.inr ⟨rfl, rfl⟩)) ?_
                      refine RW.v rfl (V.pickF (d := Bo (!((pairs badApplied [] a) == (pairs badApplied [] a)))) rfl rfl rfl) ?_
                      refine RW.nil ?_
                      exact ⟨_, by first | rfl | (simp_all; done) | (simp_all; omega) | grind, rfl, Le.c rfl <| Le.c rfl <| Le.c rfl <| Le.e⟩
                    · skip
                      refine RW.guardF rfl rfl rfl rfl ?_
                      refine RW.guardF rfl rfl rfl rfl ?_
                      refine RW.v rfl (V.pickT (d := Bo true) rfl rfl rfl) ?_
                      refine RW.nil ?_
                      exact ⟨_, by first | rfl | (simp_all; done) | (simp_all; omega) | grind, rfl, Le.c rfl <| Le.c rfl <| Le.c rfl <| Le.e⟩
                  · intro v30 hv33
                    refine CW.cond rfl (fun h34 => ?_) (fun h34 => ?_)
                    · skip
                      refine CW.seq ?_
                      refine CW.region ?_
                      refine RW.v rfl (V.as (d := Bo false) rfl rfl) ?_
                      refine RW.nil ?_
                      refine CW.le [(2, Bo false)] rfl (Le.c rfl <| Le.e) ?_
                      refine CW.ret ?_
                      exact Post.one (RV.b rfl (by first | rfl | (exfalso; have p1 := mkEApplied_pos a (szS_ok szApplied_ok a 1048576 hok (by omega) (by omega) (by simpa using h2)).1.1; have p2 := mkEEntry_pos (ents a) (Nat.le_trans (ents_len a) (szS_ok szApplied_ok a 1048576 hok (by omega) (by omega) (by simpa using h2)).1.1); have p3 := hdEEntry_all (ents a); simp_all [eqS_refl eqEntry_refl, eqS_refl eqApplied_refl]; done) | (exfalso; have p1 := mkEApplied_pos a (szS_ok szApplied_ok a 1048576 hok (by omega) (by omega) (by simpa using h2)).1.1; have p2 := mkEEntry_pos (ents a) (Nat.le_trans (ents_len a) (szS_ok szApplied_ok a 1048576 hok (by omega) (by omega) (by simpa using h2)).1.1); have p3 := hdEEntry_all (ents a); simp_all [eqS_refl eqEntry_refl, eqS_refl eqApplied_refl]; omega))) (AOs.r AOs.e)
                    · skip
                      refine CW.skip ?_
                      refine CW.le [(7, .w (sl 3 Entry.c ((mkL mkEEntry (ents a) 1).1)) (g6 0 0)), (10, I ((mkL mkEEntry (ents a) 1).2))] rfl (Le.c rfl <| Le.c rfl <| Le.e) ?_
                      refine CW.seq ?_
                      refine CW.region ?_
                      refine RW.v rfl (V.as (d := I 1) rfl rfl) ?_
                      refine RW.nil ?_
                      refine CW.le [(7, .w (sl 3 Entry.c ((mkL mkEEntry (ents a) 1).1)) (g6 0 0)), (10, I ((mkL mkEEntry (ents a) 1).2)), (11, I 1)] rfl (Le.c rfl <| Le.c rfl <| Le.c rfl <| Le.e) ?_
                      refine CW.seq ?_
                      refine CW.region ?_
                      refine RW.v rfl (V.mv (d := .al 7 none 3 (((mkL mkEEntry (ents a) 1).1).length) (g6 0 0) 0) rfl rfl) ?_
                      refine RW.v rfl (V.mv (d := I 1) rfl rfl) ?_
                      refine RW.callOwn rfl (laws_heldEntryS_fn ((mkL mkEEntry (ents a) 1).1) 1 (by decide)) rfl (.cons (.one (.r (.al rfl rfl nofun))) (.cons (.one (.r .r)) (.nil))) rfl fun g35 => ?_
                      refine RW.v rfl (V.as (d := I ((hdL hdEEntry ((mkL mkEEntry (ents a) 1).1) 1).getD (-1))) rfl rfl) ?_
                      refine RW.nil ?_
                      refine CW.le [(10, I ((mkL mkEEntry (ents a) 1).2)), (11, I ((hdL hdEEntry ((mkL mkEEntry (ents a) 1).1) 1).getD (-1)))] rfl (Le.c rfl <| Le.c rfl <| Le.e) ?_
                      refine CW.seq ?_
                      refine CW.seq ?_
                      refine CW.region ?_
                      refine RW.v rfl (V.mv (d := I ((hdL hdEEntry ((mkL mkEEntry (ents a) 1).1) 1).getD (-1))) rfl rfl) ?_
                      refine RW.v rfl (V.cmpInt rfl rfl rfl rfl) ?_
                      refine RW.nil ?_
                      refine CW.le [(10, I ((mkL mkEEntry (ents a) 1).2)), (11, I ((hdL hdEEntry ((mkL mkEEntry (ents a) 1).1) 1).getD (-1))), (92, Bo (decide (((hdL hdEEntry ((mkL mkEEntry (ents a) 1).1) 1).getD (-1)) < 0)))] rfl (Le.c rfl <| Le.c rfl <| Le.c rfl <| Le.e) ?_
                      refine CW.cond rfl (fun h36 => ?_) (fun h36 => ?_)
                      · skip
                        refine CW.seq ?_
                        refine CW.region ?_
                        refine RW.v rfl (V.as (d := Bo false) rfl rfl) ?_
                        refine RW.nil ?_
                        refine CW.le [(2, Bo false)] rfl (Le.c rfl <| Le.e) ?_
                        refine CW.ret ?_
                        exact Post.one (RV.b rfl (by first | rfl | (exfalso; have p1 := mkEApplied_pos a (szS_ok szApplied_ok a 1048576 hok (by omega) (by omega) (by simpa using h2)).1.1; have p2 := mkEEntry_pos (ents a) (Nat.le_trans (ents_len a) (szS_ok szApplied_ok a 1048576 hok (by omega) (by omega) (by simpa using h2)).1.1); have p3 := hdEEntry_all (ents a); simp_all [eqS_refl eqEntry_refl, eqS_refl eqApplied_refl]; done) | (exfalso; have p1 := mkEApplied_pos a (szS_ok szApplied_ok a 1048576 hok (by omega) (by omega) (by simpa using h2)).1.1; have p2 := mkEEntry_pos (ents a) (Nat.le_trans (ents_len a) (szS_ok szApplied_ok a 1048576 hok (by omega) (by omega) (by simpa using h2)).1.1); have p3 := hdEEntry_all (ents a); simp_all [eqS_refl eqEntry_refl, eqS_refl eqApplied_refl]; omega))) (AOs.r AOs.e)
                      · skip
                        refine CW.skip ?_
                        refine CW.le [(10, I ((mkL mkEEntry (ents a) 1).2)), (11, I ((hdL hdEEntry ((mkL mkEEntry (ents a) 1).1) 1).getD (-1)))] rfl (Le.c rfl <| Le.c rfl <| Le.e) ?_
                        refine CW.seq ?_
                        refine CW.seq ?_
                        refine CW.region ?_
                        refine RW.v rfl (V.mv (d := I ((hdL hdEEntry ((mkL mkEEntry (ents a) 1).1) 1).getD (-1))) rfl rfl) ?_
                        refine RW.v rfl (V.mv (d := I ((mkL mkEEntry (ents a) 1).2)) rfl rfl) ?_
                        refine RW.v rfl (V.cmpInt rfl rfl rfl rfl) ?_
                        refine RW.nil ?_
                        refine CW.le [(95, Bo (((hdL hdEEntry ((mkL mkEEntry (ents a) 1).1) 1).getD (-1)) != ((mkL mkEEntry (ents a) 1).2)))] rfl (Le.c rfl <| Le.e) ?_
                        refine CW.cond rfl (fun h37 => ?_) (fun h37 => ?_)
                        · skip
                          refine CW.seq ?_
                          refine CW.region ?_
                          refine RW.v rfl (V.as (d := Bo false) rfl rfl) ?_
                          refine RW.nil ?_
                          refine CW.le [(2, Bo false)] rfl (Le.c rfl <| Le.e) ?_
                          refine CW.ret ?_
                          exact Post.one (RV.b rfl (by first | rfl | (exfalso; have p1 := mkEApplied_pos a (szS_ok szApplied_ok a 1048576 hok (by omega) (by omega) (by simpa using h2)).1.1; have p2 := mkEEntry_pos (ents a) (Nat.le_trans (ents_len a) (szS_ok szApplied_ok a 1048576 hok (by omega) (by omega) (by simpa using h2)).1.1); have p3 := hdEEntry_all (ents a); simp_all [eqS_refl eqEntry_refl, eqS_refl eqApplied_refl]; done) | (exfalso; have p1 := mkEApplied_pos a (szS_ok szApplied_ok a 1048576 hok (by omega) (by omega) (by simpa using h2)).1.1; have p2 := mkEEntry_pos (ents a) (Nat.le_trans (ents_len a) (szS_ok szApplied_ok a 1048576 hok (by omega) (by omega) (by simpa using h2)).1.1); have p3 := hdEEntry_all (ents a); simp_all [eqS_refl eqEntry_refl, eqS_refl eqApplied_refl]; omega))) (AOs.r AOs.e)
                        · skip
                          refine CW.skip ?_
                          refine CW.le [] rfl (Le.e) ?_
                          refine CW.seq ?_
                          refine CW.region ?_
                          refine RW.v rfl (V.as (d := Bo true) rfl rfl) ?_
                          refine RW.nil ?_
                          refine CW.le [(2, Bo true)] rfl (Le.c rfl <| Le.e) ?_
                          refine CW.ret ?_
                          exact Post.one (RV.b rfl (by first | rfl | (exfalso; have p1 := mkEApplied_pos a (szS_ok szApplied_ok a 1048576 hok (by omega) (by omega) (by simpa using h2)).1.1; have p2 := mkEEntry_pos (ents a) (Nat.le_trans (ents_len a) (szS_ok szApplied_ok a 1048576 hok (by omega) (by omega) (by simpa using h2)).1.1); have p3 := hdEEntry_all (ents a); simp_all [eqS_refl eqEntry_refl, eqS_refl eqApplied_refl]; done) | (exfalso; have p1 := mkEApplied_pos a (szS_ok szApplied_ok a 1048576 hok (by omega) (by omega) (by simpa using h2)).1.1; have p2 := mkEEntry_pos (ents a) (Nat.le_trans (ents_len a) (szS_ok szApplied_ok a 1048576 hok (by omega) (by omega) (by simpa using h2)).1.1); have p3 := hdEEntry_all (ents a); simp_all [eqS_refl eqEntry_refl, eqS_refl eqApplied_refl]; omega))) (AOs.r AOs.e)
end Go.Proofs.Ytbiocicogminlaa.Y
