import Derived.Test.YtbiocicogminlaaWProposeF
namespace Go.Proofs.Ytbiocicogminlaa.Y
open Go Go.RowKit Go.Eng Go.Proofs
set_option maxRecDepth 10000
set_option maxHeartbeats 4000000 in
theorem laws_markMessageS_fn (a : List Message) (k : Int) (hk : k ≤ 9223372036854775807) : Eng.Fn E.P 36 [.one (.w (sl 12 Message.c a)), .one (.r (.v (.int .i64 k)))] (.one (.one (.w (.v (.int .i64 ((mkL mkEMessage a k).2)))))) [.one (.w (sl 12 Message.c ((mkL mkEMessage a k).1))), .one (.r (.v (.int .i64 k)))] := by
 refine Eng.Fn.intro (E := E) (rvs := [.tmp 4]) Try.func36 rfl rfl rfl (by simp [outSlots, moved, rvSlot, sl]) ?_
 intro B g bo
 refine CW.bound (x := .tmp 0) (n := a.length) (AsT.al rfl rfl nofun) (fun hl0 => ?_)
 refine CW.keep 102 [0,1] rfl ?_;(conv=>whnf);refine ⟨?_⟩
 have hl0b : a.length ≤ maxLen := hl0
 refine CW.k XK 102 1 [0,1] rfl ?_
 (conv=>whnf);refine ⟨rfl,?_⟩
 refine CW.seq ?_
 refine CW.k XK 102 1 [0,1,5] rfl ?_
 (conv=>whnf);refine ⟨rfl,?_⟩
 refine CW.block ?_
 refine CW.loopI 102 (fun (zz : Nat × Int × List Message) => match zz with | (i, l, b) => [(0, .w (sl 12 Message.c b) (g 0 0)), (1, I l), (5, I (i : Int))]) (fun (zz : Nat × Int × List Message) => match zz with | (i, l, b) => i ≤ b.length ∧ l ≤ 9223372036854775807 ∧ b.length = a.length ∧ b.drop i = a.drop i ∧ (b.take i ++ (mkL mkEMessage (a.drop i) l).1, (mkL mkEMessage (a.drop i) l).2) = mkL mkEMessage a k) (fun (zz : Nat × Int × List Message) => match zz with | (i, l, b) => a.length - i) (0, _, _) rfl (Le.c rfl <| Le.c rfl <| Le.c rfl <| Le.e) ⟨by omega, hk, rfl, rfl, by simp⟩ ?_
 rintro ⟨i, l, b⟩ ⟨hb, hlk, hlen, hdr, hr⟩
 refine CW.seq ?_
 refine CW.k XK 102 1 [0,1,5,9] rfl ?_
 (conv=>whnf);refine ⟨rfl,?_⟩
 refine CW.cond rfl (fun h1 => ?_) (fun h1 => ?_)
 ·skip
  have hii : i < b.length := by have := h1; simp at this; first | exact this | omega | (simp; done) | (simp; omega)
  obtain ⟨ei, hei⟩ : ∃ e, b[i]? = some e := ⟨_, List.getElem?_eq_getElem hii⟩
  have hdi := drop_get hei
  refine CW.skip ?_
  refine CW.keep 102 [0,1,5] rfl ?_;(conv=>whnf);refine ⟨?_⟩
  refine CW.seq ?_
  refine CW.block ?_
  refine CW.seq ?_
  refine CW.region ?_
  refine RW.k XK 102 3 rfl ?_
  (conv=>whnf);refine ⟨rfl,?_⟩
  refine RW.v rfl (V.indexW rfl rfl rfl rfl rfl rfl rfl (by first | omega | (simp; omega))) ?_
  refine RW.k XK 102 1 rfl ?_
  (conv=>whnf);refine ⟨rfl,?_⟩
  refine RW.storeF (m := i) (off := 0) (v := ei) (v' := (⟨l, ei.from_, ei.to, ei.term_, ei.index, ei.logTerm, ei.commit, ei.ok, ei.entries, ei.conf, ei.data, ei.last⟩ : Message)) (u := .v (.int .i64 l)) (c := Message.c) rfl rfl rfl rfl rfl rfl rfl (.inl rfl) Message.len hei (by decide) rfl rfl ?_
  refine RW.nil ?_
  refine CW.keep 102 [0,1,5] rfl ?_;(conv=>whnf);refine ⟨?_⟩
  refine CW.k XK 102 1 [0,1,5] rfl ?_
  (conv=>whnf);refine ⟨rfl,?_⟩
  refine CW.seq ?_
  refine CW.region ?_
  refine RW.k XK 102 3 rfl ?_
  (conv=>whnf);refine ⟨rfl,?_⟩
  refine RW.v rfl (V.indexW rfl rfl rfl rfl rfl rfl rfl (by first | omega | (simp; omega))) ?_
  refine RW.k XK 102 1 rfl ?_
  (conv=>whnf);refine ⟨rfl,?_⟩
  refine RW.storeF (m := i) (off := 1) (v := (⟨l, ei.from_, ei.to, ei.term_, ei.index, ei.logTerm, ei.commit, ei.ok, ei.entries, ei.conf, ei.data, ei.last⟩ : Message)) (v' := (⟨l, (IntKind.i64.wrap (l + 1)), ei.to, ei.term_, ei.index, ei.logTerm, ei.commit, ei.ok, ei.entries, ei.conf, ei.data, ei.last⟩ : Message)) (u := .v (.int .i64 (IntKind.i64.wrap (l + 1)))) (c := Message.c) rfl rfl rfl rfl rfl rfl rfl (.inl rfl) Message.len (List.getElem?_set_self (by first | omega | (simp; omega))) (by decide) rfl rfl ?_
  refine RW.nil ?_
  refine CW.keep 102 [0,1,5] rfl ?_;(conv=>whnf);refine ⟨?_⟩
  refine CW.k XK 102 1 [0,1,5] rfl ?_
  (conv=>whnf);refine ⟨rfl,?_⟩
  refine CW.seq ?_
  refine CW.region ?_
  refine RW.k XK 102 3 rfl ?_
  (conv=>whnf);refine ⟨rfl,?_⟩
  refine RW.v rfl (V.indexW rfl rfl rfl rfl rfl rfl rfl (by first | omega | (simp; omega))) ?_
  refine RW.k XK 102 1 rfl ?_
  (conv=>whnf);refine ⟨rfl,?_⟩
  refine RW.storeF (m := i) (off := 2) (v := (⟨l, (IntKind.i64.wrap (l + 1)), ei.to, ei.term_, ei.index, ei.logTerm, ei.commit, ei.ok, ei.entries, ei.conf, ei.data, ei.last⟩ : Message)) (v' := (⟨l, (IntKind.i64.wrap (l + 1)), (IntKind.i64.wrap ((IntKind.i64.wrap (l + 1)) + 1)), ei.term_, ei.index, ei.logTerm, ei.commit, ei.ok, ei.entries, ei.conf, ei.data, ei.last⟩ : Message)) (u := .v (.int .i64 (IntKind.i64.wrap ((IntKind.i64.wrap (l + 1)) + 1)))) (c := Message.c) rfl rfl rfl rfl rfl rfl rfl (.inl rfl) Message.len (List.getElem?_set_self (by first | omega | (simp; omega))) (by decide) rfl rfl ?_
  refine RW.nil ?_
  refine CW.keep 102 [0,1,5] rfl ?_;(conv=>whnf);refine ⟨?_⟩
  refine CW.k XK 102 1 [0,1,5] rfl ?_
  (conv=>whnf);refine ⟨rfl,?_⟩
  refine CW.seq ?_
  refine CW.region ?_
  refine RW.k XK 102 3 rfl ?_
  (conv=>whnf);refine ⟨rfl,?_⟩
  refine RW.v rfl (V.indexW rfl rfl rfl rfl rfl rfl rfl (by first | omega | (simp; omega))) ?_
  refine RW.k XK 102 1 rfl ?_
  (conv=>whnf);refine ⟨rfl,?_⟩
  refine RW.storeF (m := i) (off := 3) (v := (⟨l, (IntKind.i64.wrap (l + 1)), (IntKind.i64.wrap ((IntKind.i64.wrap (l + 1)) + 1)), ei.term_, ei.index, ei.logTerm, ei.commit, ei.ok, ei.entries, ei.conf, ei.data, ei.last⟩ : Message)) (v' := (⟨l, (IntKind.i64.wrap (l + 1)), (IntKind.i64.wrap ((IntKind.i64.wrap (l + 1)) + 1)), (IntKind.i64.wrap ((IntKind.i64.wrap ((IntKind.i64.wrap (l + 1)) + 1)) + 1)), ei.index, ei.logTerm, ei.commit, ei.ok, ei.entries, ei.conf, ei.data, ei.last⟩ : Message)) (u := .v (.int .i64 (IntKind.i64.wrap ((IntKind.i64.wrap ((IntKind.i64.wrap (l + 1)) + 1)) + 1)))) (c := Message.c) rfl rfl rfl rfl rfl rfl rfl (.inl rfl) Message.len (List.getElem?_set_self (by first | omega | (simp; omega))) (by decide) rfl rfl ?_
  refine RW.nil ?_
  refine CW.keep 102 [0,1,5] rfl ?_;(conv=>whnf);refine ⟨?_⟩
  refine CW.k XK 102 1 [0,1,5] rfl ?_
  (conv=>whnf);refine ⟨rfl,?_⟩
  refine CW.seq ?_
  refine CW.region ?_
  refine RW.k XK 102 3 rfl ?_
  (conv=>whnf);refine ⟨rfl,?_⟩
  refine RW.v rfl (V.indexW rfl rfl rfl rfl rfl rfl rfl (by first | omega | (simp; omega))) ?_
  refine RW.k XK 102 1 rfl ?_
  (conv=>whnf);refine ⟨rfl,?_⟩
  refine RW.storeF (m := i) (off := 4) (v := (⟨l, (IntKind.i64.wrap (l + 1)), (IntKind.i64.wrap ((IntKind.i64.wrap (l + 1)) + 1)), (IntKind.i64.wrap ((IntKind.i64.wrap ((IntKind.i64.wrap (l + 1)) + 1)) + 1)), ei.index, ei.logTerm, ei.commit, ei.ok, ei.entries, ei.conf, ei.data, ei.last⟩ : Message)) (v' := (⟨l, (IntKind.i64.wrap (l + 1)), (IntKind.i64.wrap ((IntKind.i64.wrap (l + 1)) + 1)), (IntKind.i64.wrap ((IntKind.i64.wrap ((IntKind.i64.wrap (l + 1)) + 1)) + 1)), (IntKind.i64.wrap ((IntKind.i64.wrap ((IntKind.i64.wrap ((IntKind.i64.wrap (l + 1)) + 1)) + 1)) + 1)), ei.logTerm, ei.commit, ei.ok, ei.entries, ei.conf, ei.data, ei.last⟩ : Message)) (u := .v (.int .i64 (IntKind.i64.wrap ((IntKind.i64.wrap ((IntKind.i64.wrap ((IntKind.i64.wrap (l + 1)) + 1)) + 1)) + 1)))) (c := Message.c) rfl rfl rfl rfl rfl rfl rfl (.inl rfl) Message.len (List.getElem?_set_self (by first | omega | (simp; omega))) (by decide) rfl rfl ?_
  refine RW.nil ?_
  refine CW.keep 102 [0,1,5] rfl ?_;(conv=>whnf);refine ⟨?_⟩
  refine CW.k XK 102 1 [0,1,5] rfl ?_
  (conv=>whnf);refine ⟨rfl,?_⟩
  refine CW.seq ?_
  refine CW.region ?_
  refine RW.k XK 102 3 rfl ?_
  (conv=>whnf);refine ⟨rfl,?_⟩
  refine RW.v rfl (V.indexW rfl rfl rfl rfl rfl rfl rfl (by first | omega | (simp; omega))) ?_
  refine RW.k XK 102 1 rfl ?_
  (conv=>whnf);refine ⟨rfl,?_⟩
  refine RW.storeF (m := i) (off := 5) (v := (⟨l, (IntKind.i64.wrap (l + 1)), (IntKind.i64.wrap ((IntKind.i64.wrap (l + 1)) + 1)), (IntKind.i64.wrap ((IntKind.i64.wrap ((IntKind.i64.wrap (l + 1)) + 1)) + 1)), (IntKind.i64.wrap ((IntKind.i64.wrap ((IntKind.i64.wrap ((IntKind.i64.wrap (l + 1)) + 1)) + 1)) + 1)), ei.logTerm, ei.commit, ei.ok, ei.entries, ei.conf, ei.data, ei.last⟩ : Message)) (v' := (⟨l, (IntKind.i64.wrap (l + 1)), (IntKind.i64.wrap ((IntKind.i64.wrap (l + 1)) + 1)), (IntKind.i64.wrap ((IntKind.i64.wrap ((IntKind.i64.wrap (l + 1)) + 1)) + 1)), (IntKind.i64.wrap ((IntKind.i64.wrap ((IntKind.i64.wrap ((IntKind.i64.wrap (l + 1)) + 1)) + 1)) + 1)), (IntKind.i64.wrap ((IntKind.i64.wrap ((IntKind.i64.wrap ((IntKind.i64.wrap ((IntKind.i64.wrap (l + 1)) + 1)) + 1)) + 1)) + 1)), ei.commit, ei.ok, ei.entries, ei.conf, ei.data, ei.last⟩ : Message)) (u := .v (.int .i64 (IntKind.i64.wrap ((IntKind.i64.wrap ((IntKind.i64.wrap ((IntKind.i64.wrap ((IntKind.i64.wrap (l + 1)) + 1)) + 1)) + 1)) + 1)))) (c := Message.c) rfl rfl rfl rfl rfl rfl rfl (.inl rfl) Message.len (List.getElem?_set_self (by first | omega | (simp; omega))) (by decide) rfl rfl ?_
  refine RW.nil ?_
  refine CW.keep 102 [0,1,5] rfl ?_;(conv=>whnf);refine ⟨?_⟩
  refine CW.k XK 102 1 [0,1,5] rfl ?_
  (conv=>whnf);refine ⟨rfl,?_⟩
  refine CW.seq ?_
  refine CW.region ?_
  refine RW.k XK 102 3 rfl ?_
  (conv=>whnf);refine ⟨rfl,?_⟩
  refine RW.v rfl (V.indexW rfl rfl rfl rfl rfl rfl rfl (by first | omega | (simp; omega))) ?_
  refine RW.k XK 102 1 rfl ?_
  (conv=>whnf);refine ⟨rfl,?_⟩
  refine RW.storeF (m := i) (off := 6) (v := (⟨l, (IntKind.i64.wrap (l + 1)), (IntKind.i64.wrap ((IntKind.i64.wrap (l + 1)) + 1)), (IntKind.i64.wrap ((IntKind.i64.wrap ((IntKind.i64.wrap (l + 1)) + 1)) + 1)), (IntKind.i64.wrap ((IntKind.i64.wrap ((IntKind.i64.wrap ((IntKind.i64.wrap (l + 1)) + 1)) + 1)) + 1)), (IntKind.i64.wrap ((IntKind.i64.wrap ((IntKind.i64.wrap ((IntKind.i64.wrap ((IntKind.i64.wrap (l + 1)) + 1)) + 1)) + 1)) + 1)), ei.commit, ei.ok, ei.entries, ei.conf, ei.data, ei.last⟩ : Message)) (v' := (⟨l, (IntKind.i64.wrap (l + 1)), (IntKind.i64.wrap ((IntKind.i64.wrap (l + 1)) + 1)), (IntKind.i64.wrap ((IntKind.i64.wrap ((IntKind.i64.wrap (l + 1)) + 1)) + 1)), (IntKind.i64.wrap ((IntKind.i64.wrap ((IntKind.i64.wrap ((IntKind.i64.wrap (l + 1)) + 1)) + 1)) + 1)), (IntKind.i64.wrap ((IntKind.i64.wrap ((IntKind.i64.wrap ((IntKind.i64.wrap ((IntKind.i64.wrap (l + 1)) + 1)) + 1)) + 1)) + 1)), (IntKind.i64.wrap ((IntKind.i64.wrap ((IntKind.i64.wrap ((IntKind.i64.wrap ((IntKind.i64.wrap ((IntKind.i64.wrap (l + 1)) + 1)) + 1)) + 1)) + 1)) + 1)), ei.ok, ei.entries, ei.conf, ei.data, ei.last⟩ : Message)) (u := .v (.int .i64 (IntKind.i64.wrap ((IntKind.i64.wrap ((IntKind.i64.wrap ((IntKind.i64.wrap ((IntKind.i64.wrap ((IntKind.i64.wrap (l + 1)) + 1)) + 1)) + 1)) + 1)) + 1)))) (c := Message.c) rfl rfl rfl rfl rfl rfl rfl (.inl rfl) Message.len (List.getElem?_set_self (by first | omega | (simp; omega))) (by decide) rfl rfl ?_
  refine RW.nil ?_
  refine CW.keep 102 [0,1,5] rfl ?_;(conv=>whnf);refine ⟨?_⟩
  refine CW.k XK 102 1 [0,1,5] rfl ?_
  (conv=>whnf);refine ⟨rfl,?_⟩
  refine CW.seq ?_
  refine CW.region ?_
  refine RW.k XK 102 5 rfl ?_
  (conv=>whnf);refine ⟨rfl,?_⟩
  refine RW.v rfl (V.indexW rfl rfl rfl rfl rfl rfl rfl (by first | omega | (simp; omega))) ?_
  refine RW.k XK 102 1 rfl ?_
  (conv=>whnf);refine ⟨rfl,?_⟩
  refine RW.storeF (m := i) (off := 7) (v := (⟨l, (IntKind.i64.wrap (l + 1)), (IntKind.i64.wrap ((IntKind.i64.wrap (l + 1)) + 1)), (IntKind.i64.wrap ((IntKind.i64.wrap ((IntKind.i64.wrap (l + 1)) + 1)) + 1)), (IntKind.i64.wrap ((IntKind.i64.wrap ((IntKind.i64.wrap ((IntKind.i64.wrap (l + 1)) + 1)) + 1)) + 1)), (IntKind.i64.wrap ((IntKind.i64.wrap ((IntKind.i64.wrap ((IntKind.i64.wrap ((IntKind.i64.wrap (l + 1)) + 1)) + 1)) + 1)) + 1)), (IntKind.i64.wrap ((IntKind.i64.wrap ((IntKind.i64.wrap ((IntKind.i64.wrap ((IntKind.i64.wrap ((IntKind.i64.wrap (l + 1)) + 1)) + 1)) + 1)) + 1)) + 1)), ei.ok, ei.entries, ei.conf, ei.data, ei.last⟩ : Message)) (v' := (⟨l, (IntKind.i64.wrap (l + 1)), (IntKind.i64.wrap ((IntKind.i64.wrap (l + 1)) + 1)), (IntKind.i64.wrap ((IntKind.i64.wrap ((IntKind.i64.wrap (l + 1)) + 1)) + 1)), (IntKind.i64.wrap ((IntKind.i64.wrap ((IntKind.i64.wrap ((IntKind.i64.wrap (l + 1)) + 1)) + 1)) + 1)), (IntKind.i64.wrap ((IntKind.i64.wrap ((IntKind.i64.wrap ((IntKind.i64.wrap ((IntKind.i64.wrap (l + 1)) + 1)) + 1)) + 1)) + 1)), (IntKind.i64.wrap ((IntKind.i64.wrap ((IntKind.i64.wrap ((IntKind.i64.wrap ((IntKind.i64.wrap ((IntKind.i64.wrap (l + 1)) + 1)) + 1)) + 1)) + 1)) + 1)), ((Int.tmod (IntKind.i64.wrap ((IntKind.i64.wrap ((IntKind.i64.wrap ((IntKind.i64.wrap ((IntKind.i64.wrap ((IntKind.i64.wrap ((IntKind.i64.wrap (l + 1)) + 1)) + 1)) + 1)) + 1)) + 1)) + 1)) 3) == 0), ei.entries, ei.conf, ei.data, ei.last⟩ : Message)) (u := .v (.bool ((Int.tmod (IntKind.i64.wrap ((IntKind.i64.wrap ((IntKind.i64.wrap ((IntKind.i64.wrap ((IntKind.i64.wrap ((IntKind.i64.wrap ((IntKind.i64.wrap (l + 1)) + 1)) + 1)) + 1)) + 1)) + 1)) + 1)) 3) == 0))) (c := Message.c) rfl rfl rfl rfl rfl rfl rfl (.inl rfl) Message.len (List.getElem?_set_self (by first | omega | (simp; omega))) (by decide) rfl rfl ?_
  refine RW.nil ?_
  refine CW.keep 102 [0,1,5] rfl ?_;(conv=>whnf);refine ⟨?_⟩
  refine CW.k XK 102 1 [0,1,5] rfl ?_
  (conv=>whnf);refine ⟨rfl,?_⟩
  refine CW.seq ?_
  refine CW.region ?_
  refine RW.k XK 102 2 rfl ?_
  (conv=>whnf);refine ⟨rfl,?_⟩
  refine RW.v rfl (V.indexW rfl rfl rfl rfl rfl rfl rfl (by first | omega | (simp; omega))) ?_
  refine RW.k XK 102 1 rfl ?_
  (conv=>whnf);refine ⟨rfl,?_⟩
  refine RW.loadTake rfl rfl rfl (by decide) (Nat.le_of_ble_eq_true rfl) rfl rfl rfl rfl ((flatMap_get Message.len ((((((((b.set i (⟨l, ei.from_, ei.to, ei.term_, ei.index, ei.logTerm, ei.commit, ei.ok, ei.entries, ei.conf, ei.data, ei.last⟩ : Message)).set i (⟨l, (IntKind.i64.wrap (l + 1)), ei.to, ei.term_, ei.index, ei.logTerm, ei.commit, ei.ok, ei.entries, ei.conf, ei.data, ei.last⟩ : Message)).set i (⟨l, (IntKind.i64.wrap (l + 1)), (IntKind.i64.wrap ((IntKind.i64.wrap (l + 1)) + 1)), ei.term_, ei.index, ei.logTerm, ei.commit, ei.ok, ei.entries, ei.conf, ei.data, ei.last⟩ : Message)).set i (⟨l, (IntKind.i64.wrap (l + 1)), (IntKind.i64.wrap ((IntKind.i64.wrap (l + 1)) + 1)), (IntKind.i64.wrap ((IntKind.i64.wrap ((IntKind.i64.wrap (l + 1)) + 1)) + 1)), ei.index, ei.logTerm, ei.commit, ei.ok, ei.entries, ei.conf, ei.data, ei.last⟩ : Message)).set i (⟨l, (IntKind.i64.wrap (l + 1)), (IntKind.i64.wrap ((IntKind.i64.wrap (l + 1)) + 1)), (IntKind.i64.wrap ((IntKind.i64.wrap ((IntKind.i64.wrap (l + 1)) + 1)) + 1)), (IntKind.i64.wrap ((IntKind.i64.wrap ((IntKind.i64.wrap ((IntKind.i64.wrap (l + 1)) + 1)) + 1)) + 1)), ei.logTerm, ei.commit, ei.ok, ei.entries, ei.conf, ei.data, ei.last⟩ : Message)).set i (⟨l, (IntKind.i64.wrap (l + 1)), (IntKind.i64.wrap ((IntKind.i64.wrap (l + 1)) + 1)), (IntKind.i64.wrap ((IntKind.i64.wrap ((IntKind.i64.wrap (l + 1)) + 1)) + 1)), (IntKind.i64.wrap ((IntKind.i64.wrap ((IntKind.i64.wrap ((IntKind.i64.wrap (l + 1)) + 1)) + 1)) + 1)), (IntKind.i64.wrap ((IntKind.i64.wrap ((IntKind.i64.wrap ((IntKind.i64.wrap ((IntKind.i64.wrap (l + 1)) + 1)) + 1)) + 1)) + 1)), ei.commit, ei.ok, ei.entries, ei.conf, ei.data, ei.last⟩ : Message)).set i (⟨l, (IntKind.i64.wrap (l + 1)), (IntKind.i64.wrap ((IntKind.i64.wrap (l + 1)) + 1)), (IntKind.i64.wrap ((IntKind.i64.wrap ((IntKind.i64.wrap (l + 1)) + 1)) + 1)), (IntKind.i64.wrap ((IntKind.i64.wrap ((IntKind.i64.wrap ((IntKind.i64.wrap (l + 1)) + 1)) + 1)) + 1)), (IntKind.i64.wrap ((IntKind.i64.wrap ((IntKind.i64.wrap ((IntKind.i64.wrap ((IntKind.i64.wrap (l + 1)) + 1)) + 1)) + 1)) + 1)), (IntKind.i64.wrap ((IntKind.i64.wrap ((IntKind.i64.wrap ((IntKind.i64.wrap ((IntKind.i64.wrap ((IntKind.i64.wrap (l + 1)) + 1)) + 1)) + 1)) + 1)) + 1)), ei.ok, ei.entries, ei.conf, ei.data, ei.last⟩ : Message)).set i (⟨l, (IntKind.i64.wrap (l + 1)), (IntKind.i64.wrap ((IntKind.i64.wrap (l + 1)) + 1)), (IntKind.i64.wrap ((IntKind.i64.wrap ((IntKind.i64.wrap (l + 1)) + 1)) + 1)), (IntKind.i64.wrap ((IntKind.i64.wrap ((IntKind.i64.wrap ((IntKind.i64.wrap (l + 1)) + 1)) + 1)) + 1)), (IntKind.i64.wrap ((IntKind.i64.wrap ((IntKind.i64.wrap ((IntKind.i64.wrap ((IntKind.i64.wrap (l + 1)) + 1)) + 1)) + 1)) + 1)), (IntKind.i64.wrap ((IntKind.i64.wrap ((IntKind.i64.wrap ((IntKind.i64.wrap ((IntKind.i64.wrap ((IntKind.i64.wrap (l + 1)) + 1)) + 1)) + 1)) + 1)) + 1)), ((Int.tmod (IntKind.i64.wrap ((IntKind.i64.wrap ((IntKind.i64.wrap ((IntKind.i64.wrap ((IntKind.i64.wrap ((IntKind.i64.wrap ((IntKind.i64.wrap (l + 1)) + 1)) + 1)) + 1)) + 1)) + 1)) + 1)) 3) == 0), ei.entries, ei.conf, ei.data, ei.last⟩ : Message)) i 8 (⟨l, (IntKind.i64.wrap (l + 1)), (IntKind.i64.wrap ((IntKind.i64.wrap (l + 1)) + 1)), (IntKind.i64.wrap ((IntKind.i64.wrap ((IntKind.i64.wrap (l + 1)) + 1)) + 1)), (IntKind.i64.wrap ((IntKind.i64.wrap ((IntKind.i64.wrap ((IntKind.i64.wrap (l + 1)) + 1)) + 1)) + 1)), (IntKind.i64.wrap ((IntKind.i64.wrap ((IntKind.i64.wrap ((IntKind.i64.wrap ((IntKind.i64.wrap (l + 1)) + 1)) + 1)) + 1)) + 1)), (IntKind.i64.wrap ((IntKind.i64.wrap ((IntKind.i64.wrap ((IntKind.i64.wrap ((IntKind.i64.wrap ((IntKind.i64.wrap (l + 1)) + 1)) + 1)) + 1)) + 1)) + 1)), ((Int.tmod (IntKind.i64.wrap ((IntKind.i64.wrap ((IntKind.i64.wrap ((IntKind.i64.wrap ((IntKind.i64.wrap ((IntKind.i64.wrap ((IntKind.i64.wrap (l + 1)) + 1)) + 1)) + 1)) + 1)) + 1)) + 1)) 3) == 0), ei.entries, ei.conf, ei.data, ei.last⟩ : Message) (List.getElem?_set_self (by first | omega | (simp; omega))) (by decide)).trans rfl) fun X2 => ?_
  refine RW.k XK 102 1 rfl ?_
  (conv=>whnf);refine ⟨rfl,?_⟩
  refine RW.callW (k := 74) (laws_markEntryS_fn ei.entries (IntKind.i64.wrap ((IntKind.i64.wrap ((IntKind.i64.wrap ((IntKind.i64.wrap ((IntKind.i64.wrap ((IntKind.i64.wrap ((IntKind.i64.wrap ((IntKind.i64.wrap (l + 1)) + 1)) + 1)) + 1)) + 1)) + 1)) + 1)) + 1)) (by repeat (first | exact hlk | exact wrap_le _ | apply mkL_le | apply mkI_le | apply mkS_le | apply mkB_le | apply mkEEntry_le | apply mkEPeer_le | apply mkEMessage_le))) rfl rfl (Nat.le_of_ble_eq_true rfl) (by decide) (.here (AsW.own) (.cons (.one (.r .r)) (.nil))) rfl fun g3 q4 => ?_
  refine RW.giveE (c := Message.c) (L := ((((((((b.set i (⟨l, ei.from_, ei.to, ei.term_, ei.index, ei.logTerm, ei.commit, ei.ok, ei.entries, ei.conf, ei.data, ei.last⟩ : Message)).set i (⟨l, (IntKind.i64.wrap (l + 1)), ei.to, ei.term_, ei.index, ei.logTerm, ei.commit, ei.ok, ei.entries, ei.conf, ei.data, ei.last⟩ : Message)).set i (⟨l, (IntKind.i64.wrap (l + 1)), (IntKind.i64.wrap ((IntKind.i64.wrap (l + 1)) + 1)), ei.term_, ei.index, ei.logTerm, ei.commit, ei.ok, ei.entries, ei.conf, ei.data, ei.last⟩ : Message)).set i (⟨l, (IntKind.i64.wrap (l + 1)), (IntKind.i64.wrap ((IntKind.i64.wrap (l + 1)) + 1)), (IntKind.i64.wrap ((IntKind.i64.wrap ((IntKind.i64.wrap (l + 1)) + 1)) + 1)), ei.index, ei.logTerm, ei.commit, ei.ok, ei.entries, ei.conf, ei.data, ei.last⟩ : Message)).set i (⟨l, (IntKind.i64.wrap (l + 1)), (IntKind.i64.wrap ((IntKind.i64.wrap (l + 1)) + 1)), (IntKind.i64.wrap ((IntKind.i64.wrap ((IntKind.i64.wrap (l + 1)) + 1)) + 1)), (IntKind.i64.wrap ((IntKind.i64.wrap ((IntKind.i64.wrap ((IntKind.i64.wrap (l + 1)) + 1)) + 1)) + 1)), ei.logTerm, ei.commit, ei.ok, ei.entries, ei.conf, ei.data, ei.last⟩ : Message)).set i (⟨l, (IntKind.i64.wrap (l + 1)), (IntKind.i64.wrap ((IntKind.i64.wrap (l + 1)) + 1)), (IntKind.i64.wrap ((IntKind.i64.wrap ((IntKind.i64.wrap (l + 1)) + 1)) + 1)), (IntKind.i64.wrap ((IntKind.i64.wrap ((IntKind.i64.wrap ((IntKind.i64.wrap (l + 1)) + 1)) + 1)) + 1)), (IntKind.i64.wrap ((IntKind.i64.wrap ((IntKind.i64.wrap ((IntKind.i64.wrap ((IntKind.i64.wrap (l + 1)) + 1)) + 1)) + 1)) + 1)), ei.commit, ei.ok, ei.entries, ei.conf, ei.data, ei.last⟩ : Message)).set i (⟨l, (IntKind.i64.wrap (l + 1)), (IntKind.i64.wrap ((IntKind.i64.wrap (l + 1)) + 1)), (IntKind.i64.wrap ((IntKind.i64.wrap ((IntKind.i64.wrap (l + 1)) + 1)) + 1)), (IntKind.i64.wrap ((IntKind.i64.wrap ((IntKind.i64.wrap ((IntKind.i64.wrap (l + 1)) + 1)) + 1)) + 1)), (IntKind.i64.wrap ((IntKind.i64.wrap ((IntKind.i64.wrap ((IntKind.i64.wrap ((IntKind.i64.wrap (l + 1)) + 1)) + 1)) + 1)) + 1)), (IntKind.i64.wrap ((IntKind.i64.wrap ((IntKind.i64.wrap ((IntKind.i64.wrap ((IntKind.i64.wrap ((IntKind.i64.wrap (l + 1)) + 1)) + 1)) + 1)) + 1)) + 1)), ei.ok, ei.entries, ei.conf, ei.data, ei.last⟩ : Message)).set i (⟨l, (IntKind.i64.wrap (l + 1)), (IntKind.i64.wrap ((IntKind.i64.wrap (l + 1)) + 1)), (IntKind.i64.wrap ((IntKind.i64.wrap ((IntKind.i64.wrap (l + 1)) + 1)) + 1)), (IntKind.i64.wrap ((IntKind.i64.wrap ((IntKind.i64.wrap ((IntKind.i64.wrap (l + 1)) + 1)) + 1)) + 1)), (IntKind.i64.wrap ((IntKind.i64.wrap ((IntKind.i64.wrap ((IntKind.i64.wrap ((IntKind.i64.wrap (l + 1)) + 1)) + 1)) + 1)) + 1)), (IntKind.i64.wrap ((IntKind.i64.wrap ((IntKind.i64.wrap ((IntKind.i64.wrap ((IntKind.i64.wrap ((IntKind.i64.wrap (l + 1)) + 1)) + 1)) + 1)) + 1)) + 1)), ((Int.tmod (IntKind.i64.wrap ((IntKind.i64.wrap ((IntKind.i64.wrap ((IntKind.i64.wrap ((IntKind.i64.wrap ((IntKind.i64.wrap ((IntKind.i64.wrap (l + 1)) + 1)) + 1)) + 1)) + 1)) + 1)) + 1)) 3) == 0), ei.entries, ei.conf, ei.data, ei.last⟩ : Message))) (m := i) (off := 8) (v := (⟨l, (IntKind.i64.wrap (l + 1)), (IntKind.i64.wrap ((IntKind.i64.wrap (l + 1)) + 1)), (IntKind.i64.wrap ((IntKind.i64.wrap ((IntKind.i64.wrap (l + 1)) + 1)) + 1)), (IntKind.i64.wrap ((IntKind.i64.wrap ((IntKind.i64.wrap ((IntKind.i64.wrap (l + 1)) + 1)) + 1)) + 1)), (IntKind.i64.wrap ((IntKind.i64.wrap ((IntKind.i64.wrap ((IntKind.i64.wrap ((IntKind.i64.wrap (l + 1)) + 1)) + 1)) + 1)) + 1)), (IntKind.i64.wrap ((IntKind.i64.wrap ((IntKind.i64.wrap ((IntKind.i64.wrap ((IntKind.i64.wrap ((IntKind.i64.wrap (l + 1)) + 1)) + 1)) + 1)) + 1)) + 1)), ((Int.tmod (IntKind.i64.wrap ((IntKind.i64.wrap ((IntKind.i64.wrap ((IntKind.i64.wrap ((IntKind.i64.wrap ((IntKind.i64.wrap ((IntKind.i64.wrap (l + 1)) + 1)) + 1)) + 1)) + 1)) + 1)) + 1)) 3) == 0), ei.entries, ei.conf, ei.data, ei.last⟩ : Message)) (v' := (⟨l, (IntKind.i64.wrap (l + 1)), (IntKind.i64.wrap ((IntKind.i64.wrap (l + 1)) + 1)), (IntKind.i64.wrap ((IntKind.i64.wrap ((IntKind.i64.wrap (l + 1)) + 1)) + 1)), (IntKind.i64.wrap ((IntKind.i64.wrap ((IntKind.i64.wrap ((IntKind.i64.wrap (l + 1)) + 1)) + 1)) + 1)), (IntKind.i64.wrap ((IntKind.i64.wrap ((IntKind.i64.wrap ((IntKind.i64.wrap ((IntKind.i64.wrap (l + 1)) + 1)) + 1)) + 1)) + 1)), (IntKind.i64.wrap ((IntKind.i64.wrap ((IntKind.i64.wrap ((IntKind.i64.wrap ((IntKind.i64.wrap ((IntKind.i64.wrap (l + 1)) + 1)) + 1)) + 1)) + 1)) + 1)), ((Int.tmod (IntKind.i64.wrap ((IntKind.i64.wrap ((IntKind.i64.wrap ((IntKind.i64.wrap ((IntKind.i64.wrap ((IntKind.i64.wrap ((IntKind.i64.wrap (l + 1)) + 1)) + 1)) + 1)) + 1)) + 1)) + 1)) 3) == 0), (mkL mkEEntry ei.entries (IntKind.i64.wrap ((IntKind.i64.wrap ((IntKind.i64.wrap ((IntKind.i64.wrap ((IntKind.i64.wrap ((IntKind.i64.wrap ((IntKind.i64.wrap ((IntKind.i64.wrap (l + 1)) + 1)) + 1)) + 1)) + 1)) + 1)) + 1)) + 1))).1, ei.conf, ei.data, ei.last⟩ : Message)) 0 74 (by decide) rfl rfl (List.getElem?_set_self (by first | omega | (simp; omega))) Message.len (by decide) rfl ?_
  refine RW.k XK 102 1 rfl ?_
  (conv=>whnf);refine ⟨rfl,?_⟩
  refine RW.nil ?_
  refine CW.keep 102 [0,1,5] rfl ?_;(conv=>whnf);refine ⟨?_⟩
  refine CW.seq ?_
  refine CW.region ?_
  refine RW.k XK 102 2 rfl ?_
  (conv=>whnf);refine ⟨rfl,?_⟩
  refine RW.v rfl (V.indexW rfl rfl rfl rfl rfl rfl rfl (by first | omega | (simp; omega))) ?_
  refine RW.k XK 102 1 rfl ?_
  (conv=>whnf);refine ⟨rfl,?_⟩
  refine RW.loadTake rfl rfl rfl (by decide) (Nat.le_of_ble_eq_true rfl) rfl rfl rfl rfl ((flatMap_get Message.len (((((((((b.set i (⟨l, ei.from_, ei.to, ei.term_, ei.index, ei.logTerm, ei.commit, ei.ok, ei.entries, ei.conf, ei.data, ei.last⟩ : Message)).set i (⟨l, (IntKind.i64.wrap (l + 1)), ei.to, ei.term_, ei.index, ei.logTerm, ei.commit, ei.ok, ei.entries, ei.conf, ei.data, ei.last⟩ : Message)).set i (⟨l, (IntKind.i64.wrap (l + 1)), (IntKind.i64.wrap ((IntKind.i64.wrap (l + 1)) + 1)), ei.term_, ei.index, ei.logTerm, ei.commit, ei.ok, ei.entries, ei.conf, ei.data, ei.last⟩ : Message)).set i (⟨l, (IntKind.i64.wrap (l + 1)), (IntKind.i64.wrap ((IntKind.i64.wrap (l + 1)) + 1)), (IntKind.i64.wrap ((IntKind.i64.wrap ((IntKind.i64.wrap (l + 1)) + 1)) + 1)), ei.index, ei.logTerm, ei.commit, ei.ok, ei.entries, ei.conf, ei.data, ei.last⟩ : Message)).set i (⟨l, (IntKind.i64.wrap (l + 1)), (IntKind.i64.wrap ((IntKind.i64.wrap (l + 1)) + 1)), (IntKind.i64.wrap ((IntKind.i64.wrap ((IntKind.i64.wrap (l + 1)) + 1)) + 1)), (IntKind.i64.wrap ((IntKind.i64.wrap ((IntKind.i64.wrap ((IntKind.i64.wrap (l + 1)) + 1)) + 1)) + 1)), ei.logTerm, ei.commit, ei.ok, ei.entries, ei.conf, ei.data, ei.last⟩ : Message)).set i (⟨l, (IntKind.i64.wrap (l + 1)), (IntKind.i64.wrap ((IntKind.i64.wrap (l + 1)) + 1)), (IntKind.i64.wrap ((IntKind.i64.wrap ((IntKind.i64.wrap (l + 1)) + 1)) + 1)), (IntKind.i64.wrap ((IntKind.i64.wrap ((IntKind.i64.wrap ((IntKind.i64.wrap (l + 1)) + 1)) + 1)) + 1)), (IntKind.i64.wrap ((IntKind.i64.wrap ((IntKind.i64.wrap ((IntKind.i64.wrap ((IntKind.i64.wrap (l + 1)) + 1)) + 1)) + 1)) + 1)), ei.commit, ei.ok, ei.entries, ei.conf, ei.data, ei.last⟩ : Message)).set i (⟨l, (IntKind.i64.wrap (l + 1)), (IntKind.i64.wrap ((IntKind.i64.wrap (l + 1)) + 1)), (IntKind.i64.wrap ((IntKind.i64.wrap ((IntKind.i64.wrap (l + 1)) + 1)) + 1)), (IntKind.i64.wrap ((IntKind.i64.wrap ((IntKind.i64.wrap ((IntKind.i64.wrap (l + 1)) + 1)) + 1)) + 1)), (IntKind.i64.wrap ((IntKind.i64.wrap ((IntKind.i64.wrap ((IntKind.i64.wrap ((IntKind.i64.wrap (l + 1)) + 1)) + 1)) + 1)) + 1)), (IntKind.i64.wrap ((IntKind.i64.wrap ((IntKind.i64.wrap ((IntKind.i64.wrap ((IntKind.i64.wrap ((IntKind.i64.wrap (l + 1)) + 1)) + 1)) + 1)) + 1)) + 1)), ei.ok, ei.entries, ei.conf, ei.data, ei.last⟩ : Message)).set i (⟨l, (IntKind.i64.wrap (l + 1)), (IntKind.i64.wrap ((IntKind.i64.wrap (l + 1)) + 1)), (IntKind.i64.wrap ((IntKind.i64.wrap ((IntKind.i64.wrap (l + 1)) + 1)) + 1)), (IntKind.i64.wrap ((IntKind.i64.wrap ((IntKind.i64.wrap ((IntKind.i64.wrap (l + 1)) + 1)) + 1)) + 1)), (IntKind.i64.wrap ((IntKind.i64.wrap ((IntKind.i64.wrap ((IntKind.i64.wrap ((IntKind.i64.wrap (l + 1)) + 1)) + 1)) + 1)) + 1)), (IntKind.i64.wrap ((IntKind.i64.wrap ((IntKind.i64.wrap ((IntKind.i64.wrap ((IntKind.i64.wrap ((IntKind.i64.wrap (l + 1)) + 1)) + 1)) + 1)) + 1)) + 1)), ((Int.tmod (IntKind.i64.wrap ((IntKind.i64.wrap ((IntKind.i64.wrap ((IntKind.i64.wrap ((IntKind.i64.wrap ((IntKind.i64.wrap ((IntKind.i64.wrap (l + 1)) + 1)) + 1)) + 1)) + 1)) + 1)) + 1)) 3) == 0), ei.entries, ei.conf, ei.data, ei.last⟩ : Message)).set i (⟨l, (IntKind.i64.wrap (l + 1)), (IntKind.i64.wrap ((IntKind.i64.wrap (l + 1)) + 1)), (IntKind.i64.wrap ((IntKind.i64.wrap ((IntKind.i64.wrap (l + 1)) + 1)) + 1)), (IntKind.i64.wrap ((IntKind.i64.wrap ((IntKind.i64.wrap ((IntKind.i64.wrap (l + 1)) + 1)) + 1)) + 1)), (IntKind.i64.wrap ((IntKind.i64.wrap ((IntKind.i64.wrap ((IntKind.i64.wrap ((IntKind.i64.wrap (l + 1)) + 1)) + 1)) + 1)) + 1)), (IntKind.i64.wrap ((IntKind.i64.wrap ((IntKind.i64.wrap ((IntKind.i64.wrap ((IntKind.i64.wrap ((IntKind.i64.wrap (l + 1)) + 1)) + 1)) + 1)) + 1)) + 1)), ((Int.tmod (IntKind.i64.wrap ((IntKind.i64.wrap ((IntKind.i64.wrap ((IntKind.i64.wrap ((IntKind.i64.wrap ((IntKind.i64.wrap ((IntKind.i64.wrap (l + 1)) + 1)) + 1)) + 1)) + 1)) + 1)) + 1)) 3) == 0), (mkL mkEEntry ei.entries (IntKind.i64.wrap ((IntKind.i64.wrap ((IntKind.i64.wrap ((IntKind.i64.wrap ((IntKind.i64.wrap ((IntKind.i64.wrap ((IntKind.i64.wrap ((IntKind.i64.wrap (l + 1)) + 1)) + 1)) + 1)) + 1)) + 1)) + 1)) + 1))).1, ei.conf, ei.data, ei.last⟩ : Message)) i 9 (⟨l, (IntKind.i64.wrap (l + 1)), (IntKind.i64.wrap ((IntKind.i64.wrap (l + 1)) + 1)), (IntKind.i64.wrap ((IntKind.i64.wrap ((IntKind.i64.wrap (l + 1)) + 1)) + 1)), (IntKind.i64.wrap ((IntKind.i64.wrap ((IntKind.i64.wrap ((IntKind.i64.wrap (l + 1)) + 1)) + 1)) + 1)), (IntKind.i64.wrap ((IntKind.i64.wrap ((IntKind.i64.wrap ((IntKind.i64.wrap ((IntKind.i64.wrap (l + 1)) + 1)) + 1)) + 1)) + 1)), (IntKind.i64.wrap ((IntKind.i64.wrap ((IntKind.i64.wrap ((IntKind.i64.wrap ((IntKind.i64.wrap ((IntKind.i64.wrap (l + 1)) + 1)) + 1)) + 1)) + 1)) + 1)), ((Int.tmod (IntKind.i64.wrap ((IntKind.i64.wrap ((IntKind.i64.wrap ((IntKind.i64.wrap ((IntKind.i64.wrap ((IntKind.i64.wrap ((IntKind.i64.wrap (l + 1)) + 1)) + 1)) + 1)) + 1)) + 1)) + 1)) 3) == 0), (mkL mkEEntry ei.entries (IntKind.i64.wrap ((IntKind.i64.wrap ((IntKind.i64.wrap ((IntKind.i64.wrap ((IntKind.i64.wrap ((IntKind.i64.wrap ((IntKind.i64.wrap ((IntKind.i64.wrap (l + 1)) + 1)) + 1)) + 1)) + 1)) + 1)) + 1)) + 1))).1, ei.conf, ei.data, ei.last⟩ : Message) (List.getElem?_set_self (by first | omega | (simp; omega))) (by decide)).trans rfl) fun X5 => ?_
  refine RW.k XK 102 1 rfl ?_
  (conv=>whnf);refine ⟨rfl,?_⟩
  refine RW.callW (k := 81) (laws_markIntS_fn ei.conf ((mkL mkEEntry ei.entries (IntKind.i64.wrap ((IntKind.i64.wrap ((IntKind.i64.wrap ((IntKind.i64.wrap ((IntKind.i64.wrap ((IntKind.i64.wrap ((IntKind.i64.wrap ((IntKind.i64.wrap (l + 1)) + 1)) + 1)) + 1)) + 1)) + 1)) + 1)) + 1))).2) (by repeat (first | exact hlk | exact wrap_le _ | apply mkL_le | apply mkI_le | apply mkS_le | apply mkB_le | apply mkEEntry_le | apply mkEPeer_le | apply mkEMessage_le))) rfl rfl (Nat.le_of_ble_eq_true rfl) (by decide) (.here (AsW.own) (.cons (.one (.r .r)) (.nil))) rfl fun g6 q7 => ?_
  refine RW.giveE (c := Message.c) (L := (((((((((b.set i (⟨l, ei.from_, ei.to, ei.term_, ei.index, ei.logTerm, ei.commit, ei.ok, ei.entries, ei.conf, ei.data, ei.last⟩ : Message)).set i (⟨l, (IntKind.i64.wrap (l + 1)), ei.to, ei.term_, ei.index, ei.logTerm, ei.commit, ei.ok, ei.entries, ei.conf, ei.data, ei.last⟩ : Message)).set i (⟨l, (IntKind.i64.wrap (l + 1)), (IntKind.i64.wrap ((IntKind.i64.wrap (l + 1)) + 1)), ei.term_, ei.index, ei.logTerm, ei.commit, ei.ok, ei.entries, ei.conf, ei.data, ei.last⟩ : Message)).set i (⟨l, (IntKind.i64.wrap (l + 1)), (IntKind.i64.wrap ((IntKind.i64.wrap (l + 1)) + 1)), (IntKind.i64.wrap ((IntKind.i64.wrap ((IntKind.i64.wrap (l + 1)) + 1)) + 1)), ei.index, ei.logTerm, ei.commit, ei.ok, ei.entries, ei.conf, ei.data, ei.last⟩ : Message)).set i (⟨l, (IntKind.i64.wrap (l + 1)), (IntKind.i64.wrap ((IntKind.i64.wrap (l + 1)) + 1)), (IntKind.i64.wrap ((IntKind.i64.wrap ((IntKind.i64.wrap (l + 1)) + 1)) + 1)), (IntKind.i64.wrap ((IntKind.i64.wrap ((IntKind.i64.wrap ((IntKind.i64.wrap (l + 1)) + 1)) + 1)) + 1)), ei.logTerm, ei.commit, ei.ok, ei.entries, ei.conf, ei.data, ei.last⟩ : Message)).set i (⟨l, (IntKind.i64.wrap (l + 1)), (IntKind.i64.wrap ((IntKind.i64.wrap (l + 1)) + 1)), (IntKind.i64.wrap ((IntKind.i64.wrap ((IntKind.i64.wrap (l + 1)) + 1)) + 1)), (IntKind.i64.wrap ((IntKind.i64.wrap ((IntKind.i64.wrap ((IntKind.i64.wrap (l + 1)) + 1)) + 1)) + 1)), (IntKind.i64.wrap ((IntKind.i64.wrap ((IntKind.i64.wrap ((IntKind.i64.wrap ((IntKind.i64.wrap (l + 1)) + 1)) + 1)) + 1)) + 1)), ei.commit, ei.ok, ei.entries, ei.conf, ei.data, ei.last⟩ : Message)).set i (⟨l, (IntKind.i64.wrap (l + 1)), (IntKind.i64.wrap ((IntKind.i64.wrap (l + 1)) + 1)), (IntKind.i64.wrap ((IntKind.i64.wrap ((IntKind.i64.wrap (l + 1)) + 1)) + 1)), (IntKind.i64.wrap ((IntKind.i64.wrap ((IntKind.i64.wrap ((IntKind.i64.wrap (l + 1)) + 1)) + 1)) + 1)), (IntKind.i64.wrap ((IntKind.i64.wrap ((IntKind.i64.wrap ((IntKind.i64.wrap ((IntKind.i64.wrap (l + 1)) + 1)) + 1)) + 1)) + 1)), (IntKind.i64.wrap ((IntKind.i64.wrap ((IntKind.i64.wrap ((IntKind.i64.wrap ((IntKind.i64.wrap ((IntKind.i64.wrap (l + 1)) + 1)) + 1)) + 1)) + 1)) + 1)), ei.ok, ei.entries, ei.conf, ei.data, ei.last⟩ : Message)).set i (⟨l, (IntKind.i64.wrap (l + 1)), (IntKind.i64.wrap ((IntKind.i64.wrap (l + 1)) + 1)), (IntKind.i64.wrap ((IntKind.i64.wrap ((IntKind.i64.wrap (l + 1)) + 1)) + 1)), (IntKind.i64.wrap ((IntKind.i64.wrap ((IntKind.i64.wrap ((IntKind.i64.wrap (l + 1)) + 1)) + 1)) + 1)), (IntKind.i64.wrap ((IntKind.i64.wrap ((IntKind.i64.wrap ((IntKind.i64.wrap ((IntKind.i64.wrap (l + 1)) + 1)) + 1)) + 1)) + 1)), (IntKind.i64.wrap ((IntKind.i64.wrap ((IntKind.i64.wrap ((IntKind.i64.wrap ((IntKind.i64.wrap ((IntKind.i64.wrap (l + 1)) + 1)) + 1)) + 1)) + 1)) + 1)), ((Int.tmod (IntKind.i64.wrap ((IntKind.i64.wrap ((IntKind.i64.wrap ((IntKind.i64.wrap ((IntKind.i64.wrap ((IntKind.i64.wrap ((IntKind.i64.wrap (l + 1)) + 1)) + 1)) + 1)) + 1)) + 1)) + 1)) 3) == 0), ei.entries, ei.conf, ei.data, ei.last⟩ : Message)).set i (⟨l, (IntKind.i64.wrap (l + 1)), (IntKind.i64.wrap ((IntKind.i64.wrap (l + 1)) + 1)), (IntKind.i64.wrap ((IntKind.i64.wrap ((IntKind.i64.wrap (l + 1)) + 1)) + 1)), (IntKind.i64.wrap ((IntKind.i64.wrap ((IntKind.i64.wrap ((IntKind.i64.wrap (l + 1)) + 1)) + 1)) + 1)), (IntKind.i64.wrap ((IntKind.i64.wrap ((IntKind.i64.wrap ((IntKind.i64.wrap ((IntKind.i64.wrap (l + 1)) + 1)) + 1)) + 1)) + 1)), (IntKind.i64.wrap ((IntKind.i64.wrap ((IntKind.i64.wrap ((IntKind.i64.wrap ((IntKind.i64.wrap ((IntKind.i64.wrap (l + 1)) + 1)) + 1)) + 1)) + 1)) + 1)), ((Int.tmod (IntKind.i64.wrap ((IntKind.i64.wrap ((IntKind.i64.wrap ((IntKind.i64.wrap ((IntKind.i64.wrap ((IntKind.i64.wrap ((IntKind.i64.wrap (l + 1)) + 1)) + 1)) + 1)) + 1)) + 1)) + 1)) 3) == 0), (mkL mkEEntry ei.entries (IntKind.i64.wrap ((IntKind.i64.wrap ((IntKind.i64.wrap ((IntKind.i64.wrap ((IntKind.i64.wrap ((IntKind.i64.wrap ((IntKind.i64.wrap ((IntKind.i64.wrap (l + 1)) + 1)) + 1)) + 1)) + 1)) + 1)) + 1)) + 1))).1, ei.conf, ei.data, ei.last⟩ : Message))) (m := i) (off := 9) (v := (⟨l, (IntKind.i64.wrap (l + 1)), (IntKind.i64.wrap ((IntKind.i64.wrap (l + 1)) + 1)), (IntKind.i64.wrap ((IntKind.i64.wrap ((IntKind.i64.wrap (l + 1)) + 1)) + 1)), (IntKind.i64.wrap ((IntKind.i64.wrap ((IntKind.i64.wrap ((IntKind.i64.wrap (l + 1)) + 1)) + 1)) + 1)), (IntKind.i64.wrap ((IntKind.i64.wrap ((IntKind.i64.wrap ((IntKind.i64.wrap ((IntKind.i64.wrap (l + 1)) + 1)) + 1)) + 1)) + 1)), (IntKind.i64.wrap ((IntKind.i64.wrap ((IntKind.i64.wrap ((IntKind.i64.wrap ((IntKind.i64.wrap ((IntKind.i64.wrap (l + 1)) + 1)) + 1)) + 1)) + 1)) + 1)), ((Int.tmod (IntKind.i64.wrap ((IntKind.i64.wrap ((IntKind.i64.wrap ((IntKind.i64.wrap ((IntKind.i64.wrap ((IntKind.i64.wrap ((IntKind.i64.wrap (l + 1)) + 1)) + 1)) + 1)) + 1)) + 1)) + 1)) 3) == 0), (mkL mkEEntry ei.entries (IntKind.i64.wrap ((IntKind.i64.wrap ((IntKind.i64.wrap ((IntKind.i64.wrap ((IntKind.i64.wrap ((IntKind.i64.wrap ((IntKind.i64.wrap ((IntKind.i64.wrap (l + 1)) + 1)) + 1)) + 1)) + 1)) + 1)) + 1)) + 1))).1, ei.conf, ei.data, ei.last⟩ : Message)) (v' := (⟨l, (IntKind.i64.wrap (l + 1)), (IntKind.i64.wrap ((IntKind.i64.wrap (l + 1)) + 1)), (IntKind.i64.wrap ((IntKind.i64.wrap ((IntKind.i64.wrap (l + 1)) + 1)) + 1)), (IntKind.i64.wrap ((IntKind.i64.wrap ((IntKind.i64.wrap ((IntKind.i64.wrap (l + 1)) + 1)) + 1)) + 1)), (IntKind.i64.wrap ((IntKind.i64.wrap ((IntKind.i64.wrap ((IntKind.i64.wrap ((IntKind.i64.wrap (l + 1)) + 1)) + 1)) + 1)) + 1)), (IntKind.i64.wrap ((IntKind.i64.wrap ((IntKind.i64.wrap ((IntKind.i64.wrap ((IntKind.i64.wrap ((IntKind.i64.wrap (l + 1)) + 1)) + 1)) + 1)) + 1)) + 1)), ((Int.tmod (IntKind.i64.wrap ((IntKind.i64.wrap ((IntKind.i64.wrap ((IntKind.i64.wrap ((IntKind.i64.wrap ((IntKind.i64.wrap ((IntKind.i64.wrap (l + 1)) + 1)) + 1)) + 1)) + 1)) + 1)) + 1)) 3) == 0), (mkL mkEEntry ei.entries (IntKind.i64.wrap ((IntKind.i64.wrap ((IntKind.i64.wrap ((IntKind.i64.wrap ((IntKind.i64.wrap ((IntKind.i64.wrap ((IntKind.i64.wrap ((IntKind.i64.wrap (l + 1)) + 1)) + 1)) + 1)) + 1)) + 1)) + 1)) + 1))).1, (mkL mkI ei.conf ((mkL mkEEntry ei.entries (IntKind.i64.wrap ((IntKind.i64.wrap ((IntKind.i64.wrap ((IntKind.i64.wrap ((IntKind.i64.wrap ((IntKind.i64.wrap ((IntKind.i64.wrap ((IntKind.i64.wrap (l + 1)) + 1)) + 1)) + 1)) + 1)) + 1)) + 1)) + 1))).2)).1, ei.data, ei.last⟩ : Message)) 0 81 (by decide) rfl rfl (List.getElem?_set_self (by first | omega | (simp; omega))) Message.len (by decide) rfl ?_
  refine RW.k XK 102 1 rfl ?_
  (conv=>whnf);refine ⟨rfl,?_⟩
  refine RW.nil ?_
  refine CW.keep 102 [0,1,5] rfl ?_;(conv=>whnf);refine ⟨?_⟩
  refine CW.seq ?_
  refine CW.region ?_
  refine RW.k XK 102 3 rfl ?_
  (conv=>whnf);refine ⟨rfl,?_⟩
  refine RW.call rfl (laws_markText_fn ((mkL mkI ei.conf ((mkL mkEEntry ei.entries (IntKind.i64.wrap ((IntKind.i64.wrap ((IntKind.i64.wrap ((IntKind.i64.wrap ((IntKind.i64.wrap ((IntKind.i64.wrap ((IntKind.i64.wrap ((IntKind.i64.wrap (l + 1)) + 1)) + 1)) + 1)) + 1)) + 1)) + 1)) + 1))).2)).2) (by repeat (first | exact hlk | exact wrap_le _ | apply mkL_le | apply mkI_le | apply mkS_le | apply mkB_le | apply mkEEntry_le | apply mkEPeer_le | apply mkEMessage_le))) rfl (.cons (.one (.r .r)) (.nil)) fun g8 => ?_
  refine RW.v rfl (V.indexW rfl rfl rfl rfl rfl rfl rfl (by first | omega | (simp; omega))) ?_
  refine RW.k XK 102 1 rfl ?_
  (conv=>whnf);refine ⟨rfl,?_⟩
  refine RW.storeF (m := i) (off := 10) (v := (⟨l, (IntKind.i64.wrap (l + 1)), (IntKind.i64.wrap ((IntKind.i64.wrap (l + 1)) + 1)), (IntKind.i64.wrap ((IntKind.i64.wrap ((IntKind.i64.wrap (l + 1)) + 1)) + 1)), (IntKind.i64.wrap ((IntKind.i64.wrap ((IntKind.i64.wrap ((IntKind.i64.wrap (l + 1)) + 1)) + 1)) + 1)), (IntKind.i64.wrap ((IntKind.i64.wrap ((IntKind.i64.wrap ((IntKind.i64.wrap ((IntKind.i64.wrap (l + 1)) + 1)) + 1)) + 1)) + 1)), (IntKind.i64.wrap ((IntKind.i64.wrap ((IntKind.i64.wrap ((IntKind.i64.wrap ((IntKind.i64.wrap ((IntKind.i64.wrap (l + 1)) + 1)) + 1)) + 1)) + 1)) + 1)), ((Int.tmod (IntKind.i64.wrap ((IntKind.i64.wrap ((IntKind.i64.wrap ((IntKind.i64.wrap ((IntKind.i64.wrap ((IntKind.i64.wrap ((IntKind.i64.wrap (l + 1)) + 1)) + 1)) + 1)) + 1)) + 1)) + 1)) 3) == 0), (mkL mkEEntry ei.entries (IntKind.i64.wrap ((IntKind.i64.wrap ((IntKind.i64.wrap ((IntKind.i64.wrap ((IntKind.i64.wrap ((IntKind.i64.wrap ((IntKind.i64.wrap ((IntKind.i64.wrap (l + 1)) + 1)) + 1)) + 1)) + 1)) + 1)) + 1)) + 1))).1, (mkL mkI ei.conf ((mkL mkEEntry ei.entries (IntKind.i64.wrap ((IntKind.i64.wrap ((IntKind.i64.wrap ((IntKind.i64.wrap ((IntKind.i64.wrap ((IntKind.i64.wrap ((IntKind.i64.wrap ((IntKind.i64.wrap (l + 1)) + 1)) + 1)) + 1)) + 1)) + 1)) + 1)) + 1))).2)).1, ei.data, ei.last⟩ : Message)) (v' := (⟨l, (IntKind.i64.wrap (l + 1)), (IntKind.i64.wrap ((IntKind.i64.wrap (l + 1)) + 1)), (IntKind.i64.wrap ((IntKind.i64.wrap ((IntKind.i64.wrap (l + 1)) + 1)) + 1)), (IntKind.i64.wrap ((IntKind.i64.wrap ((IntKind.i64.wrap ((IntKind.i64.wrap (l + 1)) + 1)) + 1)) + 1)), (IntKind.i64.wrap ((IntKind.i64.wrap ((IntKind.i64.wrap ((IntKind.i64.wrap ((IntKind.i64.wrap (l + 1)) + 1)) + 1)) + 1)) + 1)), (IntKind.i64.wrap ((IntKind.i64.wrap ((IntKind.i64.wrap ((IntKind.i64.wrap ((IntKind.i64.wrap ((IntKind.i64.wrap (l + 1)) + 1)) + 1)) + 1)) + 1)) + 1)), ((Int.tmod (IntKind.i64.wrap ((IntKind.i64.wrap ((IntKind.i64.wrap ((IntKind.i64.wrap ((IntKind.i64.wrap ((IntKind.i64.wrap ((IntKind.i64.wrap (l + 1)) + 1)) + 1)) + 1)) + 1)) + 1)) + 1)) 3) == 0), (mkL mkEEntry ei.entries (IntKind.i64.wrap ((IntKind.i64.wrap ((IntKind.i64.wrap ((IntKind.i64.wrap ((IntKind.i64.wrap ((IntKind.i64.wrap ((IntKind.i64.wrap ((IntKind.i64.wrap (l + 1)) + 1)) + 1)) + 1)) + 1)) + 1)) + 1)) + 1))).1, (mkL mkI ei.conf ((mkL mkEEntry ei.entries (IntKind.i64.wrap ((IntKind.i64.wrap ((IntKind.i64.wrap ((IntKind.i64.wrap ((IntKind.i64.wrap ((IntKind.i64.wrap ((IntKind.i64.wrap ((IntKind.i64.wrap (l + 1)) + 1)) + 1)) + 1)) + 1)) + 1)) + 1)) + 1))).2)).1, (mtext ((mkL mkI ei.conf ((mkL mkEEntry ei.entries (IntKind.i64.wrap ((IntKind.i64.wrap ((IntKind.i64.wrap ((IntKind.i64.wrap ((IntKind.i64.wrap ((IntKind.i64.wrap ((IntKind.i64.wrap ((IntKind.i64.wrap (l + 1)) + 1)) + 1)) + 1)) + 1)) + 1)) + 1)) + 1))).2)).2)), ei.last⟩ : Message)) (u := .v (.string (mtext ((mkL mkI ei.conf ((mkL mkEEntry ei.entries (IntKind.i64.wrap ((IntKind.i64.wrap ((IntKind.i64.wrap ((IntKind.i64.wrap ((IntKind.i64.wrap ((IntKind.i64.wrap ((IntKind.i64.wrap ((IntKind.i64.wrap (l + 1)) + 1)) + 1)) + 1)) + 1)) + 1)) + 1)) + 1))).2)).2)))) (c := Message.c) rfl rfl rfl rfl rfl rfl rfl (.inl rfl) Message.len (List.getElem?_set_self (by first | omega | (simp; omega))) (by decide) rfl rfl ?_
  refine RW.nil ?_
  refine CW.keep 102 [0,1,5] rfl ?_;(conv=>whnf);refine ⟨?_⟩
  refine CW.k XK 102 1 [0,1,5] rfl ?_
  (conv=>whnf);refine ⟨rfl,?_⟩
  refine CW.seq ?_
  refine CW.region ?_
  refine RW.k XK 102 5 rfl ?_
  (conv=>whnf);refine ⟨rfl,?_⟩
  refine RW.v rfl (V.indexW rfl rfl rfl rfl rfl rfl rfl (by first | omega | (simp; omega))) ?_
  refine RW.k XK 102 1 rfl ?_
  (conv=>whnf);refine ⟨rfl,?_⟩
  refine RW.storeF (m := i) (off := 11) (v := (⟨l, (IntKind.i64.wrap (l + 1)), (IntKind.i64.wrap ((IntKind.i64.wrap (l + 1)) + 1)), (IntKind.i64.wrap ((IntKind.i64.wrap ((IntKind.i64.wrap (l + 1)) + 1)) + 1)), (IntKind.i64.wrap ((IntKind.i64.wrap ((IntKind.i64.wrap ((IntKind.i64.wrap (l + 1)) + 1)) + 1)) + 1)), (IntKind.i64.wrap ((IntKind.i64.wrap ((IntKind.i64.wrap ((IntKind.i64.wrap ((IntKind.i64.wrap (l + 1)) + 1)) + 1)) + 1)) + 1)), (IntKind.i64.wrap ((IntKind.i64.wrap ((IntKind.i64.wrap ((IntKind.i64.wrap ((IntKind.i64.wrap ((IntKind.i64.wrap (l + 1)) + 1)) + 1)) + 1)) + 1)) + 1)), ((Int.tmod (IntKind.i64.wrap ((IntKind.i64.wrap ((IntKind.i64.wrap ((IntKind.i64.wrap ((IntKind.i64.wrap ((IntKind.i64.wrap ((IntKind.i64.wrap (l + 1)) + 1)) + 1)) + 1)) + 1)) + 1)) + 1)) 3) == 0), (mkL mkEEntry ei.entries (IntKind.i64.wrap ((IntKind.i64.wrap ((IntKind.i64.wrap ((IntKind.i64.wrap ((IntKind.i64.wrap ((IntKind.i64.wrap ((IntKind.i64.wrap ((IntKind.i64.wrap (l + 1)) + 1)) + 1)) + 1)) + 1)) + 1)) + 1)) + 1))).1, (mkL mkI ei.conf ((mkL mkEEntry ei.entries (IntKind.i64.wrap ((IntKind.i64.wrap ((IntKind.i64.wrap ((IntKind.i64.wrap ((IntKind.i64.wrap ((IntKind.i64.wrap ((IntKind.i64.wrap ((IntKind.i64.wrap (l + 1)) + 1)) + 1)) + 1)) + 1)) + 1)) + 1)) + 1))).2)).1, (mtext ((mkL mkI ei.conf ((mkL mkEEntry ei.entries (IntKind.i64.wrap ((IntKind.i64.wrap ((IntKind.i64.wrap ((IntKind.i64.wrap ((IntKind.i64.wrap ((IntKind.i64.wrap ((IntKind.i64.wrap ((IntKind.i64.wrap (l + 1)) + 1)) + 1)) + 1)) + 1)) + 1)) + 1)) + 1))).2)).2)), ei.last⟩ : Message)) (v' := (⟨l, (IntKind.i64.wrap (l + 1)), (IntKind.i64.wrap ((IntKind.i64.wrap (l + 1)) + 1)), (IntKind.i64.wrap ((IntKind.i64.wrap ((IntKind.i64.wrap (l + 1)) + 1)) + 1)), (IntKind.i64.wrap ((IntKind.i64.wrap ((IntKind.i64.wrap ((IntKind.i64.wrap (l + 1)) + 1)) + 1)) + 1)), (IntKind.i64.wrap ((IntKind.i64.wrap ((IntKind.i64.wrap ((IntKind.i64.wrap ((IntKind.i64.wrap (l + 1)) + 1)) + 1)) + 1)) + 1)), (IntKind.i64.wrap ((IntKind.i64.wrap ((IntKind.i64.wrap ((IntKind.i64.wrap ((IntKind.i64.wrap ((IntKind.i64.wrap (l + 1)) + 1)) + 1)) + 1)) + 1)) + 1)), ((Int.tmod (IntKind.i64.wrap ((IntKind.i64.wrap ((IntKind.i64.wrap ((IntKind.i64.wrap ((IntKind.i64.wrap ((IntKind.i64.wrap ((IntKind.i64.wrap (l + 1)) + 1)) + 1)) + 1)) + 1)) + 1)) + 1)) 3) == 0), (mkL mkEEntry ei.entries (IntKind.i64.wrap ((IntKind.i64.wrap ((IntKind.i64.wrap ((IntKind.i64.wrap ((IntKind.i64.wrap ((IntKind.i64.wrap ((IntKind.i64.wrap ((IntKind.i64.wrap (l + 1)) + 1)) + 1)) + 1)) + 1)) + 1)) + 1)) + 1))).1, (mkL mkI ei.conf ((mkL mkEEntry ei.entries (IntKind.i64.wrap ((IntKind.i64.wrap ((IntKind.i64.wrap ((IntKind.i64.wrap ((IntKind.i64.wrap ((IntKind.i64.wrap ((IntKind.i64.wrap ((IntKind.i64.wrap (l + 1)) + 1)) + 1)) + 1)) + 1)) + 1)) + 1)) + 1))).2)).1, (mtext ((mkL mkI ei.conf ((mkL mkEEntry ei.entries (IntKind.i64.wrap ((IntKind.i64.wrap ((IntKind.i64.wrap ((IntKind.i64.wrap ((IntKind.i64.wrap ((IntKind.i64.wrap ((IntKind.i64.wrap ((IntKind.i64.wrap (l + 1)) + 1)) + 1)) + 1)) + 1)) + 1)) + 1)) + 1))).2)).2)), ((Int.tmod (IntKind.i64.wrap (((mkL mkI ei.conf ((mkL mkEEntry ei.entries (IntKind.i64.wrap ((IntKind.i64.wrap ((IntKind.i64.wrap ((IntKind.i64.wrap ((IntKind.i64.wrap ((IntKind.i64.wrap ((IntKind.i64.wrap ((IntKind.i64.wrap (l + 1)) + 1)) + 1)) + 1)) + 1)) + 1)) + 1)) + 1))).2)).2) + 1)) 3) == 0)⟩ : Message)) (u := .v (.bool ((Int.tmod (IntKind.i64.wrap (((mkL mkI ei.conf ((mkL mkEEntry ei.entries (IntKind.i64.wrap ((IntKind.i64.wrap ((IntKind.i64.wrap ((IntKind.i64.wrap ((IntKind.i64.wrap ((IntKind.i64.wrap ((IntKind.i64.wrap ((IntKind.i64.wrap (l + 1)) + 1)) + 1)) + 1)) + 1)) + 1)) + 1)) + 1))).2)).2) + 1)) 3) == 0))) (c := Message.c) rfl rfl rfl rfl rfl rfl rfl (.inl rfl) Message.len (List.getElem?_set_self (by first | omega | (simp; omega))) (by decide) rfl rfl ?_
  refine RW.nil ?_
  refine CW.keep 102 [0,1,5] rfl ?_;(conv=>whnf);refine ⟨?_⟩
  refine CW.region ?_
  refine RW.k XK 102 3 rfl ?_
  (conv=>whnf);refine ⟨rfl,?_⟩
  refine RW.nil ?_
  refine CW.keep 102 [0,1,5] rfl ?_;(conv=>whnf);refine ⟨?_⟩
  refine CW.region ?_
  refine RW.k XK 102 1 rfl ?_
  (conv=>whnf);refine ⟨rfl,?_⟩
  refine RW.v rfl (V.inc rfl rfl rfl hii (by omega)) ?_
  refine RW.k XK 102 1 rfl ?_
  (conv=>whnf);refine ⟨rfl,?_⟩
  refine RW.nil ?_
  exact ⟨(i + 1, (IntKind.i64.wrap ((IntKind.i64.wrap (((mkL mkI ei.conf ((mkL mkEEntry ei.entries (IntKind.i64.wrap ((IntKind.i64.wrap ((IntKind.i64.wrap ((IntKind.i64.wrap ((IntKind.i64.wrap ((IntKind.i64.wrap ((IntKind.i64.wrap ((IntKind.i64.wrap (l + 1)) + 1)) + 1)) + 1)) + 1)) + 1)) + 1)) + 1))).2)).2) + 1)) + 1)), ((((((((((((b.set i (⟨l, ei.from_, ei.to, ei.term_, ei.index, ei.logTerm, ei.commit, ei.ok, ei.entries, ei.conf, ei.data, ei.last⟩ : Message)).set i (⟨l, (IntKind.i64.wrap (l + 1)), ei.to, ei.term_, ei.index, ei.logTerm, ei.commit, ei.ok, ei.entries, ei.conf, ei.data, ei.last⟩ : Message)).set i (⟨l, (IntKind.i64.wrap (l + 1)), (IntKind.i64.wrap ((IntKind.i64.wrap (l + 1)) + 1)), ei.term_, ei.index, ei.logTerm, ei.commit, ei.ok, ei.entries, ei.conf, ei.data, ei.last⟩ : Message)).set i (⟨l, (IntKind.i64.wrap (l + 1)), (IntKind.i64.wrap ((IntKind.i64.wrap (l + 1)) + 1)), (IntKind.i64.wrap ((IntKind.i64.wrap ((IntKind.i64.wrap (l + 1)) + 1)) + 1)), ei.index, ei.logTerm, ei.commit, ei.ok, ei.entries, ei.conf, ei.data, ei.last⟩ : Message)).set i (⟨l, (IntKind.i64.wrap (l + 1)), (IntKind.i64.wrap ((IntKind.i64.wrap (l + 1)) + 1)), (IntKind.i64.wrap ((IntKind.i64.wrap ((IntKind.i64.wrap (l + 1)) + 1)) + 1)), (IntKind.i64.wrap ((IntKind.i64.wrap ((IntKind.i64.wrap ((IntKind.i64.wrap (l + 1)) + 1)) + 1)) + 1)), ei.logTerm, ei.commit, ei.ok, ei.entries, ei.conf, ei.data, ei.last⟩ : Message)).set i (⟨l, (IntKind.i64.wrap (l + 1)), (IntKind.i64.wrap ((IntKind.i64.wrap (l + 1)) + 1)), (IntKind.i64.wrap ((IntKind.i64.wrap ((IntKind.i64.wrap (l + 1)) + 1)) + 1)), (IntKind.i64.wrap ((IntKind.i64.wrap ((IntKind.i64.wrap ((IntKind.i64.wrap (l + 1)) + 1)) + 1)) + 1)), (IntKind.i64.wrap ((IntKind.i64.wrap ((IntKind.i64.wrap ((IntKind.i64.wrap ((IntKind.i64.wrap (l + 1)) + 1)) + 1)) + 1)) + 1)), ei.commit, ei.ok, ei.entries, ei.conf, ei.data, ei.last⟩ : Message)).set i (⟨l, (IntKind.i64.wrap (l + 1)), (IntKind.i64.wrap ((IntKind.i64.wrap (l + 1)) + 1)), (IntKind.i64.wrap ((IntKind.i64.wrap ((IntKind.i64.wrap (l + 1)) + 1)) + 1)), (IntKind.i64.wrap ((IntKind.i64.wrap ((IntKind.i64.wrap ((IntKind.i64.wrap (l + 1)) + 1)) + 1)) + 1)), (IntKind.i64.wrap ((IntKind.i64.wrap ((IntKind.i64.wrap ((IntKind.i64.wrap ((IntKind.i64.wrap (l + 1)) + 1)) + 1)) + 1)) + 1)), (IntKind.i64.wrap ((IntKind.i64.wrap ((IntKind.i64.wrap ((IntKind.i64.wrap ((IntKind.i64.wrap ((IntKind.i64.wrap (l + 1)) + 1)) + 1)) + 1)) + 1)) + 1)), ei.ok, ei.entries, ei.conf, ei.data, ei.last⟩ : Message)).set i (⟨l, (IntKind.i64.wrap (l + 1)), (IntKind.i64.wrap ((IntKind.i64.wrap (l + 1)) + 1)), (IntKind.i64.wrap ((IntKind.i64.wrap ((IntKind.i64.wrap (l + 1)) + 1)) + 1)), (IntKind.i64.wrap ((IntKind.i64.wrap ((IntKind.i64.wrap ((IntKind.i64.wrap (l + 1)) + 1)) + 1)) + 1)), (IntKind.i64.wrap ((IntKind.i64.wrap ((IntKind.i64.wrap ((IntKind.i64.wrap ((IntKind.i64.wrap (l + 1)) + 1)) + 1)) + 1)) + 1)), (IntKind.i64.wrap ((IntKind.i64.wrap ((IntKind.i64.wrap ((IntKind.i64.wrap ((IntKind.i64.wrap ((IntKind.i64.wrap (l + 1)) + 1)) + 1)) + 1)) + 1)) + 1)), ((Int.tmod (IntKind.i64.wrap ((IntKind.i64.wrap ((IntKind.i64.wrap ((IntKind.i64.wrap ((IntKind.i64.wrap ((IntKind.i64.wrap ((IntKind.i64.wrap (l + 1)) + 1)) + 1)) + 1)) + 1)) + 1)) + 1)) 3) == 0), ei.entries, ei.conf, ei.data, ei.last⟩ : Message)).set i (⟨l, (IntKind.i64.wrap (l + 1)), (IntKind.i64.wrap ((IntKind.i64.wrap (l + 1)) + 1)), (IntKind.i64.wrap ((IntKind.i64.wrap ((IntKind.i64.wrap (l + 1)) + 1)) + 1)), (IntKind.i64.wrap ((IntKind.i64.wrap ((IntKind.i64.wrap ((IntKind.i64.wrap (l + 1)) + 1)) + 1)) + 1)), (IntKind.i64.wrap ((IntKind.i64.wrap ((IntKind.i64.wrap ((IntKind.i64.wrap ((IntKind.i64.wrap (l + 1)) + 1)) + 1)) + 1)) + 1)), (IntKind.i64.wrap ((IntKind.i64.wrap ((IntKind.i64.wrap ((IntKind.i64.wrap ((IntKind.i64.wrap ((IntKind.i64.wrap (l + 1)) + 1)) + 1)) + 1)) + 1)) + 1)), ((Int.tmod (IntKind.i64.wrap ((IntKind.i64.wrap ((IntKind.i64.wrap ((IntKind.i64.wrap ((IntKind.i64.wrap ((IntKind.i64.wrap ((IntKind.i64.wrap (l + 1)) + 1)) + 1)) + 1)) + 1)) + 1)) + 1)) 3) == 0), (mkL mkEEntry ei.entries (IntKind.i64.wrap ((IntKind.i64.wrap ((IntKind.i64.wrap ((IntKind.i64.wrap ((IntKind.i64.wrap ((IntKind.i64.wrap ((IntKind.i64.wrap ((IntKind.i64.wrap (l + 1)) + 1)) + 1)) + 1)) + 1)) + 1)) + 1)) + 1))).1, ei.conf, ei.data, ei.last⟩ : Message)).set i (⟨l, (IntKind.i64.wrap (l + 1)), (IntKind.i64.wrap ((IntKind.i64.wrap (l + 1)) + 1)), (IntKind.i64.wrap ((IntKind.i64.wrap ((IntKind.i64.wrap (l + 1)) + 1)) + 1)), (IntKind.i64.wrap ((IntKind.i64.wrap ((IntKind.i64.wrap ((IntKind.i64.wrap (l + 1)) + 1)) + 1)) + 1)), (IntKind.i64.wrap ((IntKind.i64.wrap ((IntKind.i64.wrap ((IntKind.i64.wrap ((IntKind.i64.wrap (l + 1)) + 1)) + 1)) + 1)) + 1)), (IntKind.i64.wrap ((IntKind.i64.wrap ((IntKind.i64.wrap ((IntKind.i64.wrap ((IntKind.i64.wrap ((IntKind.i64.wrap (l + 1)) + 1)) + 1)) + 1)) + 1)) + 1)), ((Int.tmod (IntKind.i64.wrap ((IntKind.i64.wrap ((IntKind.i64.wrap ((IntKind.i64.wrap ((IntKind.i64.wrap ((IntKind.i64.wrap ((IntKind.i64.wrap (l + 1)) + 1)) + 1)) + 1)) + 1)) + 1)) + 1)) 3) == 0), (mkL mkEEntry ei.entries (IntKind.i64.wrap ((IntKind.i64.wrap ((IntKind.i64.wrap ((IntKind.i64.wrap ((IntKind.i64.wrap ((IntKind.i64.wrap ((IntKind.i64.wrap ((IntKind.i64.wrap (l + 1)) + 1)) + 1)) + 1)) + 1)) + 1)) + 1)) + 1))).1, (mkL mkI ei.conf ((mkL mkEEntry ei.entries (IntKind.i64.wrap ((IntKind.i64.wrap ((IntKind.i64.wrap ((IntKind.i64.wrap ((IntKind.i64.wrap ((IntKind.i64.wrap ((IntKind.i64.wrap ((IntKind.i64.wrap (l + 1)) + 1)) + 1)) + 1)) + 1)) + 1)) + 1)) + 1))).2)).1, ei.data, ei.last⟩ : Message)).set i (⟨l, (IntKind.i64.wrap (l + 1)), (IntKind.i64.wrap ((IntKind.i64.wrap (l + 1)) + 1)), (IntKind.i64.wrap ((IntKind.i64.wrap ((IntKind.i64.wrap (l + 1)) + 1)) + 1)), (IntKind.i64.wrap ((IntKind.i64.wrap ((IntKind.i64.wrap ((IntKind.i64.wrap (l + 1)) + 1)) + 1)) + 1)), (IntKind.i64.wrap ((IntKind.i64.wrap ((IntKind.i64.wrap ((IntKind.i64.wrap ((IntKind.i64.wrap (l + 1)) + 1)) + 1)) + 1)) + 1)), (IntKind.i64.wrap ((IntKind.i64.wrap ((IntKind.i64.wrap ((IntKind.i64.wrap ((IntKind.i64.wrap ((IntKind.i64.wrap (l + 1)) + 1)) + 1)) + 1)) + 1)) + 1)), ((Int.tmod (IntKind.i64.wrap ((IntKind.i64.wrap ((IntKind.i64.wrap ((IntKind.i64.wrap ((IntKind.i64.wrap ((IntKind.i64.wrap ((IntKind.i64.wrap (l + 1)) + 1)) + 1)) + 1)) + 1)) + 1)) + 1)) 3) == 0), (mkL mkEEntry ei.entries (IntKind.i64.wrap ((IntKind.i64.wrap ((IntKind.i64.wrap ((IntKind.i64.wrap ((IntKind.i64.wrap ((IntKind.i64.wrap ((IntKind.i64.wrap ((IntKind.i64.wrap (l + 1)) + 1)) + 1)) + 1)) + 1)) + 1)) + 1)) + 1))).1, (mkL mkI ei.conf ((mkL mkEEntry ei.entries (IntKind.i64.wrap ((IntKind.i64.wrap ((IntKind.i64.wrap ((IntKind.i64.wrap ((IntKind.i64.wrap ((IntKind.i64.wrap ((IntKind.i64.wrap ((IntKind.i64.wrap (l + 1)) + 1)) + 1)) + 1)) + 1)) + 1)) + 1)) + 1))).2)).1, (mtext ((mkL mkI ei.conf ((mkL mkEEntry ei.entries (IntKind.i64.wrap ((IntKind.i64.wrap ((IntKind.i64.wrap ((IntKind.i64.wrap ((IntKind.i64.wrap ((IntKind.i64.wrap ((IntKind.i64.wrap ((IntKind.i64.wrap (l + 1)) + 1)) + 1)) + 1)) + 1)) + 1)) + 1)) + 1))).2)).2)), ei.last⟩ : Message)).set i (⟨l, (IntKind.i64.wrap (l + 1)), (IntKind.i64.wrap ((IntKind.i64.wrap (l + 1)) + 1)), (IntKind.i64.wrap ((IntKind.i64.wrap ((IntKind.i64.wrap (l + 1)) + 1)) + 1)), (IntKind.i64.wrap ((IntKind.i64.wrap ((IntKind.i64.wrap ((IntKind.i64.wrap (l + 1)) + 1)) + 1)) + 1)), (IntKind.i64.wrap ((IntKind.i64.wrap ((IntKind.i64.wrap ((IntKind.i64.wrap ((IntKind.i64.wrap (l + 1)) + 1)) + 1)) + 1)) + 1)), (IntKind.i64.wrap ((IntKind.i64.wrap ((IntKind.i64.wrap ((IntKind.i64.wrap ((IntKind.i64.wrap ((IntKind.i64.wrap (l + 1)) + 1)) + 1)) + 1)) + 1)) + 1)), ((Int.tmod (IntKind.i64.wrap ((IntKind.i64.wrap ((IntKind.i64.wrap ((IntKind.i64.wrap ((IntKind.i64.wrap ((IntKind.i64.wrap ((IntKind.i64.wrap (l + 1)) + 1)) + 1)) + 1)) + 1)) + 1)) + 1)) 3) == 0), (mkL mkEEntry ei.entries (IntKind.i64.wrap ((IntKind.i64.wrap ((IntKind.i64.wrap ((IntKind.i64.wrap ((IntKind.i64.wrap ((IntKind.i64.wrap ((IntKind.i64.wrap ((IntKind.i64.wrap (l + 1)) + 1)) + 1)) + 1)) + 1)) + 1)) + 1)) + 1))).1, (mkL mkI ei.conf ((mkL mkEEntry ei.entries (IntKind.i64.wrap ((IntKind.i64.wrap ((IntKind.i64.wrap ((IntKind.i64.wrap ((IntKind.i64.wrap ((IntKind.i64.wrap ((IntKind.i64.wrap ((IntKind.i64.wrap (l + 1)) + 1)) + 1)) + 1)) + 1)) + 1)) + 1)) + 1))).2)).1, (mtext ((mkL mkI ei.conf ((mkL mkEEntry ei.entries (IntKind.i64.wrap ((IntKind.i64.wrap ((IntKind.i64.wrap ((IntKind.i64.wrap ((IntKind.i64.wrap ((IntKind.i64.wrap ((IntKind.i64.wrap ((IntKind.i64.wrap (l + 1)) + 1)) + 1)) + 1)) + 1)) + 1)) + 1)) + 1))).2)).2)), ((Int.tmod (IntKind.i64.wrap (((mkL mkI ei.conf ((mkL mkEEntry ei.entries (IntKind.i64.wrap ((IntKind.i64.wrap ((IntKind.i64.wrap ((IntKind.i64.wrap ((IntKind.i64.wrap ((IntKind.i64.wrap ((IntKind.i64.wrap ((IntKind.i64.wrap (l + 1)) + 1)) + 1)) + 1)) + 1)) + 1)) + 1)) + 1))).2)).2) + 1)) 3) == 0)⟩ : Message))), by simp only []; omega, mk_step mkEMessage ((⟨l, (IntKind.i64.wrap (l + 1)), (IntKind.i64.wrap ((IntKind.i64.wrap (l + 1)) + 1)), (IntKind.i64.wrap ((IntKind.i64.wrap ((IntKind.i64.wrap (l + 1)) + 1)) + 1)), (IntKind.i64.wrap ((IntKind.i64.wrap ((IntKind.i64.wrap ((IntKind.i64.wrap (l + 1)) + 1)) + 1)) + 1)), (IntKind.i64.wrap ((IntKind.i64.wrap ((IntKind.i64.wrap ((IntKind.i64.wrap ((IntKind.i64.wrap (l + 1)) + 1)) + 1)) + 1)) + 1)), (IntKind.i64.wrap ((IntKind.i64.wrap ((IntKind.i64.wrap ((IntKind.i64.wrap ((IntKind.i64.wrap ((IntKind.i64.wrap (l + 1)) + 1)) + 1)) + 1)) + 1)) + 1)), ((Int.tmod (IntKind.i64.wrap ((IntKind.i64.wrap ((IntKind.i64.wrap ((IntKind.i64.wrap ((IntKind.i64.wrap ((IntKind.i64.wrap ((IntKind.i64.wrap (l + 1)) + 1)) + 1)) + 1)) + 1)) + 1)) + 1)) 3) == 0), (mkL mkEEntry ei.entries (IntKind.i64.wrap ((IntKind.i64.wrap ((IntKind.i64.wrap ((IntKind.i64.wrap ((IntKind.i64.wrap ((IntKind.i64.wrap ((IntKind.i64.wrap ((IntKind.i64.wrap (l + 1)) + 1)) + 1)) + 1)) + 1)) + 1)) + 1)) + 1))).1, (mkL mkI ei.conf ((mkL mkEEntry ei.entries (IntKind.i64.wrap ((IntKind.i64.wrap ((IntKind.i64.wrap ((IntKind.i64.wrap ((IntKind.i64.wrap ((IntKind.i64.wrap ((IntKind.i64.wrap ((IntKind.i64.wrap (l + 1)) + 1)) + 1)) + 1)) + 1)) + 1)) + 1)) + 1))).2)).1, (mtext ((mkL mkI ei.conf ((mkL mkEEntry ei.entries (IntKind.i64.wrap ((IntKind.i64.wrap ((IntKind.i64.wrap ((IntKind.i64.wrap ((IntKind.i64.wrap ((IntKind.i64.wrap ((IntKind.i64.wrap ((IntKind.i64.wrap (l + 1)) + 1)) + 1)) + 1)) + 1)) + 1)) + 1)) + 1))).2)).2)), ((Int.tmod (IntKind.i64.wrap (((mkL mkI ei.conf ((mkL mkEEntry ei.entries (IntKind.i64.wrap ((IntKind.i64.wrap ((IntKind.i64.wrap ((IntKind.i64.wrap ((IntKind.i64.wrap ((IntKind.i64.wrap ((IntKind.i64.wrap ((IntKind.i64.wrap (l + 1)) + 1)) + 1)) + 1)) + 1)) + 1)) + 1)) + 1))).2)).2) + 1)) 3) == 0)⟩ : Message)) ((IntKind.i64.wrap ((IntKind.i64.wrap (((mkL mkI ei.conf ((mkL mkEEntry ei.entries (IntKind.i64.wrap ((IntKind.i64.wrap ((IntKind.i64.wrap ((IntKind.i64.wrap ((IntKind.i64.wrap ((IntKind.i64.wrap ((IntKind.i64.wrap ((IntKind.i64.wrap (l + 1)) + 1)) + 1)) + 1)) + 1)) + 1)) + 1)) + 1))).2)).2) + 1)) + 1))) hei hlen hdr hr (by first | rfl | simp only [List.set_set]) rfl (by first | exact wrap_le _ | (apply mkL_le; assumption)), rfl, Le.c rfl <| Le.c rfl <| Le.c rfl <| Le.e⟩
 ·skip
  have hii : b.length ≤ i := by have := h1; simp at this; first | exact this | omega | (simp; done) | (simp; omega)
  have hdi : b.drop i = [] := List.drop_eq_nil_of_le hii
  refine CW.exit ?_
  refine CW.keep 102 [0,1] rfl ?_;(conv=>whnf);refine ⟨?_⟩
  refine CW.k XK 102 1 [0,4] rfl ?_
  (conv=>whnf);refine ⟨rfl,?_⟩
  refine CW.ret ?_
  exact Post.one (RV.i rfl (by rw [← hr, ← hdr, hdi]; rfl)) (AOs.w (by show _ = D.w _ _; exact congrArg (fun l => D.w (sl _ Message.c l) _) (by rw [← hr, ← hdr, hdi]; show b = b.take i ++ []; rw [List.append_nil, List.take_of_length_le hii])) (AOs.r AOs.e))
set_option maxHeartbeats 4000000 in
theorem laws_heldMessageS_fn (a : List Message) (k : Int) (hk : k ≤ 9223372036854775807) : Eng.Fn E.P 37 [.one (.r (sl 12 Message.c a)), .one (.r (.v (.int .i64 k)))] (.one (.one (.w (.v (.int .i64 ((hdL hdEMessage a k).getD (-1))))))) [.one (.r (sl 12 Message.c a)), .one (.r (.v (.int .i64 k)))] := by
 refine Eng.Fn.intro (E := E) (rvs := [.tmp 4]) Try.func37 rfl rfl rfl (by simp [outSlots, moved, rvSlot, sl]) ?_
 intro B g bo
 refine CW.bound (x := .tmp 0) (n := a.length) (AsT.r) (fun hl0 => ?_)
 refine CW.keep 126 [0,1] rfl ?_;(conv=>whnf);refine ⟨?_⟩
 refine CW.k XK 126 1 [0,1] rfl ?_
 (conv=>whnf);refine ⟨rfl,?_⟩
 refine CW.seq ?_
 refine CW.k XK 126 1 [0,1,5] rfl ?_
 (conv=>whnf);refine ⟨rfl,?_⟩
 refine CW.block ?_
 refine CW.loopI 126 (fun (zz : Nat × Int) => match zz with | (i, l) => [(0, .r (sl 12 Message.c a)), (1, I l), (5, I (i : Int))]) (fun (zz : Nat × Int) => match zz with | (i, l) => i ≤ a.length ∧ l ≤ 9223372036854775807 ∧ hdL hdEMessage (a.drop i) l = hdL hdEMessage a k) (fun (zz : Nat × Int) => match zz with | (i, l) => a.length - i) (0, _) rfl (Le.c rfl <| Le.c rfl <| Le.c rfl <| Le.e) ⟨by omega, hk, by simp⟩ ?_
 rintro ⟨i, l⟩ ⟨hb, hlk, hr⟩
 refine CW.seq ?_
 refine CW.k XK 126 1 [0,1,5,9] rfl ?_
 (conv=>whnf);refine ⟨rfl,?_⟩
 refine CW.cond rfl (fun h1 => ?_) (fun h1 => ?_)
 ·skip
  have hii : i < a.length := by have := h1; simp at this; first | exact this | omega | (simp; done) | (simp; omega)
  obtain ⟨ei, hei⟩ : ∃ e, a[i]? = some e := ⟨_, List.getElem?_eq_getElem hii⟩
  have hdi := drop_get hei
  refine CW.skip ?_
  refine CW.keep 126 [0,1,5] rfl ?_;(conv=>whnf);refine ⟨?_⟩
  refine CW.seq ?_
  refine CW.block ?_
  refine CW.seq ?_
  refine CW.seq ?_
  refine CW.region ?_
  refine RW.k XK 126 2 rfl ?_
  (conv=>whnf);refine ⟨rfl,?_⟩
  refine RW.v rfl (V.indexS rfl rfl rfl rfl rfl rfl Message.len hei) ?_
  refine RW.k XK 126 4 rfl ?_
  (conv=>whnf);refine ⟨rfl,?_⟩
  refine RW.nil ?_
  refine CW.keep 126 [0,1,5,18] rfl ?_;(conv=>whnf);refine ⟨?_⟩
  refine CW.cond rfl (fun h2 => ?_) (fun h2 => ?_)
  ·skip
   refine CW.k XK 126 1 [4] rfl ?_
   (conv=>whnf);refine ⟨rfl,?_⟩
   refine CW.ret ?_
   exact Post.one (RV.i rfl (by rw [← hr, hdi]; clear hr; first | rfl | (simp_all [hdL, hdB, hdEEntry, hdEMessage, hdI, hdS, hdN_ok, hdN_bad, inc]; done))) (AOs.r (AOs.r AOs.e))
  ·skip
   refine CW.skip ?_
   refine CW.keep 126 [0,1,5] rfl ?_;(conv=>whnf);refine ⟨?_⟩
   refine CW.k XK 126 1 [0,1,5] rfl ?_
   (conv=>whnf);refine ⟨rfl,?_⟩
   refine CW.seq ?_
   refine CW.seq ?_
   refine CW.region ?_
   refine RW.k XK 126 2 rfl ?_
   (conv=>whnf);refine ⟨rfl,?_⟩
   refine RW.v rfl (V.indexS rfl rfl rfl rfl rfl rfl Message.len hei) ?_
   refine RW.k XK 126 4 rfl ?_
   (conv=>whnf);refine ⟨rfl,?_⟩
   refine RW.nil ?_
   refine CW.keep 126 [0,1,5,27] rfl ?_;(conv=>whnf);refine ⟨?_⟩
   refine CW.cond rfl (fun h3 => ?_) (fun h3 => ?_)
   ·skip
    refine CW.k XK 126 1 [4] rfl ?_
    (conv=>whnf);refine ⟨rfl,?_⟩
    refine CW.ret ?_
    exact Post.one (RV.i rfl (by rw [← hr, hdi]; clear hr; first | rfl | (simp_all [hdL, hdB, hdEEntry, hdEMessage, hdI, hdS, hdN_ok, hdN_bad, inc]; done))) (AOs.r (AOs.r AOs.e))
   ·skip
    refine CW.skip ?_
    refine CW.keep 126 [0,1,5] rfl ?_;(conv=>whnf);refine ⟨?_⟩
    refine CW.k XK 126 1 [0,1,5] rfl ?_
    (conv=>whnf);refine ⟨rfl,?_⟩
    refine CW.seq ?_
    refine CW.seq ?_
    refine CW.region ?_
    refine RW.k XK 126 2 rfl ?_
    (conv=>whnf);refine ⟨rfl,?_⟩
    refine RW.v rfl (V.indexS rfl rfl rfl rfl rfl rfl Message.len hei) ?_
    refine RW.k XK 126 4 rfl ?_
    (conv=>whnf);refine ⟨rfl,?_⟩
    refine RW.nil ?_
    refine CW.keep 126 [0,1,5,36] rfl ?_;(conv=>whnf);refine ⟨?_⟩
    refine CW.cond rfl (fun h4 => ?_) (fun h4 => ?_)
    ·skip
     refine CW.k XK 126 1 [4] rfl ?_
     (conv=>whnf);refine ⟨rfl,?_⟩
     refine CW.ret ?_
     exact Post.one (RV.i rfl (by rw [← hr, hdi]; clear hr; first | rfl | (simp_all [hdL, hdB, hdEEntry, hdEMessage, hdI, hdS, hdN_ok, hdN_bad, inc]; done))) (AOs.r (AOs.r AOs.e))
    ·skip
     refine CW.skip ?_
     refine CW.keep 126 [0,1,5] rfl ?_;(conv=>whnf);refine ⟨?_⟩
     refine CW.k XK 126 1 [0,1,5] rfl ?_
     (conv=>whnf);refine ⟨rfl,?_⟩
     refine CW.seq ?_
     refine CW.seq ?_
     refine CW.region ?_
     refine RW.k XK 126 2 rfl ?_
     (conv=>whnf);refine ⟨rfl,?_⟩
     refine RW.v rfl (V.indexS rfl rfl rfl rfl rfl rfl Message.len hei) ?_
     refine RW.k XK 126 4 rfl ?_
     (conv=>whnf);refine ⟨rfl,?_⟩
     refine RW.nil ?_
     refine CW.keep 126 [0,1,5,45] rfl ?_;(conv=>whnf);refine ⟨?_⟩
     refine CW.cond rfl (fun h5 => ?_) (fun h5 => ?_)
     ·skip
      refine CW.k XK 126 1 [4] rfl ?_
      (conv=>whnf);refine ⟨rfl,?_⟩
      refine CW.ret ?_
      exact Post.one (RV.i rfl (by rw [← hr, hdi]; clear hr; first | rfl | (simp_all [hdL, hdB, hdEEntry, hdEMessage, hdI, hdS, hdN_ok, hdN_bad, inc]; done))) (AOs.r (AOs.r AOs.e))
     ·skip
      refine CW.skip ?_
      refine CW.keep 126 [0,1,5] rfl ?_;(conv=>whnf);refine ⟨?_⟩
      refine CW.k XK 126 1 [0,1,5] rfl ?_
      (conv=>whnf);refine ⟨rfl,?_⟩
      refine CW.seq ?_
      refine CW.seq ?_
      refine CW.region ?_
      refine RW.k XK 126 2 rfl ?_
      (conv=>whnf);refine ⟨rfl,?_⟩
      refine RW.v rfl (V.indexS rfl rfl rfl rfl rfl rfl Message.len hei) ?_
      refine RW.k XK 126 4 rfl ?_
      (conv=>whnf);refine ⟨rfl,?_⟩
      refine RW.nil ?_
      refine CW.keep 126 [0,1,5,54] rfl ?_;(conv=>whnf);refine ⟨?_⟩
      refine CW.cond rfl (fun h6 => ?_) (fun h6 => ?_)
      ·skip
       refine CW.k XK 126 1 [4] rfl ?_
       (conv=>whnf);refine ⟨rfl,?_⟩
       refine CW.ret ?_
       exact Post.one (RV.i rfl (by rw [← hr, hdi]; clear hr; first | rfl | (simp_all [hdL, hdB, hdEEntry, hdEMessage, hdI, hdS, hdN_ok, hdN_bad, inc]; done))) (AOs.r (AOs.r AOs.e))
      ·skip
       refine CW.skip ?_
       refine CW.keep 126 [0,1,5] rfl ?_;(conv=>whnf);refine ⟨?_⟩
       refine CW.k XK 126 1 [0,1,5] rfl ?_
       (conv=>whnf);refine ⟨rfl,?_⟩
       refine CW.seq ?_
       refine CW.seq ?_
       refine CW.region ?_
       refine RW.k XK 126 2 rfl ?_
       (conv=>whnf);refine ⟨rfl,?_⟩
       refine RW.v rfl (V.indexS rfl rfl rfl rfl rfl rfl Message.len hei) ?_
       refine RW.k XK 126 4 rfl ?_
       (conv=>whnf);refine ⟨rfl,?_⟩
       refine RW.nil ?_
       refine CW.keep 126 [0,1,5,63] rfl ?_;(conv=>whnf);refine ⟨?_⟩
       refine CW.cond rfl (fun h7 => ?_) (fun h7 => ?_)
       ·skip
        refine CW.k XK 126 1 [4] rfl ?_
        (conv=>whnf);refine ⟨rfl,?_⟩
        refine CW.ret ?_
        exact Post.one (RV.i rfl (by rw [← hr, hdi]; clear hr; first | rfl | (simp_all [hdL, hdB, hdEEntry, hdEMessage, hdI, hdS, hdN_ok, hdN_bad, inc]; done))) (AOs.r (AOs.r AOs.e))
       ·skip
        refine CW.skip ?_
        refine CW.keep 126 [0,1,5] rfl ?_;(conv=>whnf);refine ⟨?_⟩
        refine CW.k XK 126 1 [0,1,5] rfl ?_
        (conv=>whnf);refine ⟨rfl,?_⟩
        refine CW.seq ?_
        refine CW.seq ?_
        refine CW.region ?_
        refine RW.k XK 126 2 rfl ?_
        (conv=>whnf);refine ⟨rfl,?_⟩
        refine RW.v rfl (V.indexS rfl rfl rfl rfl rfl rfl Message.len hei) ?_
        refine RW.k XK 126 4 rfl ?_
        (conv=>whnf);refine ⟨rfl,?_⟩
        refine RW.nil ?_
        refine CW.keep 126 [0,1,5,72] rfl ?_;(conv=>whnf);refine ⟨?_⟩
        refine CW.cond rfl (fun h8 => ?_) (fun h8 => ?_)
        ·skip
         refine CW.k XK 126 1 [4] rfl ?_
         (conv=>whnf);refine ⟨rfl,?_⟩
         refine CW.ret ?_
         exact Post.one (RV.i rfl (by rw [← hr, hdi]; clear hr; first | rfl | (simp_all [hdL, hdB, hdEEntry, hdEMessage, hdI, hdS, hdN_ok, hdN_bad, inc]; done))) (AOs.r (AOs.r AOs.e))
        ·skip
         refine CW.skip ?_
         refine CW.keep 126 [0,1,5] rfl ?_;(conv=>whnf);refine ⟨?_⟩
         refine CW.k XK 126 1 [0,1,5] rfl ?_
         (conv=>whnf);refine ⟨rfl,?_⟩
         refine CW.seq ?_
         refine CW.seq ?_
         refine CW.region ?_
         refine RW.k XK 126 2 rfl ?_
         (conv=>whnf);refine ⟨rfl,?_⟩
         refine RW.v rfl (V.indexS rfl rfl rfl rfl rfl rfl Message.len hei) ?_
         refine RW.k XK 126 5 rfl ?_
         (conv=>whnf);refine ⟨rfl,?_⟩
         refine RW.v rfl (V.eqBool rfl rfl rfl (by kernel_rfl) (.inr ⟨rfl, rfl⟩)) ?_
         refine RW.nil ?_
         refine CW.keep 126 [0,1,5,83] rfl ?_;(conv=>whnf);refine ⟨?_⟩
         refine CW.cond rfl (fun h9 => ?_) (fun h9 => ?_)
         ·skip
          refine CW.k XK 126 1 [4] rfl ?_
          (conv=>whnf);refine ⟨rfl,?_⟩
          refine CW.ret ?_
          exact Post.one (RV.i rfl (by rw [← hr, hdi]; clear hr; first | rfl | (simp_all [hdL, hdB, hdEEntry, hdEMessage, hdI, hdS, hdN_ok, hdN_bad, inc]; done))) (AOs.r (AOs.r AOs.e))
         ·skip
          refine CW.skip ?_
          refine CW.keep 126 [0,1,5] rfl ?_;(conv=>whnf);refine ⟨?_⟩
          refine CW.k XK 126 1 [0,1,5] rfl ?_
          (conv=>whnf);refine ⟨rfl,?_⟩
          refine CW.seq ?_
          refine CW.region ?_
          refine RW.k XK 126 2 rfl ?_
          (conv=>whnf);refine ⟨rfl,?_⟩
          refine RW.v rfl (V.indexS rfl rfl rfl rfl rfl rfl Message.len hei) ?_
          refine RW.k XK 126 3 rfl ?_
          (conv=>whnf);refine ⟨rfl,?_⟩
          refine RW.call rfl (laws_heldEntryS_fn ei.entries (IntKind.i64.wrap ((IntKind.i64.wrap ((IntKind.i64.wrap ((IntKind.i64.wrap ((IntKind.i64.wrap ((IntKind.i64.wrap ((IntKind.i64.wrap ((IntKind.i64.wrap (l + 1)) + 1)) + 1)) + 1)) + 1)) + 1)) + 1)) + 1)) (by repeat (first | exact hlk | exact wrap_le _ | apply leD | apply hdL_le | apply hdN_le | exact hdI_le | exact hdS_le | exact hdB_le | exact hdEEntry_le | exact hdEPeer_le | exact hdEMessage_le))) rfl (.cons (.one (.r .r)) (.cons (.one (.r .r)) (.nil))) fun g10 => ?_
          refine RW.k XK 126 1 rfl ?_
          (conv=>whnf);refine ⟨rfl,?_⟩
          refine RW.nil ?_
          refine CW.keep 126 [0,1,5] rfl ?_;(conv=>whnf);refine ⟨?_⟩
          refine CW.seq ?_
          refine CW.k XK 126 1 [0,1,5,94] rfl ?_
          (conv=>whnf);refine ⟨rfl,?_⟩
          refine CW.cond rfl (fun h11 => ?_) (fun h11 => ?_)
          ·skip
           refine CW.k XK 126 1 [4] rfl ?_
           (conv=>whnf);refine ⟨rfl,?_⟩
           refine CW.ret ?_
           exact Post.one (RV.i rfl (by rw [← hr, hdi]; clear hr; first | rfl | (simp_all [hdL, hdB, hdEEntry, hdEMessage, hdI, hdS, hdN_ok, hdN_bad, inc]; done))) (AOs.r (AOs.r AOs.e))
          ·skip
           refine CW.skip ?_
           refine CW.keep 126 [0,1,5] rfl ?_;(conv=>whnf);refine ⟨?_⟩
           refine CW.seq ?_
           refine CW.region ?_
           refine RW.k XK 126 2 rfl ?_
           (conv=>whnf);refine ⟨rfl,?_⟩
           refine RW.v rfl (V.indexS rfl rfl rfl rfl rfl rfl Message.len hei) ?_
           refine RW.k XK 126 3 rfl ?_
           (conv=>whnf);refine ⟨rfl,?_⟩
           refine RW.call rfl (laws_heldIntS_fn ei.conf ((hdL hdEEntry ei.entries (IntKind.i64.wrap ((IntKind.i64.wrap ((IntKind.i64.wrap ((IntKind.i64.wrap ((IntKind.i64.wrap ((IntKind.i64.wrap ((IntKind.i64.wrap ((IntKind.i64.wrap (l + 1)) + 1)) + 1)) + 1)) + 1)) + 1)) + 1)) + 1))).getD (-1)) (by repeat (first | exact hlk | exact wrap_le _ | apply leD | apply hdL_le | apply hdN_le | exact hdI_le | exact hdS_le | exact hdB_le | exact hdEEntry_le | exact hdEPeer_le | exact hdEMessage_le))) rfl (.cons (.one (.r .r)) (.cons (.one (.r .r)) (.nil))) fun g12 => ?_
           refine RW.k XK 126 1 rfl ?_
           (conv=>whnf);refine ⟨rfl,?_⟩
           refine RW.nil ?_
           refine CW.keep 126 [0,1,5] rfl ?_;(conv=>whnf);refine ⟨?_⟩
           refine CW.seq ?_
           refine CW.k XK 126 1 [0,1,5,103] rfl ?_
           (conv=>whnf);refine ⟨rfl,?_⟩
           refine CW.cond rfl (fun h13 => ?_) (fun h13 => ?_)
           ·skip
            refine CW.k XK 126 1 [4] rfl ?_
            (conv=>whnf);refine ⟨rfl,?_⟩
            refine CW.ret ?_
            exact Post.one (RV.i rfl (by rw [← hr, hdi]; clear hr; first | rfl | (simp_all [hdL, hdB, hdEEntry, hdEMessage, hdI, hdS, hdN_ok, hdN_bad, inc]; done))) (AOs.r (AOs.r AOs.e))
           ·skip
            refine CW.skip ?_
            refine CW.keep 126 [0,1,5] rfl ?_;(conv=>whnf);refine ⟨?_⟩
            refine CW.seq ?_
            refine CW.anyJ2 (fc := []) (L0 := [(0, .r (sl 12 Message.c a)), (1, I ((hdL hdI ei.conf ((hdL hdEEntry ei.entries (IntKind.i64.wrap ((IntKind.i64.wrap ((IntKind.i64.wrap ((IntKind.i64.wrap ((IntKind.i64.wrap ((IntKind.i64.wrap ((IntKind.i64.wrap ((IntKind.i64.wrap (l + 1)) + 1)) + 1)) + 1)) + 1)) + 1)) + 1)) + 1))).getD (-1))).getD (-1))), (5, I (i : Int))]) 126 (fun (go14_6_1 : (Nat → Nat → Value)) => [(111, Bo (!(ei.data.toList == (mtext ((hdL hdI ei.conf ((hdL hdEEntry ei.entries (IntKind.i64.wrap ((IntKind.i64.wrap ((IntKind.i64.wrap ((IntKind.i64.wrap ((IntKind.i64.wrap ((IntKind.i64.wrap ((IntKind.i64.wrap ((IntKind.i64.wrap (l + 1)) + 1)) + 1)) + 1)) + 1)) + 1)) + 1)) + 1))).getD (-1))).getD (-1))).toList)))]) (fun all hall f hf b0 hb K hK => ?_) ?_
            ·skip
             have ro14_1 : ∀ B, ∀ (go14_6_1 : Nat → Nat → Value), RA f E B all 0 (bt 8 255) ⟨126, [(111, Bo (!(ei.data.toList == (mtext ((hdL hdI ei.conf ((hdL hdEEntry ei.entries (IntKind.i64.wrap ((IntKind.i64.wrap ((IntKind.i64.wrap ((IntKind.i64.wrap ((IntKind.i64.wrap ((IntKind.i64.wrap ((IntKind.i64.wrap ((IntKind.i64.wrap (l + 1)) + 1)) + 1)) + 1)) + 1)) + 1)) + 1)) + 1))).getD (-1))).getD (-1))).toList)))] ++ b0⟩ K := by
              intro B go14_6_1
              exact RA.of2 hall hf hb (RA.finH (Tell.of rfl) (by kernel_rfl) (hK go14_6_1 _ rfl (Le.of rfl)))
             have ro14_0 : ∀ B, RA f E B all 2 (bt 8 63) ⟨126, [(108, S ei.data), (109, I ((hdL hdI ei.conf ((hdL hdEEntry ei.entries (IntKind.i64.wrap ((IntKind.i64.wrap ((IntKind.i64.wrap ((IntKind.i64.wrap ((IntKind.i64.wrap ((IntKind.i64.wrap ((IntKind.i64.wrap ((IntKind.i64.wrap (l + 1)) + 1)) + 1)) + 1)) + 1)) + 1)) + 1)) + 1))).getD (-1))).getD (-1)))] ++ b0⟩ K := by
              intro B
              refine RA.of2 hall hf hb (RA.stepH (L := [6]) (Tell.of rfl) (by kernel_rfl) (by simp) (RA.each ?_ (RA.each0)))
              ·skip
               refine RO.call rfl rfl (laws_markText_fn ((hdL hdI ei.conf ((hdL hdEEntry ei.entries (IntKind.i64.wrap ((IntKind.i64.wrap ((IntKind.i64.wrap ((IntKind.i64.wrap ((IntKind.i64.wrap ((IntKind.i64.wrap ((IntKind.i64.wrap ((IntKind.i64.wrap (l + 1)) + 1)) + 1)) + 1)) + 1)) + 1)) + 1)) + 1))).getD (-1))).getD (-1)) (by repeat (first | exact hlk | exact wrap_le _ | apply leD | apply hdL_le | apply hdN_le | exact hdI_le | exact hdS_le | exact hdB_le | exact hdEEntry_le | exact hdEPeer_le | exact hdEMessage_le))) rfl (.cons (.one (.r .r)) (.nil)) rfl fun go14_6_1 => ?_
               refine RA.fr XK 126 0 [7] (bt 8 255) rfl rfl (by kernel_rfl) (Tell.of rfl) ?_
               (conv=>whnf);refine ⟨rfl,fun B=>?_⟩
               exact RA.to2 hall hf hb (ro14_1 B go14_6_1) rfl rfl (by kernel_rfl)
             refine RA.start (by kernel_rfl) (by kernel_rfl) (m := 8) (ls' := (bt 8 0)) ?_
             refine RA.fr XK 126 6 [0,1] (bt 8 3) rfl rfl (by kernel_rfl) (Tell.of rfl) ?_
             (conv=>whnf);refine ⟨rfl,fun B=>?_⟩
             refine RA.first (i := 2) (ls' := (bt 8 7)) (Tell.of rfl) (by kernel_rfl) rfl rfl rfl (VF.p (V.indexS rfl rfl rfl rfl rfl rfl Message.len hei)) ?_
             refine RA.fr XK 126 2 [3,4,5] (bt 8 63) rfl rfl (by kernel_rfl) (Tell.of rfl) ?_
             (conv=>whnf);refine ⟨rfl,fun B=>?_⟩
             exact RA.to2 hall hf hb (ro14_0 B) rfl rfl (by kernel_rfl)
            ·rintro go14_6_1
             refine CW.cond rfl (fun h15 => ?_) (fun h15 => ?_)
             ·skip
              refine CW.k XK 126 1 [4] rfl ?_
              (conv=>whnf);refine ⟨rfl,?_⟩
              refine CW.ret ?_
              exact Post.one (RV.i rfl (by rw [← hr, hdi]; clear hr; first | rfl | (simp_all [hdL, hdB, hdEEntry, hdEMessage, hdI, hdS, hdN_ok, hdN_bad, inc]; done))) (AOs.r (AOs.r AOs.e))
             ·skip
              refine CW.skip ?_
              refine CW.keep 126 [0,1,5] rfl ?_;(conv=>whnf);refine ⟨?_⟩
              refine CW.k XK 126 1 [0,1,5] rfl ?_
              (conv=>whnf);refine ⟨rfl,?_⟩
              refine CW.seq ?_
              refine CW.seq ?_
              refine CW.region ?_
              refine RW.k XK 126 2 rfl ?_
              (conv=>whnf);refine ⟨rfl,?_⟩
              refine RW.v rfl (V.indexS rfl rfl rfl rfl rfl rfl Message.len hei) ?_
              refine RW.k XK 126 5 rfl ?_
              (conv=>whnf);refine ⟨rfl,?_⟩
              refine RW.v rfl (V.eqBool rfl rfl rfl (by kernel_rfl) (.inr ⟨rfl, rfl⟩)) ?_
              refine RW.nil ?_
              refine CW.keep 126 [0,1,5,122] rfl ?_;(conv=>whnf);refine ⟨?_⟩
              refine CW.cond rfl (fun h16 => ?_) (fun h16 => ?_)
              ·skip
               refine CW.k XK 126 1 [4] rfl ?_
               (conv=>whnf);refine ⟨rfl,?_⟩
               refine CW.ret ?_
               exact Post.one (RV.i rfl (by rw [← hr, hdi]; clear hr; first | rfl | (simp_all [hdL, hdB, hdEEntry, hdEMessage, hdI, hdS, hdN_ok, hdN_bad, inc]; done))) (AOs.r (AOs.r AOs.e))
              ·skip
               refine CW.skip ?_
               refine CW.keep 126 [0,1,5] rfl ?_;(conv=>whnf);refine ⟨?_⟩
               refine CW.region ?_
               refine RW.k XK 126 3 rfl ?_
               (conv=>whnf);refine ⟨rfl,?_⟩
               refine RW.nil ?_
               refine CW.keep 126 [0,1,5] rfl ?_;(conv=>whnf);refine ⟨?_⟩
               refine CW.region ?_
               refine RW.k XK 126 1 rfl ?_
               (conv=>whnf);refine ⟨rfl,?_⟩
               refine RW.v rfl (V.inc rfl rfl rfl hii hl0) ?_
               refine RW.k XK 126 1 rfl ?_
               (conv=>whnf);refine ⟨rfl,?_⟩
               refine RW.nil ?_
               exact ⟨(i + 1, _), by simp only []; omega, ⟨by omega, by first | exact wrap_le _ | omega, by rw [← hr, hdi]; clear hr; first | rfl | (simp_all [hdL, hdB, hdEEntry, hdEMessage, hdI, hdS, hdN_ok, hdN_bad, inc]; done)⟩, rfl, Le.c rfl <| Le.c rfl <| Le.c rfl <| Le.e⟩
 ·skip
  have hii : a.length ≤ i := by have := h1; simp at this; first | exact this | omega | (simp; done) | (simp; omega)
  have hdi : a.drop i = [] := List.drop_eq_nil_of_le hii
  refine CW.exit ?_
  refine CW.keep 126 [1] rfl ?_;(conv=>whnf);refine ⟨?_⟩
  refine CW.k XK 126 1 [4] rfl ?_
  (conv=>whnf);refine ⟨rfl,?_⟩
  refine CW.ret ?_
  exact Post.one (RV.i rfl (by rw [← hr, hdi]; clear hr; first | rfl | (simp_all [hdL, hdB, hdEEntry, hdEMessage, hdI, hdS, hdN_ok, hdN_bad, inc]; done))) (AOs.r (AOs.r AOs.e))
end Go.Proofs.Ytbiocicogminlaa.Y
