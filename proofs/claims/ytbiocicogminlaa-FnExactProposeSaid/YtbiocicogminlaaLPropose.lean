/- The program's Propose returns what the reference's returns, for all arguments: no condition. -/
import Derived.Test.YtbiocicogminlaaWPropose
import Derived.Test.YtbiocicogminlaaEng16
import Derived.Test.YtbiocicogminlaaRows
import Derived.WalkKit
import Derived.ProofKit
import Derived.OpenShut
import Derived.ShutString
import Derived.ChangeOld
import Derived.Below
import Derived.Carry
import Derived.SizedLaws
namespace Go.Proofs.Ytbiocicogminlaa.fnExactPropose
open Go Go.RowKit Go.Eng Go.Proofs.Ytbiocicogminlaa.Y Go.ChangeShapes Go.WideShapes Go.ChangeAt
theorem opens3 : Opens Try.prog 3 cI okI := Opens.int Try.underlying3
theorem opens34 : Opens Try.prog 34 (cL 1 cI) (okL okI) := Opens.slice Try.underlying34 (by kernel_rfl) (by decide) cI.len opens3
theorem opens9 : Opens Try.prog 9 cS okS := Opens.str Try.underlying9
theorem opens77 : Opens Try.prog 77 Entry.c okEntry := by
  intro H enc w fuel cs x h
  obtain ⟨xs, n, _, _, hlen, hxl, hf⟩ := DataW.trod_struct Try.underlying77 h
  obtain ⟨v0, o0, r0⟩ := Opens.field opens3 (k := 1) (by kernel_rfl) hxl hf (i := 0) (o := 0) rfl rfl rfl
  obtain ⟨v1, o1, r1⟩ := Opens.field opens3 (k := 1) (by kernel_rfl) hxl hf (i := 1) (o := 1) rfl rfl rfl
  obtain ⟨v2, o2, r2⟩ := Opens.field opens9 (k := 1) (by kernel_rfl) hxl hf (i := 2) (o := 2) rfl rfl rfl
  exact ⟨⟨v0, v1, v2⟩, ⟨o0, o1, o2⟩, RTs_step (o := 0) r0 (RTs_step r1 (RTs_step r2 (RTs_end (hlen.trans (by kernel_rfl)))))⟩
theorem opens35 : Opens Try.prog 35 (cL 3 Entry.c) (okL okEntry) := Opens.slice Try.underlying35 (by kernel_rfl) (by decide) Entry.len opens77
theorem opens37 : Opens Try.prog 37 Log.c okLog := by
  intro H enc w fuel cs x h
  obtain ⟨xs, n, _, _, hlen, hxl, hf⟩ := DataW.trod_struct Try.underlying37 h
  obtain ⟨v0, o0, r0⟩ := Opens.field opens3 (k := 1) (by kernel_rfl) hxl hf (i := 0) (o := 0) rfl rfl rfl
  obtain ⟨v1, o1, r1⟩ := Opens.field opens3 (k := 1) (by kernel_rfl) hxl hf (i := 1) (o := 1) rfl rfl rfl
  obtain ⟨v2, o2, r2⟩ := Opens.field opens35 (k := 1) (by kernel_rfl) hxl hf (i := 2) (o := 2) rfl rfl rfl
  exact ⟨⟨v0, v1, v2⟩, ⟨o0, o1, o2⟩, RTs_step (o := 0) r0 (RTs_step r1 (RTs_step r2 (RTs_end (hlen.trans (by kernel_rfl)))))⟩
theorem opens139 : Opens Try.prog 139 Peer.c okPeer := by
  intro H enc w fuel cs x h
  obtain ⟨xs, n, _, _, hlen, hxl, hf⟩ := DataW.trod_struct Try.underlying139 h
  obtain ⟨v0, o0, r0⟩ := Opens.field opens3 (k := 1) (by kernel_rfl) hxl hf (i := 0) (o := 0) rfl rfl rfl
  obtain ⟨v1, o1, r1⟩ := Opens.field opens3 (k := 1) (by kernel_rfl) hxl hf (i := 1) (o := 1) rfl rfl rfl
  obtain ⟨v2, o2, r2⟩ := Opens.field opens3 (k := 1) (by kernel_rfl) hxl hf (i := 2) (o := 2) rfl rfl rfl
  obtain ⟨v3, o3, r3⟩ := Opens.field opens3 (k := 1) (by kernel_rfl) hxl hf (i := 3) (o := 3) rfl rfl rfl
  exact ⟨⟨v0, v1, v2, v3⟩, ⟨o0, o1, o2, o3⟩, RTs_step (o := 0) r0 (RTs_step r1 (RTs_step r2 (RTs_step r3 (RTs_end (hlen.trans (by kernel_rfl))))))⟩
theorem opens38 : Opens Try.prog 38 (cL 4 Peer.c) (okL okPeer) := Opens.slice Try.underlying38 (by kernel_rfl) (by decide) Peer.len opens139
theorem opens40 : Opens Try.prog 40 Node.c okNode := by
  intro H enc w fuel cs x h
  obtain ⟨xs, n, _, _, hlen, hxl, hf⟩ := DataW.trod_struct Try.underlying40 h
  obtain ⟨v0, o0, r0⟩ := Opens.field opens3 (k := 1) (by kernel_rfl) hxl hf (i := 0) (o := 0) rfl rfl rfl
  obtain ⟨v1, o1, r1⟩ := Opens.field opens3 (k := 1) (by kernel_rfl) hxl hf (i := 1) (o := 1) rfl rfl rfl
  obtain ⟨v2, o2, r2⟩ := Opens.field opens3 (k := 1) (by kernel_rfl) hxl hf (i := 2) (o := 2) rfl rfl rfl
  obtain ⟨v3, o3, r3⟩ := Opens.field opens3 (k := 1) (by kernel_rfl) hxl hf (i := 3) (o := 3) rfl rfl rfl
  obtain ⟨v4, o4, r4⟩ := Opens.field opens3 (k := 1) (by kernel_rfl) hxl hf (i := 4) (o := 4) rfl rfl rfl
  obtain ⟨v5, o5, r5⟩ := Opens.field opens34 (k := 1) (by kernel_rfl) hxl hf (i := 5) (o := 5) rfl rfl rfl
  obtain ⟨v6, o6, r6⟩ := Opens.field opens37 (k := 3) (by kernel_rfl) hxl hf (i := 6) (o := 6) rfl rfl rfl
  obtain ⟨v7, o7, r7⟩ := Opens.field opens3 (k := 1) (by kernel_rfl) hxl hf (i := 7) (o := 9) rfl rfl rfl
  obtain ⟨v8, o8, r8⟩ := Opens.field opens3 (k := 1) (by kernel_rfl) hxl hf (i := 8) (o := 10) rfl rfl rfl
  obtain ⟨v9, o9, r9⟩ := Opens.field opens3 (k := 1) (by kernel_rfl) hxl hf (i := 9) (o := 11) rfl rfl rfl
  obtain ⟨v10, o10, r10⟩ := Opens.field opens34 (k := 1) (by kernel_rfl) hxl hf (i := 10) (o := 12) rfl rfl rfl
  obtain ⟨v11, o11, r11⟩ := Opens.field opens38 (k := 1) (by kernel_rfl) hxl hf (i := 11) (o := 13) rfl rfl rfl
  exact ⟨⟨v0, v1, v2, v3, v4, v5, v6, v7, v8, v9, v10, v11⟩, ⟨o0, o1, o2, o3, o4, o5, o6, o7, o8, o9, o10, o11⟩, RTs_step (o := 0) r0 (RTs_step r1 (RTs_step r2 (RTs_step r3 (RTs_step r4 (RTs_step r5 (RTs_step r6 (RTs_step r7 (RTs_step r8 (RTs_step r9 (RTs_step r10 (RTs_step r11 (RTs_end (hlen.trans (by kernel_rfl))))))))))))))⟩
theorem own : ownKnob Try.prog.godebug = none := by kernel_rfl
theorem laidOut : laidOutB Try.prog = true := by kernel_rfl
set_option maxRecDepth 100000 in
theorem lifted (os : Os) (started : os.Started) (H : Type) (enc : TypeId × Value → H) :
    ReturnsInHanded {} Try.checked os 7 .any (Rows.fnExactProposeSpec.pre6 enc Try.prog Try.f7 Rows.fnExactProposeRow.domain false) (Rows.fnExactProposeSpec.post enc Try.prog Try.f7 false true false false) := by
  refine returnsInHanded_of_change_sized (C := Try.checked) own started (by kernel_rfl) Try.func7
    (ChangeSpec.witness6 (enc := enc) (C := Try.checked) false ⟨#[], #[.agg #[.int .i64 0, .int .i64 0, .int .i64 0, .int .i64 0, .int .i64 0, .slice none 0 0, .int .i64 0, .int .i64 0, .slice none 0 0, .int .i64 0, .int .i64 0, .int .i64 0, .slice none 0 0, .slice none 0 0], .int .i64 0, .string ⟨#[]⟩], []⟩ 8 (by kernel_rfl) (by kernel_rfl) (by kernel_rfl) (by kernel_rfl)) ?_
  intro W base args ds gs before hval0 hW hcnd hsz0 _
  have hval : ∀ (j : Nat) t v, Try.f7.params[j]? = some t → args[j]? = some v → Value.okWide Try.prog W .any base t v := hval0
  have hW' := hW
  obtain ⟨p, q, hA0, hV, rfl, hfz, hnd⟩ := hW
  have hA : DataW.TrodAll enc Try.prog W 0 (fun _ => true) true Try.f7.params.toList args.toList ds p := hA0
  rw [Try.params7] at hA hval
  obtain ⟨v0, vs0, d0, ds0, p0, q0, hargs, rfl, rfl, h0, r0⟩ := trodAll_cons hA
  obtain ⟨v1, vs1, d1, ds1, p1, q1, rfl, rfl, rfl, h1, r1⟩ := trodAll_cons r0
  obtain ⟨v2, vs2, d2, ds2, p2, q2, rfl, rfl, rfl, h2, r2⟩ := trodAll_cons r1
  obtain ⟨rfl, rfl, rfl⟩ := trodAll_nil r2
  obtain rfl : args = #[v0, v1, v2] := by cases args; simp_all
  obtain ⟨rfl, rfl⟩ := trodVars_none hV
  obtain ⟨c0, rfl, _⟩ := okWide_struct Try.underlying40 (hval 0 40 v0 rfl rfl)
  obtain ⟨x0, k0, t0⟩ := Opens.agg opens40 h0
  have lt0 : ∀ x ∈ p0, x.block < W.heap.size := by obtain ⟨m, hm⟩ := h0; exact DataW.trod_lt m _ _ _ hm
  obtain ⟨x10, rfl⟩ := okWide_int Try.underlying3 (hval 1 3 v1 rfl rfl)
  obtain ⟨x1, k1, t1⟩ := Opens.one opens3 (fun _ => rfl) rfl h1
  have lt1 : ∀ x ∈ p1, x.block < W.heap.size := by obtain ⟨m, hm⟩ := h1; exact DataW.trod_lt m _ _ _ hm
  obtain ⟨x20, rfl⟩ := okWide_string Try.underlying9 (hval 2 9 v2 rfl rfl)
  obtain ⟨x2, k2, t2⟩ := Opens.one opens9 (fun _ => rfl) rfl h2
  have lt2 : ∀ x ∈ p2, x.block < W.heap.size := by obtain ⟨m, hm⟩ := h2; exact DataW.trod_lt m _ _ _ hm
  clear hA0 hval0 hsz0
  refine ((laws_FnExactPropose_fn x0 x1 x2 k0).2 W [_, _, _] [] (fx W []) (fun b hb => hb) ⟨_, _, [], [], rfl, rfl, t0, ⟨_, _, [], [], rfl, rfl, ⟨t1, rfl⟩, ⟨_, _, [], [], rfl, rfl, ⟨t2, rfl⟩, ⟨rfl, rfl⟩⟩⟩⟩ (by simp) (by simp)).mono fun e W' ⟨x, b1, b2, he, hs, hr, _⟩ => ?_
  have bel := hs.below
  subst he
  simp only [OR, OR1, CR, OT] at hr
  obtain ⟨rfl, _⟩ := hr
  exact ⟨_, rfl, _, _, _, [], _, [], hW', trodAll_mk1 (shut_bool Try.underlying4 _), (trodAll_cons_mk (Below.trod laidOut (by kernel_rfl) (of_decide_eq_true (by kernel_rfl)) h0 bel lt0) (trodAll_cons_mk (Below.trod laidOut (by kernel_rfl) (of_decide_eq_true (by kernel_rfl)) h1 bel lt1) (trodAll_cons_mk (Below.trod laidOut (by kernel_rfl) (of_decide_eq_true (by kernel_rfl)) h2 bel lt2) trodAll_mk0))), rfl, bel.frame _, fun h => by cases h⟩
theorem over : Rows.fnExactProposeRow.holds Try.pinned (OpenSpec.ofChange Rows.fnExactProposeSpec) :=
  OpenClaim.holds_of_wide 7 Try.f7 rfl rfl rfl rfl rfl rfl rfl ⟨rfl, rfl, rfl, rfl, rfl⟩ rfl rfl rfl rfl rfl (by kernel_rfl) Try.func7 (by kernel_rfl)
    (of_decide_eq_true (by kernel_rfl)) (by unfold Func.isWrapper; first | (rw [if_pos (by decide +kernel)]; kernel_rfl) | (rw [if_neg (by decide +kernel)]; exact ⟨rfl, rfl⟩))
    (fun os started H enc _ => lifted os started H enc)
theorem proved : Rows.FnExactProposeSaid := over
#print axioms proved
end Go.Proofs.Ytbiocicogminlaa.fnExactPropose
