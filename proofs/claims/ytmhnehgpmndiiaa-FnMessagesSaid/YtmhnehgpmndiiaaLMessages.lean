/- a drawn right message comes back from its bytes; what is read is just what would be written. (P17) -/
import Derived.Test.YtmhnehgpmndiiaaWMessages
import Derived.Test.YtmhnehgpmndiiaaEng16
import Derived.Test.YtmhnehgpmndiiaaRows
import Derived.WalkKit
import Derived.ProofKit
import Derived.OpenShut
import Derived.ShutString
import Derived.ChangeOld
import Derived.Below
import Derived.Carry
import Derived.SizedLaws
namespace Go.Proofs.Ytmhnehgpmndiiaa.fnMessages
open Go Go.RowKit Go.Eng Go.Proofs.Ytmhnehgpmndiiaa.Y Go.ChangeShapes Go.WideShapes Go.ChangeAt
def okU (n : Int) : Prop := (Lit.int .u8 n).wf = true
theorem opensU {P : Program} {t : TypeId} (ht : P.underlying t = some (.int .u8)) : Opens P t cU okU := by
  intro H enc w fuel cs x h
  obtain ⟨n, rfl, _, hw⟩ := DataW.trod_int ht h
  exact ⟨n, hw, _, [], rfl, by simp [RT], rfl⟩
theorem opens5 : Opens Try.prog 5 cU okU := opensU Try.underlying5
theorem opens31 : Opens Try.prog 31 (cL 1 cU) (okL okU) := Opens.slice Try.underlying31 (by kernel_rfl) (by decide) cU.len opens5
theorem own : ownKnob Try.prog.godebug = none := by kernel_rfl
theorem laidOut : laidOutB Try.prog = true := by kernel_rfl
set_option maxRecDepth 100000 in
theorem lifted (os : Os) (started : os.Started) (H : Type) (enc : TypeId × Value → H) :
    ReturnsInHanded {} Try.checked os 4 .any (Rows.fnMessagesSpec.pre6 enc Try.prog Try.f4 Rows.fnMessagesRow.domain false) (Rows.fnMessagesSpec.post enc Try.prog Try.f4 false true false false) := by
  refine returnsInHanded_of_change_sized (C := Try.checked) own started (by kernel_rfl) Try.func4
    (ChangeSpec.witness6 (enc := enc) (C := Try.checked) false ⟨#[], #[.slice none 0 0], []⟩ 8 (by kernel_rfl) (by kernel_rfl) (by kernel_rfl) (by kernel_rfl)) ?_
  intro W base args ds gs before hval0 hW hcnd hsz0 _
  have hval : ∀ (j : Nat) t v, Try.f4.params[j]? = some t → args[j]? = some v → Value.okWide Try.prog W .any base t v := hval0
  have hW' := hW
  obtain ⟨p, q, hA0, hV, rfl, hfz, hnd⟩ := hW
  have hA : DataW.TrodAll enc Try.prog W 0 (fun _ => true) true Try.f4.params.toList args.toList ds p := hA0
  rw [Try.params4] at hA hval
  obtain ⟨v0, vs0, d0, ds0, p0, q0, hargs, rfl, rfl, h0, r0⟩ := trodAll_cons hA
  obtain ⟨rfl, rfl, rfl⟩ := trodAll_nil r0
  obtain rfl : args = #[v0] := by cases args; simp_all
  obtain ⟨rfl, rfl⟩ := trodVars_none hV
  obtain ⟨a0, len0, cap0, rfl⟩ := okWide_slice Try.underlying31 (hval 0 31 v0 rfl rfl)
  obtain ⟨x0, k0, t0⟩ := Opens.one opens31 (fun _ => rfl) rfl h0
  have lt0 : ∀ x ∈ p0, x.block < W.heap.size := by obtain ⟨m, hm⟩ := h0; exact DataW.trod_lt m _ _ _ hm
  clear hA0 hval0 hsz0
  refine ((laws_FnMessages_fn x0).2 W [_] [] (fx W []) (Tb.no (by kernel_rfl)) (fun b hb => hb) ⟨_, _, [], [], rfl, rfl, ⟨t0, rfl⟩, ⟨rfl, rfl⟩⟩ (by simp) (by simp)).mono fun e W' ⟨x, b1, b2, he, hs, hr, _⟩ => ?_
  have bel := hs.below
  subst he
  simp only [OR, OR1, CR, OT] at hr
  obtain ⟨rfl, _⟩ := hr
  exact ⟨_, rfl, _, _, _, [], _, [], hW', trodAll_mk1 (shut_bool Try.underlying4 _), (trodAll_cons_mk (Below.trod laidOut (by kernel_rfl) (of_decide_eq_true (by kernel_rfl)) h0 bel lt0) trodAll_mk0), rfl, bel.frame _, fun h => by cases h⟩
theorem over : Rows.fnMessagesRow.holds Try.pinned (OpenSpec.ofChange Rows.fnMessagesSpec) :=
  OpenClaim.holds_of_wide 4 Try.f4 rfl rfl rfl rfl rfl rfl rfl ⟨rfl, rfl, rfl, rfl, rfl⟩ rfl rfl rfl rfl rfl (by kernel_rfl) Try.func4 (by kernel_rfl)
    (of_decide_eq_true (by kernel_rfl)) (by unfold Func.isWrapper; first | (rw [if_pos (by decide +kernel)]; kernel_rfl) | (rw [if_neg (by decide +kernel)]; exact ⟨rfl, rfl⟩))
    (fun os started H enc _ => lifted os started H enc)
theorem proved : Rows.FnMessagesSaid := over
#print axioms proved
end Go.Proofs.Ytmhnehgpmndiiaa.fnMessages
