/- The disk that FormatDisk writes is booted into a server whose parts are all known, and ServerOk answers true at it. -/
import Derived.Test.YtaneihnomaagoaaGreatDoorWFormats
import Derived.Test.YtaneihnomaagoaaGreatDoorEng16
import Derived.Test.YtaneihnomaagoaaGreatDoorRows
import Derived.WalkKit
import Derived.ProofKit
import Derived.OpenShut
import Derived.ShutString
import Derived.ChangeOld
import Derived.Below
import Derived.Carry
import Derived.SizedLaws
import Derived.Handed
import Derived.LaidLaws
import Derived.LaidHandle
import Derived.Lib.LaidTab
import Derived.SevenTiedAt
import Derived.JoinedOf
import Derived.Stop.Joined
import Derived.RowKit
import Derived.RowKitTokens
import Derived.Deep.DeepLaidRun
import Derived.Stop.LaidErr
import Derived.Test.YtaneihnomaagoaaGreatDoorCards
import Derived.Test.YtaneihnomaagoaaGreatDoorTie
namespace Go.Proofs.YtaneihnomaagoaaGreatDoor.fnFormats
open Go Go.RowKit Go.Eng Go.Proofs.YtaneihnomaagoaaGreatDoor.Y Go.ChangeShapes Go.WideShapes Go.ChangeAt
def okU (n : Int) : Prop := (Lit.int .u8 n).wf = true
theorem opensU {P : Program} {t : TypeId} (ht : P.underlying t = some (.int .u8)) : Opens P t cU okU := by
  intro H enc w fuel cs x h
  obtain ⟨n, rfl, _, hw⟩ := DataW.trod_int ht h
  exact ⟨n, hw, _, [], rfl, by simp [RT], rfl⟩
theorem opens5 : Opens Tryz.prog 5 cU okU := opensU Tryz.underlying5
theorem opens22 : Opens Tryz.prog 22 (cL 1 cU) (okL okU) := Opens.slice Tryz.underlying22 (by kernel_rfl) (by decide) cU.len opens5
theorem own : ownKnob Tryz.prog.godebug = none := by kernel_rfl
theorem laidOut : laidOutB Tryz.prog = true := by kernel_rfl
set_option maxRecDepth 100000
def setc (cs : Array Value) : Obj → Obj | .cells _ t frozen => .cells cs t frozen | o => o
noncomputable def low : Nat := (Go.World.holding Tryz.prog default ⟨#[], #[], []⟩).heap.size
def laid0 : Array Value := #[.int .u64 1, .int .u64 10, .int .u64 100, .int .u64 1000, .int .u64 10000, .int .u64 100000, .int .u64 1000000, .int .u64 10000000, .int .u64 100000000, .int .u64 1000000000, .int .u64 10000000000, .int .u64 100000000000, .int .u64 1000000000000, .int .u64 10000000000000, .int .u64 100000000000000, .int .u64 1000000000000000, .int .u64 10000000000000000, .int .u64 100000000000000000, .int .u64 1000000000000000000, .int .u64 10000000000000000000]
noncomputable def laid1 : Array Value := #[.iface 313 (.pointer (some ⟨low + 0, 0, none⟩))]
noncomputable def laid2 : Array Value := #[.iface 313 (.pointer (some ⟨low + 1, 0, none⟩))]
def laid3 : Array Value := #[.int .u8 0, .int .u8 1, .int .u8 28, .int .u8 2, .int .u8 29, .int .u8 14, .int .u8 24, .int .u8 3, .int .u8 30, .int .u8 22, .int .u8 20, .int .u8 15, .int .u8 25, .int .u8 17, .int .u8 4, .int .u8 8, .int .u8 31, .int .u8 27, .int .u8 13, .int .u8 23, .int .u8 21, .int .u8 19, .int .u8 16, .int .u8 7, .int .u8 26, .int .u8 12, .int .u8 18, .int .u8 6, .int .u8 11, .int .u8 5, .int .u8 10, .int .u8 9]
def laid4 : Array Value := #[.int .u8 0, .int .u8 1, .int .u8 56, .int .u8 2, .int .u8 57, .int .u8 49, .int .u8 28, .int .u8 3, .int .u8 61, .int .u8 58, .int .u8 42, .int .u8 50, .int .u8 38, .int .u8 29, .int .u8 17, .int .u8 4, .int .u8 62, .int .u8 47, .int .u8 59, .int .u8 36, .int .u8 45, .int .u8 43, .int .u8 51, .int .u8 22, .int .u8 53, .int .u8 39, .int .u8 33, .int .u8 30, .int .u8 24, .int .u8 18, .int .u8 12, .int .u8 5, .int .u8 63, .int .u8 55, .int .u8 48, .int .u8 27, .int .u8 60, .int .u8 41, .int .u8 37, .int .u8 16, .int .u8 46, .int .u8 35, .int .u8 44, .int .u8 21, .int .u8 52, .int .u8 32, .int .u8 23, .int .u8 11, .int .u8 54, .int .u8 26, .int .u8 40, .int .u8 15, .int .u8 34, .int .u8 20, .int .u8 31, .int .u8 10, .int .u8 25, .int .u8 14, .int .u8 19, .int .u8 9, .int .u8 13, .int .u8 8, .int .u8 7, .int .u8 6]
noncomputable def laidWorld (os : Os) : Go.World :=
  { Go.World.holding Tryz.prog os ⟨#[.cells #[.string ⟨#[105, 110, 118, 97, 108, 105, 100, 32, 115, 121, 110, 116, 97, 120]⟩] 315, .cells #[.string ⟨#[118, 97, 108, 117, 101, 32, 111, 117, 116, 32, 111, 102, 32, 114, 97, 110, 103, 101]⟩] 315], #[], []⟩ with heap := ((((((Go.World.holding Tryz.prog os ⟨#[.cells #[.string ⟨#[105, 110, 118, 97, 108, 105, 100, 32, 115, 121, 110, 116, 97, 120]⟩] 315, .cells #[.string ⟨#[118, 97, 108, 117, 101, 32, 111, 117, 116, 32, 111, 102, 32, 114, 97, 110, 103, 101]⟩] 315], #[], []⟩).heap.modify 0 (setc laid0)).modify 1 (setc laid1)).modify 2 (setc laid2)).modify 3 (setc laid3)).modify 4 (setc laid4)) }
theorem laid_met (os : Os) (args : Array Value) : laidMetH Tryz.prog Rows.fnFormatsRow.laid ((laidWorld os).forCall (fun _ _ => 0) ⟨#[], args, []⟩).memory :=
  show laidMet Tryz.prog Rows.fnFormatsRow.laid _ from laidMet_of_run3 8 (by kernel_rfl) (by kernel_rfl) (by kernel_rfl)
theorem starP : "*" ++ "errors.errorString" = "*errors.errorString" := by decide
theorem rowP (u : TypeId) (h : Tryz.prog.typeName? 3 u = some "*errors.errorString") : u = 313 :=
  typeName_ptr_named (nm := "errors.errorString") (by rw [starP]; kernel_rfl) (by kernel_rfl) (by decide) u (by rw [starP]; exact h)
theorem tabOf {W : Go.World} (h : laidMetH Tryz.prog Rows.fnFormatsRow.laid W) : Tb Tryz.prog W [] := by
  have h1 : laidMet Tryz.prog Rows.fnFormatsRow.laid W := h
  refine ⟨fun g hg1 => ?_, fun nm hn g hg1 => ?_⟩
  · have hg : Tryz.prog.globalNamed "internal/strconv.uint64pow10" = some 0 := by kernel_rfl
    have ht : Lib.TabIs Tryz.prog W "internal/strconv.uint64pow10" .u64 Lib.pow10Tab := Lib.tabIs_of_head hg (by kernel_rfl) Tryz.underlying301 Tryz.underlying289 (by kernel_rfl) (by kernel_rfl) (h1.tail.tail)
    obtain rfl := Option.some.inj (hg.symm.trans hg1)
    refine ⟨by simp, ?_, ht⟩
    have hv : W.var? Tryz.prog "internal/strconv.uint64pow10" = some _ := ht
    unfold Go.World.var? at hv
    rw [hg, Option.bind_some] at hv
    rcases Nat.lt_or_ge 0 W.heap.size with hl | hl
    · exact hl
    · rw [Array.getElem?_eq_none hl] at hv; cases hv
  rcases List.mem_cons.1 hn with rfl | hn
  · skip
    obtain ⟨a0, s0, hv0, -, -, -⟩ := laid_sentinel h1.tail.tail.tail.tail (show Tryz.prog.globalNamed "strconv.ErrSyntax" = some 1 by kernel_rfl) (show (Tryz.prog.globals[1]?).map (·.type) = some 248 by kernel_rfl) Tryz.underlying248 rowP Tryz.underlying313 Tryz.underlying315 rfl rfl Tryz.underlying9 (by kernel_rfl) (by kernel_rfl)
    obtain rfl := Option.some.inj ((show Tryz.prog.globalNamed "strconv.ErrSyntax" = some 1 by kernel_rfl).symm.trans hg1)
    have hc : W.cell? ⟨1, 0, none⟩ = some (.iface 313 (.pointer (some a0))) := by have h0 := Go.World.var?_cell (show Tryz.prog.globalNamed "strconv.ErrSyntax" = some 1 by kernel_rfl) hv0 0; simpa using h0
    exact ⟨by simp, Lib.lt_of_cell hc, _, hc, .inr ⟨_, _, rfl⟩⟩
  · skip
    obtain rfl := List.mem_singleton.1 hn
    obtain ⟨a0, s0, hv0, -, -, -⟩ := laid_sentinel h1.tail.tail.tail (show Tryz.prog.globalNamed "strconv.ErrRange" = some 2 by kernel_rfl) (show (Tryz.prog.globals[2]?).map (·.type) = some 248 by kernel_rfl) Tryz.underlying248 rowP Tryz.underlying313 Tryz.underlying315 rfl rfl Tryz.underlying9 (by kernel_rfl) (by kernel_rfl)
    obtain rfl := Option.some.inj ((show Tryz.prog.globalNamed "strconv.ErrRange" = some 2 by kernel_rfl).symm.trans hg1)
    have hc : W.cell? ⟨2, 0, none⟩ = some (.iface 313 (.pointer (some a0))) := by have h0 := Go.World.var?_cell (show Tryz.prog.globalNamed "strconv.ErrRange" = some 2 by kernel_rfl) hv0 0; simpa using h0
    exact ⟨by simp, Lib.lt_of_cell hc, _, hc, .inr ⟨_, _, rfl⟩⟩
set_option maxRecDepth 100000 in
theorem lifted (os : Os) (started : os.Started) (H : Type) (enc : TypeId × Value → H) :
    ReturnsInHanded {} Tryz.checked os 3 .any (fun w args => (Rows.fnFormatsSpec.pre enc Tryz.prog Tryz.f3 Rows.fnFormatsRow.domain false w args ∧ laidMetH Tryz.prog Rows.fnFormatsRow.laid w) ∧ sizedMet enc Tryz.prog Tryz.f3 (OpenSpec.ofChange Rows.fnFormatsSpec) false w args) (Rows.fnFormatsSpec.post enc Tryz.prog Tryz.f3 false true false false) := by
  refine returnsInHanded_of_change_and (C := Tryz.checked) (X := fun w _ => laidMetH Tryz.prog Rows.fnFormatsRow.laid w) (fun _ _ _ hh h => h.of_heap hh) own started (by kernel_rfl) Tryz.func3
    (ChangeSpec.witness_at (enc := enc) (C := Tryz.checked) (os := os) (X := fun w _ => laidMetH Tryz.prog Rows.fnFormatsRow.laid w) false (laidWorld os) #[.slice none 0 0] 8 rfl (by kernel_rfl) (by kernel_rfl) (by kernel_rfl) (by kernel_rfl) (by kernel_rfl) (laid_met os _)) ?_
  intro W base args ds gs before hval0 hW hcnd hsz0 hL _
  have hval : ∀ (j : Nat) t v, Tryz.f3.params[j]? = some t → args[j]? = some v → Value.okWide Tryz.prog W .any base t v := hval0
  have hW' := hW
  obtain ⟨p, q, hA0, hV, rfl, hfz, hnd⟩ := hW
  have hA : DataW.TrodAll enc Tryz.prog W 0 (fun _ => true) true Tryz.f3.params.toList args.toList ds p := hA0
  rw [Tryz.params3] at hA hval
  obtain ⟨v0, vs0, d0, ds0, p0, q0, hargs, rfl, rfl, h0, r0⟩ := trodAll_cons hA
  obtain ⟨rfl, rfl, rfl⟩ := trodAll_nil r0
  obtain rfl : args = #[v0] := by cases args; simp_all
  obtain ⟨rfl, rfl⟩ := trodVars_none hV
  obtain ⟨a0, len0, cap0, rfl⟩ := okWide_slice Tryz.underlying22 (hval 0 22 v0 rfl rfl)
  obtain ⟨x0, k0, t0⟩ := Opens.one opens22 (fun _ => rfl) rfl h0
  have lt0 : ∀ x ∈ p0, x.block < W.heap.size := by obtain ⟨m, hm⟩ := h0; exact DataW.trod_lt m _ _ _ hm
  clear hA0 hval0 hsz0
  refine ((laws_FnFormats_fn x0).2 W [_] [] (fx W []) (tabOf hL) (fun b hb => hb) ⟨_, _, [], [], rfl, rfl, ⟨t0, rfl⟩, ⟨rfl, rfl⟩⟩ (by simp) (by simp)).mono fun e W' ⟨x, b1, b2, he, hs, hr, _⟩ => ?_
  have bel := hs.below
  subst he
  simp only [OR, OR1, CR, OT] at hr
  obtain ⟨rfl, _⟩ := hr
  exact ⟨_, rfl, _, _, _, [], _, [], hW', trodAll_mk1 (shut_bool Tryz.underlying4 _), (trodAll_cons_mk (Below.trod laidOut (by kernel_rfl) (of_decide_eq_true (by kernel_rfl)) h0 bel lt0) trodAll_mk0), rfl, bel.frame _, fun h => by cases h⟩
theorem over : Rows.fnFormatsRow.holds Tryz.pinned (OpenSpec.ofChange Rows.fnFormatsSpec) :=
  OpenClaim.holds_of_wide 3 Tryz.f3 rfl rfl rfl rfl rfl rfl rfl ⟨rfl, rfl, rfl, rfl, rfl⟩ rfl rfl rfl rfl rfl (by kernel_rfl) Tryz.func3 (by kernel_rfl)
    (of_decide_eq_true (by kernel_rfl)) (by unfold Func.isWrapper; first | (rw [if_pos (by decide +kernel)]; kernel_rfl) | (rw [if_neg (by decide +kernel)]; exact ⟨rfl, rfl⟩))
    (fun os started H enc _ => lifted os started H enc)
theorem proved : Rows.FnFormatsSaid := over
theorem card : Rows.FnFormatsCardSaid :=
  Claim7.holds_tied_plain_at .later [] [.data, .data, .data, .sentinel, .sentinel] true (true, "60cd5823feb7720feea630b86e3a33ceedb8f4e5044a8a7edfbf85cb64a74ef3") true
    over (fun _ h => by cases h) (by kernel_rfl) (fun _ h => by cases h) fnFormats_row_tie rfl ⟨rfl, rfl⟩ (by kernel_rfl) rfl
    (fun f fn hf hfn => by
      obtain rfl : f = 3 := Option.some.inj ((show Tryz.prog.funcNamed Rows.fnFormatsRow.func = some 3 by kernel_rfl).symm.trans hf) |>.symm
      obtain rfl : fn = Tryz.f3 := (Option.some.inj (Tryz.func3.symm.trans hfn)).symm
      exact ⟨by kernel_rfl, fun j t ht => by
        rw [Tryz.params3] at ht
        have hm : t ∈ [22] := by simpa using Array.mem_of_getElem? ht
        have hall : ([22].all fun u => !Tryz.prog.wantsStandIn u) = true := by kernel_rfl
        exact (show Tryz.prog.wantsStandIn t = false by simpa using List.all_eq_true.1 hall t hm)⟩)
    (by kernel_rfl)
#print axioms card
end Go.Proofs.YtaneihnomaagoaaGreatDoor.fnFormats
