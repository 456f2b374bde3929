/-
  No cell of these rows narrows 'for every input' (looked for: loops, veiled, ifaces, maps, wideKeys, modest, calm, conditions, laid).
  DERIVED. THE GIVEN ROWS OF THIS SEAT. 4 by the template 'for every input the law returns true; each argument reads behind the call as it read before'; 0 by the template 'total and deterministic' (their statements: YtkfjkmklmjcngaaTotals.lean).
  GIVEN WITH THE SEED: the statements are not yours to turn. If you find one false, say at which input.
  Laid BY PROGRAM, IN A SANDBOX (cutbox-rows.mjs): the forced cells as the released guide's own fill.sh prints them over the translation aacf7f82fadecf2e… (all of the seat's roots in one cut). By AI agents, Wed Nov 11 2026. No macro, syntax, notation, axiom, sorry.
-/
import Derived.Test.YtkfjkmklmjcngaaChecked
import GoSem.Claim
import GoSem.ClaimJoined
import GoSem.ClaimMapViews
import Derived.JoinedTies
import Derived.KernelRfl
namespace Go.Proofs.Ytkfjkmklmjcngaa
/- THE CELL 'sum', in the pinned program and in every row, IS THE sha256 OF THE DUMP (.gsa) THAT YtkfjkmklmjcngaaProg.lean LOADS. Nothing in Lean hashes anything: it is a label: what it is worth is what the hold of that sum in a sandbox is worth. -/
noncomputable def Try.pinned : Pinned := { name := "ytkfjkmklmjcngaa", sum := "aacf7f82fadecf2ea1f9c8859cd4e55aa96c9de80433baf92521509141deccda", checked := Try.checked }
namespace Rows
def none {H : Type} : Left H := { results := [], args := [] }

/-- 'laws.FnGreets': WHATEVER THE INPUT: true; the input reads as it did. -/
def fnGreetsSpec : ChangeSpec := { name := "fnGreets", fn := fun _ => fun
  | [d] => { results := [.lit (.bool true)], args := [d] }
  | _ => none }
def fnGreetsRow : OpenClaim := { program := "ytkfjkmklmjcngaa", sum := "aacf7f82fadecf2ea1f9c8859cd4e55aa96c9de80433baf92521509141deccda", func := "loop.example/g00232/laws.FnGreets", spec := "fnGreets", apart := false }
def FnGreetsSaid : Prop := fnGreetsRow.holds Try.pinned (OpenSpec.ofChange fnGreetsSpec)

/-- ITS FALSE NEIGHBOUR: 'it returns false'. Refute it at one input. -/
def fnGreetsWrong : ChangeSpec := { name := "fnGreets", fn := fun _ => fun
  | [d] => { results := [.lit (.bool false)], args := [d] }
  | _ => none }
def FnGreetsWrongFalsely : Prop := fnGreetsRow.holds Try.pinned (OpenSpec.ofChange fnGreetsWrong)

/-- 'laws.FnExactHear': WHATEVER THE INPUT: true; the input reads as it did. -/
def fnExactHearSpec : ChangeSpec := { name := "fnExactHear", fn := fun _ => fun
  | [d1, d2] => { results := [.lit (.bool true)], args := [d1, d2] }
  | _ => none }
def fnExactHearRow : OpenClaim := { program := "ytkfjkmklmjcngaa", sum := "aacf7f82fadecf2ea1f9c8859cd4e55aa96c9de80433baf92521509141deccda", func := "loop.example/g00232/laws.FnExactHear", spec := "fnExactHear", apart := false }
def FnExactHearSaid : Prop := fnExactHearRow.holds Try.pinned (OpenSpec.ofChange fnExactHearSpec)

/-- ITS FALSE NEIGHBOUR: 'it returns false'. Refute it at one input. -/
def fnExactHearWrong : ChangeSpec := { name := "fnExactHear", fn := fun _ => fun
  | [d1, d2] => { results := [.lit (.bool false)], args := [d1, d2] }
  | _ => none }
def FnExactHearWrongFalsely : Prop := fnExactHearRow.holds Try.pinned (OpenSpec.ofChange fnExactHearWrong)

/-- 'laws.FnStreams': WHATEVER THE INPUT: true; the input reads as it did. -/
def fnStreamsSpec : ChangeSpec := { name := "fnStreams", fn := fun _ => fun
  | [d] => { results := [.lit (.bool true)], args := [d] }
  | _ => none }
def fnStreamsRow : OpenClaim := { program := "ytkfjkmklmjcngaa", sum := "aacf7f82fadecf2ea1f9c8859cd4e55aa96c9de80433baf92521509141deccda", func := "loop.example/g00232/laws.FnStreams", spec := "fnStreams", apart := false }
def FnStreamsSaid : Prop := fnStreamsRow.holds Try.pinned (OpenSpec.ofChange fnStreamsSpec)

/-- ITS FALSE NEIGHBOUR: 'it returns false'. Refute it at one input. -/
def fnStreamsWrong : ChangeSpec := { name := "fnStreams", fn := fun _ => fun
  | [d] => { results := [.lit (.bool false)], args := [d] }
  | _ => none }
def FnStreamsWrongFalsely : Prop := fnStreamsRow.holds Try.pinned (OpenSpec.ofChange fnStreamsWrong)

/-- 'laws.FnCalm': WHATEVER THE INPUT: true; the input reads as it did. -/
def fnCalmSpec : ChangeSpec := { name := "fnCalm", fn := fun _ => fun
  | [d] => { results := [.lit (.bool true)], args := [d] }
  | _ => none }
def fnCalmRow : OpenClaim := { program := "ytkfjkmklmjcngaa", sum := "aacf7f82fadecf2ea1f9c8859cd4e55aa96c9de80433baf92521509141deccda", func := "loop.example/g00232/laws.FnCalm", spec := "fnCalm", unfollowed := true, recurses := true, apart := false }
def FnCalmSaid : Prop := fnCalmRow.holds Try.pinned (OpenSpec.ofChange fnCalmSpec)

/-- ITS FALSE NEIGHBOUR: 'it returns false'. Refute it at one input. -/
def fnCalmWrong : ChangeSpec := { name := "fnCalm", fn := fun _ => fun
  | [d] => { results := [.lit (.bool false)], args := [d] }
  | _ => none }
def FnCalmWrongFalsely : Prop := fnCalmRow.holds Try.pinned (OpenSpec.ofChange fnCalmWrong)

/- THE SECOND FORM. 'bulk': how many values and letters a reading holds, each counted each time it is reached (what is shared counts as often as it is met; a slice's spare places count too). A statement '..UptoSaid' is the law's where the arguments, and the package variables that the reading takes, are together of bulk at most 1048576: NARROWER than '..Said'. Prove '..Said' where nothing that the law and all that it calls make is longer than what came in: it says more and counts as full. Else prove '..UptoSaid'. A law counts once. -/
mutual
def uptoBulk {H : Type} : DataW H → Nat
  | .lit (.string bytes) => bytes.length + 1
  | .lit _ => 1
  | .nil => 1
  | .ptr d => uptoBulk d + 1
  | .slice elems spare => uptoBulkAll elems + uptoBulkAll spare + 1
  | .agg parts => uptoBulkAll parts + 1
  | .iface _ d => uptoBulk d + 1
  | .map entries => uptoBulkEntries entries + 1
  | .held _ => 1
def uptoBulkAll {H : Type} : List (DataW H) → Nat
  | [] => 0
  | d :: r => uptoBulk d + uptoBulkAll r
def uptoBulkEntries {H : Type} : List (Lit × DataW H) → Nat
  | [] => 0
  | x :: r => uptoBulkEntry x + uptoBulkEntries r
def uptoBulkEntry {H : Type} : Lit × DataW H → Nat
  | (.string bytes, d) => bytes.length + uptoBulk d + 1
  | (_, d) => uptoBulk d + 1
 end
def uptoSmall : (H : Type) → List (DataW H) → Bool := fun _ ds => decide (uptoBulkAll ds ≤ 1048576)
def OpenSpec.upto (s : _root_.Go.ChangeSpec) : _root_.Go.OpenSpec := { _root_.Go.OpenSpec.ofChange s with cond := some uptoSmall }

/-- 'laws.FnGreets', WHERE WHAT IT READS IS OF BULK AT MOST 1048576: true; the input reads as it did. -/
def fnGreetsUptoRow : OpenClaim := { program := "ytkfjkmklmjcngaa", sum := "aacf7f82fadecf2ea1f9c8859cd4e55aa96c9de80433baf92521509141deccda", func := "loop.example/g00232/laws.FnGreets", spec := "fnGreets", apart := false, narrowed := true }
def FnGreetsUptoSaid : Prop := fnGreetsUptoRow.holds Try.pinned (OpenSpec.upto fnGreetsSpec)

/-- 'laws.FnExactHear', WHERE WHAT IT READS IS OF BULK AT MOST 1048576: true; the input reads as it did. -/
def fnExactHearUptoRow : OpenClaim := { program := "ytkfjkmklmjcngaa", sum := "aacf7f82fadecf2ea1f9c8859cd4e55aa96c9de80433baf92521509141deccda", func := "loop.example/g00232/laws.FnExactHear", spec := "fnExactHear", apart := false, narrowed := true }
def FnExactHearUptoSaid : Prop := fnExactHearUptoRow.holds Try.pinned (OpenSpec.upto fnExactHearSpec)

/-- 'laws.FnStreams', WHERE WHAT IT READS IS OF BULK AT MOST 1048576: true; the input reads as it did. -/
def fnStreamsUptoRow : OpenClaim := { program := "ytkfjkmklmjcngaa", sum := "aacf7f82fadecf2ea1f9c8859cd4e55aa96c9de80433baf92521509141deccda", func := "loop.example/g00232/laws.FnStreams", spec := "fnStreams", apart := false, narrowed := true }
def FnStreamsUptoSaid : Prop := fnStreamsUptoRow.holds Try.pinned (OpenSpec.upto fnStreamsSpec)

/-- 'laws.FnCalm', WHERE WHAT IT READS IS OF BULK AT MOST 1048576: true; the input reads as it did. -/
def fnCalmUptoRow : OpenClaim := { program := "ytkfjkmklmjcngaa", sum := "aacf7f82fadecf2ea1f9c8859cd4e55aa96c9de80433baf92521509141deccda", func := "loop.example/g00232/laws.FnCalm", spec := "fnCalm", unfollowed := true, recurses := true, apart := false, narrowed := true }
def FnCalmUptoSaid : Prop := fnCalmUptoRow.holds Try.pinned (OpenSpec.upto fnCalmSpec)

end Rows
end Go.Proofs.Ytkfjkmklmjcngaa
