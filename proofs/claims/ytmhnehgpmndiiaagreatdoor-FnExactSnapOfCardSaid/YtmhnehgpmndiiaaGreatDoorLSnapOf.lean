/- Ours and the reference tell the same newest snapshot of a server's disk: for every server whose parts take no more than 1048576 bytes and elements in all; the server is left unchanged and what is told shares no memory. -/
import Derived.Test.YtmhnehgpmndiiaaGreatDoorWSnapOf
import Derived.Test.YtmhnehgpmndiiaaGreatDoorEng16
import Derived.Test.YtmhnehgpmndiiaaGreatDoorRows
import Derived.WalkKit
import Derived.ProofKit
import Derived.OpenShut
import Derived.ShutString
import Derived.ChangeOld
import Derived.Below
import Derived.Carry
import Derived.SizedLaws
import Derived.Handed
import Derived.LaidLaws
import Derived.LaidHandle
import Derived.Lib.LaidTab
import Derived.SevenTiedAt
import Derived.JoinedOf
import Derived.Stop.Joined
import Derived.RowKit
import Derived.RowKitTokens
import Derived.Deep.DeepLaidRun
import Derived.Stop.LaidErr
import Derived.Test.YtmhnehgpmndiiaaGreatDoorCards
import Derived.Test.YtmhnehgpmndiiaaGreatDoorTie
namespace Go.Proofs.YtmhnehgpmndiiaaGreatDoor.fnExactSnapOf
open Go Go.RowKit Go.Eng Go.Proofs.YtmhnehgpmndiiaaGreatDoor.Y Go.ChangeShapes Go.WideShapes Go.ChangeAt
theorem opens3 : Opens Tryz.prog 3 cI okI := Opens.int Tryz.underlying3
theorem opens22 : Opens Tryz.prog 22 (cL 1 cI) (okL okI) := Opens.slice Tryz.underlying22 (by kernel_rfl) (by decide) cI.len opens3
theorem opens9 : Opens Tryz.prog 9 cS okS := Opens.str Tryz.underlying9
theorem opens264 : Opens Tryz.prog 264 Entry.c okEntry := by
  intro H enc w fuel cs x h
  obtain ⟨xs, n, _, _, hlen, hxl, hf⟩ := DataW.trod_struct Tryz.underlying264 h
  obtain ⟨v0, o0, r0⟩ := Opens.field opens3 (k := 1) (by kernel_rfl) hxl hf (i := 0) (o := 0) rfl rfl rfl
  obtain ⟨v1, o1, r1⟩ := Opens.field opens3 (k := 1) (by kernel_rfl) hxl hf (i := 1) (o := 1) rfl rfl rfl
  obtain ⟨v2, o2, r2⟩ := Opens.field opens9 (k := 1) (by kernel_rfl) hxl hf (i := 2) (o := 2) rfl rfl rfl
  exact ⟨⟨v0, v1, v2⟩, ⟨o0, o1, o2⟩, RTs_step (o := 0) r0 (RTs_step r1 (RTs_step r2 (RTs_end (hlen.trans (by kernel_rfl)))))⟩
theorem opens23 : Opens Tryz.prog 23 (cL 3 Entry.c) (okL okEntry) := Opens.slice Tryz.underlying23 (by kernel_rfl) (by decide) Entry.len opens264
theorem opens25 : Opens Tryz.prog 25 Log.c okLog := by
  intro H enc w fuel cs x h
  obtain ⟨xs, n, _, _, hlen, hxl, hf⟩ := DataW.trod_struct Tryz.underlying25 h
  obtain ⟨v0, o0, r0⟩ := Opens.field opens3 (k := 1) (by kernel_rfl) hxl hf (i := 0) (o := 0) rfl rfl rfl
  obtain ⟨v1, o1, r1⟩ := Opens.field opens3 (k := 1) (by kernel_rfl) hxl hf (i := 1) (o := 1) rfl rfl rfl
  obtain ⟨v2, o2, r2⟩ := Opens.field opens23 (k := 1) (by kernel_rfl) hxl hf (i := 2) (o := 2) rfl rfl rfl
  exact ⟨⟨v0, v1, v2⟩, ⟨o0, o1, o2⟩, RTs_step (o := 0) r0 (RTs_step r1 (RTs_step r2 (RTs_end (hlen.trans (by kernel_rfl)))))⟩
theorem opens227 : Opens Tryz.prog 227 Peer.c okPeer := by
  intro H enc w fuel cs x h
  obtain ⟨xs, n, _, _, hlen, hxl, hf⟩ := DataW.trod_struct Tryz.underlying227 h
  obtain ⟨v0, o0, r0⟩ := Opens.field opens3 (k := 1) (by kernel_rfl) hxl hf (i := 0) (o := 0) rfl rfl rfl
  obtain ⟨v1, o1, r1⟩ := Opens.field opens3 (k := 1) (by kernel_rfl) hxl hf (i := 1) (o := 1) rfl rfl rfl
  obtain ⟨v2, o2, r2⟩ := Opens.field opens3 (k := 1) (by kernel_rfl) hxl hf (i := 2) (o := 2) rfl rfl rfl
  obtain ⟨v3, o3, r3⟩ := Opens.field opens3 (k := 1) (by kernel_rfl) hxl hf (i := 3) (o := 3) rfl rfl rfl
  exact ⟨⟨v0, v1, v2, v3⟩, ⟨o0, o1, o2, o3⟩, RTs_step (o := 0) r0 (RTs_step r1 (RTs_step r2 (RTs_step r3 (RTs_end (hlen.trans (by kernel_rfl))))))⟩
theorem opens26 : Opens Tryz.prog 26 (cL 4 Peer.c) (okL okPeer) := Opens.slice Tryz.underlying26 (by kernel_rfl) (by decide) Peer.len opens227
theorem opens28 : Opens Tryz.prog 28 Node.c okNode := by
  intro H enc w fuel cs x h
  obtain ⟨xs, n, _, _, hlen, hxl, hf⟩ := DataW.trod_struct Tryz.underlying28 h
  obtain ⟨v0, o0, r0⟩ := Opens.field opens3 (k := 1) (by kernel_rfl) hxl hf (i := 0) (o := 0) rfl rfl rfl
  obtain ⟨v1, o1, r1⟩ := Opens.field opens3 (k := 1) (by kernel_rfl) hxl hf (i := 1) (o := 1) rfl rfl rfl
  obtain ⟨v2, o2, r2⟩ := Opens.field opens3 (k := 1) (by kernel_rfl) hxl hf (i := 2) (o := 2) rfl rfl rfl
  obtain ⟨v3, o3, r3⟩ := Opens.field opens3 (k := 1) (by kernel_rfl) hxl hf (i := 3) (o := 3) rfl rfl rfl
  obtain ⟨v4, o4, r4⟩ := Opens.field opens3 (k := 1) (by kernel_rfl) hxl hf (i := 4) (o := 4) rfl rfl rfl
  obtain ⟨v5, o5, r5⟩ := Opens.field opens22 (k := 1) (by kernel_rfl) hxl hf (i := 5) (o := 5) rfl rfl rfl
  obtain ⟨v6, o6, r6⟩ := Opens.field opens25 (k := 3) (by kernel_rfl) hxl hf (i := 6) (o := 6) rfl rfl rfl
  obtain ⟨v7, o7, r7⟩ := Opens.field opens3 (k := 1) (by kernel_rfl) hxl hf (i := 7) (o := 9) rfl rfl rfl
  obtain ⟨v8, o8, r8⟩ := Opens.field opens3 (k := 1) (by kernel_rfl) hxl hf (i := 8) (o := 10) rfl rfl rfl
  obtain ⟨v9, o9, r9⟩ := Opens.field opens3 (k := 1) (by kernel_rfl) hxl hf (i := 9) (o := 11) rfl rfl rfl
  obtain ⟨v10, o10, r10⟩ := Opens.field opens22 (k := 1) (by kernel_rfl) hxl hf (i := 10) (o := 12) rfl rfl rfl
  obtain ⟨v11, o11, r11⟩ := Opens.field opens26 (k := 1) (by kernel_rfl) hxl hf (i := 11) (o := 13) rfl rfl rfl
  exact ⟨⟨v0, v1, v2, v3, v4, v5, v6, v7, v8, v9, v10, v11⟩, ⟨o0, o1, o2, o3, o4, o5, o6, o7, o8, o9, o10, o11⟩, RTs_step (o := 0) r0 (RTs_step r1 (RTs_step r2 (RTs_step r3 (RTs_step r4 (RTs_step r5 (RTs_step r6 (RTs_step r7 (RTs_step r8 (RTs_step r9 (RTs_step r10 (RTs_step r11 (RTs_end (hlen.trans (by kernel_rfl))))))))))))))⟩
theorem opens208 : Opens Tryz.prog 208 File.c okFile := by
  intro H enc w fuel cs x h
  obtain ⟨xs, n, _, _, hlen, hxl, hf⟩ := DataW.trod_struct Tryz.underlying208 h
  obtain ⟨v0, o0, r0⟩ := Opens.field opens9 (k := 1) (by kernel_rfl) hxl hf (i := 0) (o := 0) rfl rfl rfl
  obtain ⟨v1, o1, r1⟩ := Opens.field opens9 (k := 1) (by kernel_rfl) hxl hf (i := 1) (o := 1) rfl rfl rfl
  obtain ⟨v2, o2, r2⟩ := Opens.field opens3 (k := 1) (by kernel_rfl) hxl hf (i := 2) (o := 2) rfl rfl rfl
  exact ⟨⟨v0, v1, v2⟩, ⟨o0, o1, o2⟩, RTs_step (o := 0) r0 (RTs_step r1 (RTs_step r2 (RTs_end (hlen.trans (by kernel_rfl)))))⟩
theorem opens29 : Opens Tryz.prog 29 (cL 3 File.c) (okL okFile) := Opens.slice Tryz.underlying29 (by kernel_rfl) (by decide) File.len opens208
theorem opens31 : Opens Tryz.prog 31 Disk.c okDisk := by
  intro H enc w fuel cs x h
  obtain ⟨xs, n, _, _, hlen, hxl, hf⟩ := DataW.trod_struct Tryz.underlying31 h
  obtain ⟨v0, o0, r0⟩ := Opens.field opens29 (k := 1) (by kernel_rfl) hxl hf (i := 0) (o := 0) rfl rfl rfl
  exact ⟨⟨v0⟩, o0, RTs_step (o := 0) r0 (RTs_end (hlen.trans (by kernel_rfl)))⟩
theorem opens33 : Opens Tryz.prog 33 Journal.c okJournal := by
  intro H enc w fuel cs x h
  obtain ⟨xs, n, _, _, hlen, hxl, hf⟩ := DataW.trod_struct Tryz.underlying33 h
  obtain ⟨v0, o0, r0⟩ := Opens.field opens3 (k := 1) (by kernel_rfl) hxl hf (i := 0) (o := 0) rfl rfl rfl
  obtain ⟨v1, o1, r1⟩ := Opens.field opens3 (k := 1) (by kernel_rfl) hxl hf (i := 1) (o := 1) rfl rfl rfl
  obtain ⟨v2, o2, r2⟩ := Opens.field opens3 (k := 1) (by kernel_rfl) hxl hf (i := 2) (o := 2) rfl rfl rfl
  obtain ⟨v3, o3, r3⟩ := Opens.field opens25 (k := 3) (by kernel_rfl) hxl hf (i := 3) (o := 3) rfl rfl rfl
  exact ⟨⟨v0, v1, v2, v3⟩, ⟨o0, o1, o2, o3⟩, RTs_step (o := 0) r0 (RTs_step r1 (RTs_step r2 (RTs_step r3 (RTs_end (hlen.trans (by kernel_rfl))))))⟩
theorem opens210 : Opens Tryz.prog 210 Session.c okSession := by
  intro H enc w fuel cs x h
  obtain ⟨xs, n, _, _, hlen, hxl, hf⟩ := DataW.trod_struct Tryz.underlying210 h
  obtain ⟨v0, o0, r0⟩ := Opens.field opens3 (k := 1) (by kernel_rfl) hxl hf (i := 0) (o := 0) rfl rfl rfl
  obtain ⟨v1, o1, r1⟩ := Opens.field opens3 (k := 1) (by kernel_rfl) hxl hf (i := 1) (o := 1) rfl rfl rfl
  obtain ⟨v2, o2, r2⟩ := Opens.field opens9 (k := 1) (by kernel_rfl) hxl hf (i := 2) (o := 2) rfl rfl rfl
  exact ⟨⟨v0, v1, v2⟩, ⟨o0, o1, o2⟩, RTs_step (o := 0) r0 (RTs_step r1 (RTs_step r2 (RTs_end (hlen.trans (by kernel_rfl)))))⟩
theorem opens34 : Opens Tryz.prog 34 (cL 3 Session.c) (okL okSession) := Opens.slice Tryz.underlying34 (by kernel_rfl) (by decide) Session.len opens210
theorem opens212 : Opens Tryz.prog 212 Item.c okItem := by
  intro H enc w fuel cs x h
  obtain ⟨xs, n, _, _, hlen, hxl, hf⟩ := DataW.trod_struct Tryz.underlying212 h
  obtain ⟨v0, o0, r0⟩ := Opens.field opens9 (k := 1) (by kernel_rfl) hxl hf (i := 0) (o := 0) rfl rfl rfl
  obtain ⟨v1, o1, r1⟩ := Opens.field opens9 (k := 1) (by kernel_rfl) hxl hf (i := 1) (o := 1) rfl rfl rfl
  obtain ⟨v2, o2, r2⟩ := Opens.field opens3 (k := 1) (by kernel_rfl) hxl hf (i := 2) (o := 2) rfl rfl rfl
  exact ⟨⟨v0, v1, v2⟩, ⟨o0, o1, o2⟩, RTs_step (o := 0) r0 (RTs_step r1 (RTs_step r2 (RTs_end (hlen.trans (by kernel_rfl)))))⟩
theorem opens35 : Opens Tryz.prog 35 (cL 3 Item.c) (okL okItem) := Opens.slice Tryz.underlying35 (by kernel_rfl) (by decide) Item.len opens212
theorem opens37 : Opens Tryz.prog 37 Keep.c okKeep := by
  intro H enc w fuel cs x h
  obtain ⟨xs, n, _, _, hlen, hxl, hf⟩ := DataW.trod_struct Tryz.underlying37 h
  obtain ⟨v0, o0, r0⟩ := Opens.field opens34 (k := 1) (by kernel_rfl) hxl hf (i := 0) (o := 0) rfl rfl rfl
  obtain ⟨v1, o1, r1⟩ := Opens.field opens35 (k := 1) (by kernel_rfl) hxl hf (i := 1) (o := 1) rfl rfl rfl
  exact ⟨⟨v0, v1⟩, ⟨o0, o1⟩, RTs_step (o := 0) r0 (RTs_step r1 (RTs_end (hlen.trans (by kernel_rfl))))⟩
theorem opens39 : Opens Tryz.prog 39 Server.c okServer := by
  intro H enc w fuel cs x h
  obtain ⟨xs, n, _, _, hlen, hxl, hf⟩ := DataW.trod_struct Tryz.underlying39 h
  obtain ⟨v0, o0, r0⟩ := Opens.field opens28 (k := 14) (by kernel_rfl) hxl hf (i := 0) (o := 0) rfl rfl rfl
  obtain ⟨v1, o1, r1⟩ := Opens.field opens31 (k := 1) (by kernel_rfl) hxl hf (i := 1) (o := 14) rfl rfl rfl
  obtain ⟨v2, o2, r2⟩ := Opens.field opens33 (k := 6) (by kernel_rfl) hxl hf (i := 2) (o := 15) rfl rfl rfl
  obtain ⟨v3, o3, r3⟩ := Opens.field opens37 (k := 2) (by kernel_rfl) hxl hf (i := 3) (o := 21) rfl rfl rfl
  obtain ⟨v4, o4, r4⟩ := Opens.field opens3 (k := 1) (by kernel_rfl) hxl hf (i := 4) (o := 23) rfl rfl rfl
  obtain ⟨v5, o5, r5⟩ := Opens.field opens9 (k := 1) (by kernel_rfl) hxl hf (i := 5) (o := 24) rfl rfl rfl
  obtain ⟨v6, o6, r6⟩ := Opens.field opens3 (k := 1) (by kernel_rfl) hxl hf (i := 6) (o := 25) rfl rfl rfl
  obtain ⟨v7, o7, r7⟩ := Opens.field opens3 (k := 1) (by kernel_rfl) hxl hf (i := 7) (o := 26) rfl rfl rfl
  exact ⟨⟨v0, v1, v2, v3, v4, v5, v6, v7⟩, ⟨o0, o1, o2, o3, o4, o5, o6, o7⟩, RTs_step (o := 0) r0 (RTs_step r1 (RTs_step r2 (RTs_step r3 (RTs_step r4 (RTs_step r5 (RTs_step r6 (RTs_step r7 (RTs_end (hlen.trans (by kernel_rfl))))))))))⟩
theorem own : ownKnob Tryz.prog.godebug = none := by kernel_rfl
theorem laidOut : laidOutB Tryz.prog = true := by kernel_rfl
set_option maxRecDepth 100000
def setc (cs : Array Value) : Obj → Obj | .cells _ t frozen => .cells cs t frozen | o => o
noncomputable def low : Nat := (World.holding Tryz.prog default ⟨#[], #[], []⟩).heap.size
noncomputable def laid0 : Array Value := #[.iface 319 (.pointer (some ⟨low + 0, 0, none⟩))]
noncomputable def laid1 : Array Value := #[.iface 319 (.pointer (some ⟨low + 1, 0, none⟩))]
def laid2 : Array Value := #[.int .u64 1, .int .u64 10, .int .u64 100, .int .u64 1000, .int .u64 10000, .int .u64 100000, .int .u64 1000000, .int .u64 10000000, .int .u64 100000000, .int .u64 1000000000, .int .u64 10000000000, .int .u64 100000000000, .int .u64 1000000000000, .int .u64 10000000000000, .int .u64 100000000000000, .int .u64 1000000000000000, .int .u64 10000000000000000, .int .u64 100000000000000000, .int .u64 1000000000000000000, .int .u64 10000000000000000000]
def laid3 : Array Value := #[.int .u8 0, .int .u8 1, .int .u8 28, .int .u8 2, .int .u8 29, .int .u8 14, .int .u8 24, .int .u8 3, .int .u8 30, .int .u8 22, .int .u8 20, .int .u8 15, .int .u8 25, .int .u8 17, .int .u8 4, .int .u8 8, .int .u8 31, .int .u8 27, .int .u8 13, .int .u8 23, .int .u8 21, .int .u8 19, .int .u8 16, .int .u8 7, .int .u8 26, .int .u8 12, .int .u8 18, .int .u8 6, .int .u8 11, .int .u8 5, .int .u8 10, .int .u8 9]
def laid4 : Array Value := #[.int .u8 0, .int .u8 1, .int .u8 56, .int .u8 2, .int .u8 57, .int .u8 49, .int .u8 28, .int .u8 3, .int .u8 61, .int .u8 58, .int .u8 42, .int .u8 50, .int .u8 38, .int .u8 29, .int .u8 17, .int .u8 4, .int .u8 62, .int .u8 47, .int .u8 59, .int .u8 36, .int .u8 45, .int .u8 43, .int .u8 51, .int .u8 22, .int .u8 53, .int .u8 39, .int .u8 33, .int .u8 30, .int .u8 24, .int .u8 18, .int .u8 12, .int .u8 5, .int .u8 63, .int .u8 55, .int .u8 48, .int .u8 27, .int .u8 60, .int .u8 41, .int .u8 37, .int .u8 16, .int .u8 46, .int .u8 35, .int .u8 44, .int .u8 21, .int .u8 52, .int .u8 32, .int .u8 23, .int .u8 11, .int .u8 54, .int .u8 26, .int .u8 40, .int .u8 15, .int .u8 34, .int .u8 20, .int .u8 31, .int .u8 10, .int .u8 25, .int .u8 14, .int .u8 19, .int .u8 9, .int .u8 13, .int .u8 8, .int .u8 7, .int .u8 6]
noncomputable def laidWorld (os : Os) : World :=
  { World.holding Tryz.prog os ⟨#[.cells #[.string ⟨#[105, 110, 118, 97, 108, 105, 100, 32, 115, 121, 110, 116, 97, 120]⟩] 321, .cells #[.string ⟨#[118, 97, 108, 117, 101, 32, 111, 117, 116, 32, 111, 102, 32, 114, 97, 110, 103, 101]⟩] 321], #[], []⟩ with heap := ((((((World.holding Tryz.prog os ⟨#[.cells #[.string ⟨#[105, 110, 118, 97, 108, 105, 100, 32, 115, 121, 110, 116, 97, 120]⟩] 321, .cells #[.string ⟨#[118, 97, 108, 117, 101, 32, 111, 117, 116, 32, 111, 102, 32, 114, 97, 110, 103, 101]⟩] 321], #[], []⟩).heap.modify 0 (setc laid0)).modify 1 (setc laid1)).modify 2 (setc laid2)).modify 3 (setc laid3)).modify 4 (setc laid4)) }
theorem laid_met (os : Os) (args : Array Value) : laidMetH Tryz.prog Rows.fnExactSnapOfRow.laid ((laidWorld os).forCall (fun _ _ => 0) ⟨#[], args, []⟩).memory :=
  show laidMet Tryz.prog Rows.fnExactSnapOfRow.laid _ from laidMet_of_run3 8 (by kernel_rfl) (by kernel_rfl) (by kernel_rfl)
theorem starP : "*" ++ "errors.errorString" = "*errors.errorString" := by decide
theorem rowP (u : TypeId) (h : Tryz.prog.typeName? 3 u = some "*errors.errorString") : u = 319 :=
  typeName_ptr_named (nm := "errors.errorString") (by rw [starP]; kernel_rfl) (by kernel_rfl) (by decide) u (by rw [starP]; exact h)
theorem tabOf {W : World} (h : laidMetH Tryz.prog Rows.fnExactSnapOfRow.laid W) : Tb Tryz.prog W [] := by
  have h1 : laidMet Tryz.prog Rows.fnExactSnapOfRow.laid W := h
  refine ⟨fun g hg1 => ?_, fun nm hn g hg1 => ?_⟩
  · have hg : Tryz.prog.globalNamed "internal/strconv.uint64pow10" = some 2 := by kernel_rfl
    have ht : Lib.TabIs Tryz.prog W "internal/strconv.uint64pow10" .u64 Lib.pow10Tab := Lib.tabIs_of_head hg (by kernel_rfl) Tryz.underlying313 Tryz.underlying302 (by kernel_rfl) (by kernel_rfl) (h1.tail.tail)
    obtain rfl := Option.some.inj (hg.symm.trans hg1)
    refine ⟨by simp, ?_, ht⟩
    have hv : W.var? Tryz.prog "internal/strconv.uint64pow10" = some _ := ht
    unfold World.var? at hv
    rw [hg, Option.bind_some] at hv
    rcases Nat.lt_or_ge 2 W.heap.size with hl | hl
    · exact hl
    · rw [Array.getElem?_eq_none hl] at hv; cases hv
  rcases List.mem_cons.1 hn with rfl | hn
  · skip
    obtain ⟨a0, s0, hv0, -, -, -⟩ := laid_sentinel h1.tail.tail.tail.tail (show Tryz.prog.globalNamed "strconv.ErrSyntax" = some 0 by kernel_rfl) (show (Tryz.prog.globals[0]?).map (·.type) = some 269 by kernel_rfl) Tryz.underlying269 rowP Tryz.underlying319 Tryz.underlying321 rfl rfl Tryz.underlying9 (by kernel_rfl) (by kernel_rfl)
    obtain rfl := Option.some.inj ((show Tryz.prog.globalNamed "strconv.ErrSyntax" = some 0 by kernel_rfl).symm.trans hg1)
    have hc : W.cell? ⟨0, 0, none⟩ = some (.iface 319 (.pointer (some a0))) := by have h0 := World.var?_cell (show Tryz.prog.globalNamed "strconv.ErrSyntax" = some 0 by kernel_rfl) hv0 0; simpa using h0
    exact ⟨by simp, Lib.lt_of_cell hc, _, hc, .inr ⟨_, _, rfl⟩⟩
  · skip
    obtain rfl := List.mem_singleton.1 hn
    obtain ⟨a0, s0, hv0, -, -, -⟩ := laid_sentinel h1.tail.tail.tail (show Tryz.prog.globalNamed "strconv.ErrRange" = some 1 by kernel_rfl) (show (Tryz.prog.globals[1]?).map (·.type) = some 269 by kernel_rfl) Tryz.underlying269 rowP Tryz.underlying319 Tryz.underlying321 rfl rfl Tryz.underlying9 (by kernel_rfl) (by kernel_rfl)
    obtain rfl := Option.some.inj ((show Tryz.prog.globalNamed "strconv.ErrRange" = some 1 by kernel_rfl).symm.trans hg1)
    have hc : W.cell? ⟨1, 0, none⟩ = some (.iface 319 (.pointer (some a0))) := by have h0 := World.var?_cell (show Tryz.prog.globalNamed "strconv.ErrRange" = some 1 by kernel_rfl) hv0 0; simpa using h0
    exact ⟨by simp, Lib.lt_of_cell hc, _, hc, .inr ⟨_, _, rfl⟩⟩
set_option maxRecDepth 100000 in
theorem lifted (os : Os) (started : os.Started) (H : Type) (enc : TypeId × Value → H) :
    ReturnsInHanded {} Tryz.checked os 3 .any (fun w args => (Rows.fnExactSnapOfSpec.pre enc Tryz.prog Tryz.f3 Rows.fnExactSnapOfRow.domain false w args ∧ laidMetH Tryz.prog Rows.fnExactSnapOfRow.laid w) ∧ sizedMet enc Tryz.prog Tryz.f3 (OpenSpec.ofChange Rows.fnExactSnapOfSpec) false w args) (Rows.fnExactSnapOfSpec.post enc Tryz.prog Tryz.f3 false true false false) := by
  refine returnsInHanded_of_change_and (C := Tryz.checked) (X := fun w _ => laidMetH Tryz.prog Rows.fnExactSnapOfRow.laid w) (fun _ _ _ hh h => h.of_heap hh) own started (by kernel_rfl) Tryz.func3
    (ChangeSpec.witness_at (enc := enc) (C := Tryz.checked) (os := os) (X := fun w _ => laidMetH Tryz.prog Rows.fnExactSnapOfRow.laid w) false (laidWorld os) #[.agg #[.int .i64 0, .int .i64 0, .int .i64 0, .int .i64 0, .int .i64 0, .slice none 0 0, .int .i64 0, .int .i64 0, .slice none 0 0, .int .i64 0, .int .i64 0, .int .i64 0, .slice none 0 0, .slice none 0 0, .slice none 0 0, .int .i64 0, .int .i64 0, .int .i64 0, .int .i64 0, .int .i64 0, .slice none 0 0, .slice none 0 0, .slice none 0 0, .int .i64 0, .string ⟨#[]⟩, .int .i64 0, .int .i64 0]] 8 rfl (by kernel_rfl) (by kernel_rfl) (by kernel_rfl) (by kernel_rfl) (by kernel_rfl) (laid_met os _)) ?_
  intro W base args ds gs before hval0 hW hcnd hsz0 hL _
  have hval : ∀ (j : Nat) t v, Tryz.f3.params[j]? = some t → args[j]? = some v → Value.okWide Tryz.prog W .any base t v := hval0
  have hW' := hW
  obtain ⟨p, q, hA0, hV, rfl, hfz, hnd⟩ := hW
  have hA : DataW.TrodAll enc Tryz.prog W 0 (fun _ => true) true Tryz.f3.params.toList args.toList ds p := hA0
  rw [Tryz.params3] at hA hval
  obtain ⟨v0, vs0, d0, ds0, p0, q0, hargs, rfl, rfl, h0, r0⟩ := trodAll_cons hA
  obtain ⟨rfl, rfl, rfl⟩ := trodAll_nil r0
  obtain rfl : args = #[v0] := by cases args; simp_all
  obtain ⟨rfl, rfl⟩ := trodVars_none hV
  obtain ⟨c0, rfl, _⟩ := okWide_struct Tryz.underlying39 (hval 0 39 v0 rfl rfl)
  obtain ⟨x0, k0, t0⟩ := Opens.agg opens39 h0
  have lt0 : ∀ x ∈ p0, x.block < W.heap.size := by obtain ⟨m, hm⟩ := h0; exact DataW.trod_lt m _ _ _ hm
  clear hA0 hval0 hsz0
  refine ((laws_FnExactSnapOf_fn x0 k0).2 W [_] [] (fx W []) (tabOf hL) (fun b hb => hb) ⟨_, _, [], [], rfl, rfl, t0, ⟨rfl, rfl⟩⟩ (by simp) (by simp)).mono fun e W' ⟨x, b1, b2, he, hs, hr, _⟩ => ?_
  have bel := hs.below
  subst he
  simp only [OR, OR1, CR, OT] at hr
  obtain ⟨rfl, _⟩ := hr
  exact ⟨_, rfl, _, _, _, [], _, [], hW', trodAll_mk1 (shut_bool Tryz.underlying4 _), (trodAll_cons_mk (Below.trod laidOut (by kernel_rfl) (of_decide_eq_true (by kernel_rfl)) h0 bel lt0) trodAll_mk0), rfl, bel.frame _, fun h => by cases h⟩
theorem over : Rows.fnExactSnapOfRow.holds Tryz.pinned (OpenSpec.ofChange Rows.fnExactSnapOfSpec) :=
  OpenClaim.holds_of_wide 3 Tryz.f3 rfl rfl rfl rfl rfl rfl rfl ⟨rfl, rfl, rfl, rfl, rfl⟩ rfl rfl rfl rfl rfl (by kernel_rfl) Tryz.func3 (by kernel_rfl)
    (of_decide_eq_true (by kernel_rfl)) (by unfold Func.isWrapper; first | (rw [if_pos (by decide +kernel)]; kernel_rfl) | (rw [if_neg (by decide +kernel)]; exact ⟨rfl, rfl⟩))
    (fun os started H enc _ => lifted os started H enc)
theorem proved : Rows.FnExactSnapOfSaid := over
theorem card : Rows.FnExactSnapOfCardSaid :=
  Claim7.holds_tied_plain_at .later [] [.data, .data, .data, .sentinel, .sentinel] true (true, "29bc61d160116f4a4ef3e8853e80ac6a7c9c1fbf8419f046e2c53d99ad83bafb") true
    over (fun _ h => by cases h) (by kernel_rfl) (fun _ h => by cases h) fnExactSnapOf_row_tie rfl ⟨rfl, rfl⟩ (by kernel_rfl) rfl
    (fun f fn hf hfn => by
      obtain rfl : f = 3 := Option.some.inj ((show Tryz.prog.funcNamed Rows.fnExactSnapOfRow.func = some 3 by kernel_rfl).symm.trans hf) |>.symm
      obtain rfl : fn = Tryz.f3 := (Option.some.inj (Tryz.func3.symm.trans hfn)).symm
      exact ⟨by kernel_rfl, fun j t ht => by
        rw [Tryz.params3] at ht
        have hm : t ∈ [39] := by simpa using Array.mem_of_getElem? ht
        have hall : ([39].all fun u => !Tryz.prog.wantsStandIn u) = true := by kernel_rfl
        exact (show Tryz.prog.wantsStandIn t = false by simpa using List.all_eq_true.1 hall t hm)⟩)
    (by kernel_rfl)
#print axioms card
end Go.Proofs.YtmhnehgpmndiiaaGreatDoor.fnExactSnapOf
