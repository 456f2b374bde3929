/- Ours and the reference answer alike whether a world is sound: for every world whose parts take no more than 1048576 bytes and elements in all; the world is left unchanged. -/
import Derived.Test.YtdipdkfbaehglaaGreatDoorWSound
import Derived.Test.YtdipdkfbaehglaaGreatDoorEng16
import Derived.Test.YtdipdkfbaehglaaGreatDoorRows
import Derived.WalkKit
import Derived.ProofKit
import Derived.OpenShut
import Derived.ShutString
import Derived.ChangeOld
import Derived.Below
import Derived.Carry
import Derived.SizedLaws
import Derived.Handed
import Derived.LaidLaws
import Derived.LaidHandle
import Derived.Lib.LaidTab
import Derived.SevenTiedAt
import Derived.JoinedOf
import Derived.Stop.Joined
import Derived.RowKit
import Derived.RowKitTokens
import Derived.Deep.DeepLaidRun
import Derived.Stop.LaidErr
import Derived.Test.YtdipdkfbaehglaaGreatDoorCards
import Derived.Test.YtdipdkfbaehglaaGreatDoorTie
namespace Go.Proofs.YtdipdkfbaehglaaGreatDoor.fnExactSound
open Go Go.RowKit Go.Eng Go.Proofs.YtdipdkfbaehglaaGreatDoor.Y Go.ChangeShapes Go.WideShapes Go.ChangeAt
theorem opens4 : Opens Tryz.prog 4 cB okB := Opens.bool Tryz.underlying4
theorem opens22 : Opens Tryz.prog 22 (cL 1 cB) (okL okB) := Opens.slice Tryz.underlying22 (by kernel_rfl) (by decide) cB.len opens4
theorem opens3 : Opens Tryz.prog 3 cI okI := Opens.int Tryz.underlying3
theorem opens61 : Opens Tryz.prog 61 (cL 1 cI) (okL okI) := Opens.slice Tryz.underlying61 (by kernel_rfl) (by decide) cI.len opens3
theorem opens9 : Opens Tryz.prog 9 cS okS := Opens.str Tryz.underlying9
theorem opens135 : Opens Tryz.prog 135 Entry.c okEntry := by
  intro H enc w fuel cs x h
  obtain ⟨xs, n, _, _, hlen, hxl, hf⟩ := DataW.trod_struct Tryz.underlying135 h
  obtain ⟨v0, o0, r0⟩ := Opens.field opens3 (k := 1) (by kernel_rfl) hxl hf (i := 0) (o := 0) rfl rfl rfl
  obtain ⟨v1, o1, r1⟩ := Opens.field opens3 (k := 1) (by kernel_rfl) hxl hf (i := 1) (o := 1) rfl rfl rfl
  obtain ⟨v2, o2, r2⟩ := Opens.field opens9 (k := 1) (by kernel_rfl) hxl hf (i := 2) (o := 2) rfl rfl rfl
  exact ⟨⟨v0, v1, v2⟩, ⟨o0, o1, o2⟩, RTs_step (o := 0) r0 (RTs_step r1 (RTs_step r2 (RTs_end (hlen.trans (by kernel_rfl)))))⟩
theorem opens111 : Opens Tryz.prog 111 (cL 3 Entry.c) (okL okEntry) := Opens.slice Tryz.underlying111 (by kernel_rfl) (by decide) Entry.len opens135
theorem opens113 : Opens Tryz.prog 113 Log.c okLog := by
  intro H enc w fuel cs x h
  obtain ⟨xs, n, _, _, hlen, hxl, hf⟩ := DataW.trod_struct Tryz.underlying113 h
  obtain ⟨v0, o0, r0⟩ := Opens.field opens3 (k := 1) (by kernel_rfl) hxl hf (i := 0) (o := 0) rfl rfl rfl
  obtain ⟨v1, o1, r1⟩ := Opens.field opens3 (k := 1) (by kernel_rfl) hxl hf (i := 1) (o := 1) rfl rfl rfl
  obtain ⟨v2, o2, r2⟩ := Opens.field opens111 (k := 1) (by kernel_rfl) hxl hf (i := 2) (o := 2) rfl rfl rfl
  exact ⟨⟨v0, v1, v2⟩, ⟨o0, o1, o2⟩, RTs_step (o := 0) r0 (RTs_step r1 (RTs_step r2 (RTs_end (hlen.trans (by kernel_rfl)))))⟩
theorem opens250 : Opens Tryz.prog 250 Peer.c okPeer := by
  intro H enc w fuel cs x h
  obtain ⟨xs, n, _, _, hlen, hxl, hf⟩ := DataW.trod_struct Tryz.underlying250 h
  obtain ⟨v0, o0, r0⟩ := Opens.field opens3 (k := 1) (by kernel_rfl) hxl hf (i := 0) (o := 0) rfl rfl rfl
  obtain ⟨v1, o1, r1⟩ := Opens.field opens3 (k := 1) (by kernel_rfl) hxl hf (i := 1) (o := 1) rfl rfl rfl
  obtain ⟨v2, o2, r2⟩ := Opens.field opens3 (k := 1) (by kernel_rfl) hxl hf (i := 2) (o := 2) rfl rfl rfl
  obtain ⟨v3, o3, r3⟩ := Opens.field opens3 (k := 1) (by kernel_rfl) hxl hf (i := 3) (o := 3) rfl rfl rfl
  exact ⟨⟨v0, v1, v2, v3⟩, ⟨o0, o1, o2, o3⟩, RTs_step (o := 0) r0 (RTs_step r1 (RTs_step r2 (RTs_step r3 (RTs_end (hlen.trans (by kernel_rfl))))))⟩
theorem opens114 : Opens Tryz.prog 114 (cL 4 Peer.c) (okL okPeer) := Opens.slice Tryz.underlying114 (by kernel_rfl) (by decide) Peer.len opens250
theorem opens116 : Opens Tryz.prog 116 Node.c okNode := by
  intro H enc w fuel cs x h
  obtain ⟨xs, n, _, _, hlen, hxl, hf⟩ := DataW.trod_struct Tryz.underlying116 h
  obtain ⟨v0, o0, r0⟩ := Opens.field opens3 (k := 1) (by kernel_rfl) hxl hf (i := 0) (o := 0) rfl rfl rfl
  obtain ⟨v1, o1, r1⟩ := Opens.field opens3 (k := 1) (by kernel_rfl) hxl hf (i := 1) (o := 1) rfl rfl rfl
  obtain ⟨v2, o2, r2⟩ := Opens.field opens3 (k := 1) (by kernel_rfl) hxl hf (i := 2) (o := 2) rfl rfl rfl
  obtain ⟨v3, o3, r3⟩ := Opens.field opens3 (k := 1) (by kernel_rfl) hxl hf (i := 3) (o := 3) rfl rfl rfl
  obtain ⟨v4, o4, r4⟩ := Opens.field opens3 (k := 1) (by kernel_rfl) hxl hf (i := 4) (o := 4) rfl rfl rfl
  obtain ⟨v5, o5, r5⟩ := Opens.field opens61 (k := 1) (by kernel_rfl) hxl hf (i := 5) (o := 5) rfl rfl rfl
  obtain ⟨v6, o6, r6⟩ := Opens.field opens113 (k := 3) (by kernel_rfl) hxl hf (i := 6) (o := 6) rfl rfl rfl
  obtain ⟨v7, o7, r7⟩ := Opens.field opens3 (k := 1) (by kernel_rfl) hxl hf (i := 7) (o := 9) rfl rfl rfl
  obtain ⟨v8, o8, r8⟩ := Opens.field opens3 (k := 1) (by kernel_rfl) hxl hf (i := 8) (o := 10) rfl rfl rfl
  obtain ⟨v9, o9, r9⟩ := Opens.field opens3 (k := 1) (by kernel_rfl) hxl hf (i := 9) (o := 11) rfl rfl rfl
  obtain ⟨v10, o10, r10⟩ := Opens.field opens61 (k := 1) (by kernel_rfl) hxl hf (i := 10) (o := 12) rfl rfl rfl
  obtain ⟨v11, o11, r11⟩ := Opens.field opens114 (k := 1) (by kernel_rfl) hxl hf (i := 11) (o := 13) rfl rfl rfl
  exact ⟨⟨v0, v1, v2, v3, v4, v5, v6, v7, v8, v9, v10, v11⟩, ⟨o0, o1, o2, o3, o4, o5, o6, o7, o8, o9, o10, o11⟩, RTs_step (o := 0) r0 (RTs_step r1 (RTs_step r2 (RTs_step r3 (RTs_step r4 (RTs_step r5 (RTs_step r6 (RTs_step r7 (RTs_step r8 (RTs_step r9 (RTs_step r10 (RTs_step r11 (RTs_end (hlen.trans (by kernel_rfl))))))))))))))⟩
theorem opens242 : Opens Tryz.prog 242 File.c okFile := by
  intro H enc w fuel cs x h
  obtain ⟨xs, n, _, _, hlen, hxl, hf⟩ := DataW.trod_struct Tryz.underlying242 h
  obtain ⟨v0, o0, r0⟩ := Opens.field opens9 (k := 1) (by kernel_rfl) hxl hf (i := 0) (o := 0) rfl rfl rfl
  obtain ⟨v1, o1, r1⟩ := Opens.field opens9 (k := 1) (by kernel_rfl) hxl hf (i := 1) (o := 1) rfl rfl rfl
  obtain ⟨v2, o2, r2⟩ := Opens.field opens3 (k := 1) (by kernel_rfl) hxl hf (i := 2) (o := 2) rfl rfl rfl
  exact ⟨⟨v0, v1, v2⟩, ⟨o0, o1, o2⟩, RTs_step (o := 0) r0 (RTs_step r1 (RTs_step r2 (RTs_end (hlen.trans (by kernel_rfl)))))⟩
theorem opens117 : Opens Tryz.prog 117 (cL 3 File.c) (okL okFile) := Opens.slice Tryz.underlying117 (by kernel_rfl) (by decide) File.len opens242
theorem opens119 : Opens Tryz.prog 119 Disk.c okDisk := by
  intro H enc w fuel cs x h
  obtain ⟨xs, n, _, _, hlen, hxl, hf⟩ := DataW.trod_struct Tryz.underlying119 h
  obtain ⟨v0, o0, r0⟩ := Opens.field opens117 (k := 1) (by kernel_rfl) hxl hf (i := 0) (o := 0) rfl rfl rfl
  exact ⟨⟨v0⟩, o0, RTs_step (o := 0) r0 (RTs_end (hlen.trans (by kernel_rfl)))⟩
theorem opens121 : Opens Tryz.prog 121 Journal.c okJournal := by
  intro H enc w fuel cs x h
  obtain ⟨xs, n, _, _, hlen, hxl, hf⟩ := DataW.trod_struct Tryz.underlying121 h
  obtain ⟨v0, o0, r0⟩ := Opens.field opens3 (k := 1) (by kernel_rfl) hxl hf (i := 0) (o := 0) rfl rfl rfl
  obtain ⟨v1, o1, r1⟩ := Opens.field opens3 (k := 1) (by kernel_rfl) hxl hf (i := 1) (o := 1) rfl rfl rfl
  obtain ⟨v2, o2, r2⟩ := Opens.field opens3 (k := 1) (by kernel_rfl) hxl hf (i := 2) (o := 2) rfl rfl rfl
  obtain ⟨v3, o3, r3⟩ := Opens.field opens113 (k := 3) (by kernel_rfl) hxl hf (i := 3) (o := 3) rfl rfl rfl
  exact ⟨⟨v0, v1, v2, v3⟩, ⟨o0, o1, o2, o3⟩, RTs_step (o := 0) r0 (RTs_step r1 (RTs_step r2 (RTs_step r3 (RTs_end (hlen.trans (by kernel_rfl))))))⟩
theorem opens244 : Opens Tryz.prog 244 Session.c okSession := by
  intro H enc w fuel cs x h
  obtain ⟨xs, n, _, _, hlen, hxl, hf⟩ := DataW.trod_struct Tryz.underlying244 h
  obtain ⟨v0, o0, r0⟩ := Opens.field opens3 (k := 1) (by kernel_rfl) hxl hf (i := 0) (o := 0) rfl rfl rfl
  obtain ⟨v1, o1, r1⟩ := Opens.field opens3 (k := 1) (by kernel_rfl) hxl hf (i := 1) (o := 1) rfl rfl rfl
  obtain ⟨v2, o2, r2⟩ := Opens.field opens9 (k := 1) (by kernel_rfl) hxl hf (i := 2) (o := 2) rfl rfl rfl
  exact ⟨⟨v0, v1, v2⟩, ⟨o0, o1, o2⟩, RTs_step (o := 0) r0 (RTs_step r1 (RTs_step r2 (RTs_end (hlen.trans (by kernel_rfl)))))⟩
theorem opens122 : Opens Tryz.prog 122 (cL 3 Session.c) (okL okSession) := Opens.slice Tryz.underlying122 (by kernel_rfl) (by decide) Session.len opens244
theorem opens246 : Opens Tryz.prog 246 Item.c okItem := by
  intro H enc w fuel cs x h
  obtain ⟨xs, n, _, _, hlen, hxl, hf⟩ := DataW.trod_struct Tryz.underlying246 h
  obtain ⟨v0, o0, r0⟩ := Opens.field opens9 (k := 1) (by kernel_rfl) hxl hf (i := 0) (o := 0) rfl rfl rfl
  obtain ⟨v1, o1, r1⟩ := Opens.field opens9 (k := 1) (by kernel_rfl) hxl hf (i := 1) (o := 1) rfl rfl rfl
  obtain ⟨v2, o2, r2⟩ := Opens.field opens3 (k := 1) (by kernel_rfl) hxl hf (i := 2) (o := 2) rfl rfl rfl
  exact ⟨⟨v0, v1, v2⟩, ⟨o0, o1, o2⟩, RTs_step (o := 0) r0 (RTs_step r1 (RTs_step r2 (RTs_end (hlen.trans (by kernel_rfl)))))⟩
theorem opens123 : Opens Tryz.prog 123 (cL 3 Item.c) (okL okItem) := Opens.slice Tryz.underlying123 (by kernel_rfl) (by decide) Item.len opens246
theorem opens125 : Opens Tryz.prog 125 Keep.c okKeep := by
  intro H enc w fuel cs x h
  obtain ⟨xs, n, _, _, hlen, hxl, hf⟩ := DataW.trod_struct Tryz.underlying125 h
  obtain ⟨v0, o0, r0⟩ := Opens.field opens122 (k := 1) (by kernel_rfl) hxl hf (i := 0) (o := 0) rfl rfl rfl
  obtain ⟨v1, o1, r1⟩ := Opens.field opens123 (k := 1) (by kernel_rfl) hxl hf (i := 1) (o := 1) rfl rfl rfl
  exact ⟨⟨v0, v1⟩, ⟨o0, o1⟩, RTs_step (o := 0) r0 (RTs_step r1 (RTs_end (hlen.trans (by kernel_rfl))))⟩
theorem opens127 : Opens Tryz.prog 127 Server.c okServer := by
  intro H enc w fuel cs x h
  obtain ⟨xs, n, _, _, hlen, hxl, hf⟩ := DataW.trod_struct Tryz.underlying127 h
  obtain ⟨v0, o0, r0⟩ := Opens.field opens116 (k := 14) (by kernel_rfl) hxl hf (i := 0) (o := 0) rfl rfl rfl
  obtain ⟨v1, o1, r1⟩ := Opens.field opens119 (k := 1) (by kernel_rfl) hxl hf (i := 1) (o := 14) rfl rfl rfl
  obtain ⟨v2, o2, r2⟩ := Opens.field opens121 (k := 6) (by kernel_rfl) hxl hf (i := 2) (o := 15) rfl rfl rfl
  obtain ⟨v3, o3, r3⟩ := Opens.field opens125 (k := 2) (by kernel_rfl) hxl hf (i := 3) (o := 21) rfl rfl rfl
  obtain ⟨v4, o4, r4⟩ := Opens.field opens3 (k := 1) (by kernel_rfl) hxl hf (i := 4) (o := 23) rfl rfl rfl
  obtain ⟨v5, o5, r5⟩ := Opens.field opens9 (k := 1) (by kernel_rfl) hxl hf (i := 5) (o := 24) rfl rfl rfl
  obtain ⟨v6, o6, r6⟩ := Opens.field opens3 (k := 1) (by kernel_rfl) hxl hf (i := 6) (o := 25) rfl rfl rfl
  obtain ⟨v7, o7, r7⟩ := Opens.field opens3 (k := 1) (by kernel_rfl) hxl hf (i := 7) (o := 26) rfl rfl rfl
  exact ⟨⟨v0, v1, v2, v3, v4, v5, v6, v7⟩, ⟨o0, o1, o2, o3, o4, o5, o6, o7⟩, RTs_step (o := 0) r0 (RTs_step r1 (RTs_step r2 (RTs_step r3 (RTs_step r4 (RTs_step r5 (RTs_step r6 (RTs_step r7 (RTs_end (hlen.trans (by kernel_rfl))))))))))⟩
theorem opens23 : Opens Tryz.prog 23 (cL 27 Server.c) (okL okServer) := Opens.slice Tryz.underlying23 (by kernel_rfl) (by decide) Server.len opens127
theorem opens130 : Opens Tryz.prog 130 Message.c okMessage := by
  intro H enc w fuel cs x h
  obtain ⟨xs, n, _, _, hlen, hxl, hf⟩ := DataW.trod_struct Tryz.underlying130 h
  obtain ⟨v0, o0, r0⟩ := Opens.field opens3 (k := 1) (by kernel_rfl) hxl hf (i := 0) (o := 0) rfl rfl rfl
  obtain ⟨v1, o1, r1⟩ := Opens.field opens3 (k := 1) (by kernel_rfl) hxl hf (i := 1) (o := 1) rfl rfl rfl
  obtain ⟨v2, o2, r2⟩ := Opens.field opens3 (k := 1) (by kernel_rfl) hxl hf (i := 2) (o := 2) rfl rfl rfl
  obtain ⟨v3, o3, r3⟩ := Opens.field opens3 (k := 1) (by kernel_rfl) hxl hf (i := 3) (o := 3) rfl rfl rfl
  obtain ⟨v4, o4, r4⟩ := Opens.field opens3 (k := 1) (by kernel_rfl) hxl hf (i := 4) (o := 4) rfl rfl rfl
  obtain ⟨v5, o5, r5⟩ := Opens.field opens3 (k := 1) (by kernel_rfl) hxl hf (i := 5) (o := 5) rfl rfl rfl
  obtain ⟨v6, o6, r6⟩ := Opens.field opens3 (k := 1) (by kernel_rfl) hxl hf (i := 6) (o := 6) rfl rfl rfl
  obtain ⟨v7, o7, r7⟩ := Opens.field opens4 (k := 1) (by kernel_rfl) hxl hf (i := 7) (o := 7) rfl rfl rfl
  obtain ⟨v8, o8, r8⟩ := Opens.field opens111 (k := 1) (by kernel_rfl) hxl hf (i := 8) (o := 8) rfl rfl rfl
  obtain ⟨v9, o9, r9⟩ := Opens.field opens61 (k := 1) (by kernel_rfl) hxl hf (i := 9) (o := 9) rfl rfl rfl
  obtain ⟨v10, o10, r10⟩ := Opens.field opens9 (k := 1) (by kernel_rfl) hxl hf (i := 10) (o := 10) rfl rfl rfl
  obtain ⟨v11, o11, r11⟩ := Opens.field opens4 (k := 1) (by kernel_rfl) hxl hf (i := 11) (o := 11) rfl rfl rfl
  exact ⟨⟨v0, v1, v2, v3, v4, v5, v6, v7, v8, v9, v10, v11⟩, ⟨o0, o1, o2, o3, o4, o5, o6, o7, o8, o9, o10, o11⟩, RTs_step (o := 0) r0 (RTs_step r1 (RTs_step r2 (RTs_step r3 (RTs_step r4 (RTs_step r5 (RTs_step r6 (RTs_step r7 (RTs_step r8 (RTs_step r9 (RTs_step r10 (RTs_step r11 (RTs_end (hlen.trans (by kernel_rfl))))))))))))))⟩
theorem opens24 : Opens Tryz.prog 24 (cL 12 Message.c) (okL okMessage) := Opens.slice Tryz.underlying24 (by kernel_rfl) (by decide) Message.len opens130
theorem opens167 : Opens Tryz.prog 167 Wait.c okWait := by
  intro H enc w fuel cs x h
  obtain ⟨xs, n, _, _, hlen, hxl, hf⟩ := DataW.trod_struct Tryz.underlying167 h
  obtain ⟨v0, o0, r0⟩ := Opens.field opens3 (k := 1) (by kernel_rfl) hxl hf (i := 0) (o := 0) rfl rfl rfl
  obtain ⟨v1, o1, r1⟩ := Opens.field opens3 (k := 1) (by kernel_rfl) hxl hf (i := 1) (o := 1) rfl rfl rfl
  obtain ⟨v2, o2, r2⟩ := Opens.field opens3 (k := 1) (by kernel_rfl) hxl hf (i := 2) (o := 2) rfl rfl rfl
  obtain ⟨v3, o3, r3⟩ := Opens.field opens3 (k := 1) (by kernel_rfl) hxl hf (i := 3) (o := 3) rfl rfl rfl
  exact ⟨⟨v0, v1, v2, v3⟩, ⟨o0, o1, o2, o3⟩, RTs_step (o := 0) r0 (RTs_step r1 (RTs_step r2 (RTs_step r3 (RTs_end (hlen.trans (by kernel_rfl))))))⟩
theorem opens25 : Opens Tryz.prog 25 (cL 4 Wait.c) (okL okWait) := Opens.slice Tryz.underlying25 (by kernel_rfl) (by decide) Wait.len opens167
theorem opens133 : Opens Tryz.prog 133 Leader.c okLeader := by
  intro H enc w fuel cs x h
  obtain ⟨xs, n, _, _, hlen, hxl, hf⟩ := DataW.trod_struct Tryz.underlying133 h
  obtain ⟨v0, o0, r0⟩ := Opens.field opens3 (k := 1) (by kernel_rfl) hxl hf (i := 0) (o := 0) rfl rfl rfl
  obtain ⟨v1, o1, r1⟩ := Opens.field opens3 (k := 1) (by kernel_rfl) hxl hf (i := 1) (o := 1) rfl rfl rfl
  obtain ⟨v2, o2, r2⟩ := Opens.field opens113 (k := 3) (by kernel_rfl) hxl hf (i := 2) (o := 2) rfl rfl rfl
  exact ⟨⟨v0, v1, v2⟩, ⟨o0, o1, o2⟩, RTs_step (o := 0) r0 (RTs_step r1 (RTs_step r2 (RTs_end (hlen.trans (by kernel_rfl)))))⟩
theorem opens26 : Opens Tryz.prog 26 (cL 5 Leader.c) (okL okLeader) := Opens.slice Tryz.underlying26 (by kernel_rfl) (by decide) Leader.len opens133
theorem opens137 : Opens Tryz.prog 137 Applied.c okApplied := by
  intro H enc w fuel cs x h
  obtain ⟨xs, n, _, _, hlen, hxl, hf⟩ := DataW.trod_struct Tryz.underlying137 h
  obtain ⟨v0, o0, r0⟩ := Opens.field opens3 (k := 1) (by kernel_rfl) hxl hf (i := 0) (o := 0) rfl rfl rfl
  obtain ⟨v1, o1, r1⟩ := Opens.field opens3 (k := 1) (by kernel_rfl) hxl hf (i := 1) (o := 1) rfl rfl rfl
  obtain ⟨v2, o2, r2⟩ := Opens.field opens3 (k := 1) (by kernel_rfl) hxl hf (i := 2) (o := 2) rfl rfl rfl
  obtain ⟨v3, o3, r3⟩ := Opens.field opens135 (k := 3) (by kernel_rfl) hxl hf (i := 3) (o := 3) rfl rfl rfl
  exact ⟨⟨v0, v1, v2, v3⟩, ⟨o0, o1, o2, o3⟩, RTs_step (o := 0) r0 (RTs_step r1 (RTs_step r2 (RTs_step r3 (RTs_end (hlen.trans (by kernel_rfl))))))⟩
theorem opens27 : Opens Tryz.prog 27 (cL 6 Applied.c) (okL okApplied) := Opens.slice Tryz.underlying27 (by kernel_rfl) (by decide) Applied.len opens137
theorem opens139 : Opens Tryz.prog 139 Command.c okCommand := by
  intro H enc w fuel cs x h
  obtain ⟨xs, n, _, _, hlen, hxl, hf⟩ := DataW.trod_struct Tryz.underlying139 h
  obtain ⟨v0, o0, r0⟩ := Opens.field opens3 (k := 1) (by kernel_rfl) hxl hf (i := 0) (o := 0) rfl rfl rfl
  obtain ⟨v1, o1, r1⟩ := Opens.field opens3 (k := 1) (by kernel_rfl) hxl hf (i := 1) (o := 1) rfl rfl rfl
  obtain ⟨v2, o2, r2⟩ := Opens.field opens3 (k := 1) (by kernel_rfl) hxl hf (i := 2) (o := 2) rfl rfl rfl
  obtain ⟨v3, o3, r3⟩ := Opens.field opens9 (k := 1) (by kernel_rfl) hxl hf (i := 3) (o := 3) rfl rfl rfl
  obtain ⟨v4, o4, r4⟩ := Opens.field opens9 (k := 1) (by kernel_rfl) hxl hf (i := 4) (o := 4) rfl rfl rfl
  obtain ⟨v5, o5, r5⟩ := Opens.field opens3 (k := 1) (by kernel_rfl) hxl hf (i := 5) (o := 5) rfl rfl rfl
  exact ⟨⟨v0, v1, v2, v3, v4, v5⟩, ⟨o0, o1, o2, o3, o4, o5⟩, RTs_step (o := 0) r0 (RTs_step r1 (RTs_step r2 (RTs_step r3 (RTs_step r4 (RTs_step r5 (RTs_end (hlen.trans (by kernel_rfl))))))))⟩
theorem opens141 : Opens Tryz.prog 141 Reply.c okReply := by
  intro H enc w fuel cs x h
  obtain ⟨xs, n, _, _, hlen, hxl, hf⟩ := DataW.trod_struct Tryz.underlying141 h
  obtain ⟨v0, o0, r0⟩ := Opens.field opens3 (k := 1) (by kernel_rfl) hxl hf (i := 0) (o := 0) rfl rfl rfl
  obtain ⟨v1, o1, r1⟩ := Opens.field opens3 (k := 1) (by kernel_rfl) hxl hf (i := 1) (o := 1) rfl rfl rfl
  obtain ⟨v2, o2, r2⟩ := Opens.field opens3 (k := 1) (by kernel_rfl) hxl hf (i := 2) (o := 2) rfl rfl rfl
  obtain ⟨v3, o3, r3⟩ := Opens.field opens139 (k := 6) (by kernel_rfl) hxl hf (i := 3) (o := 3) rfl rfl rfl
  obtain ⟨v4, o4, r4⟩ := Opens.field opens9 (k := 1) (by kernel_rfl) hxl hf (i := 4) (o := 9) rfl rfl rfl
  exact ⟨⟨v0, v1, v2, v3, v4⟩, ⟨o0, o1, o2, o3, o4⟩, RTs_step (o := 0) r0 (RTs_step r1 (RTs_step r2 (RTs_step r3 (RTs_step r4 (RTs_end (hlen.trans (by kernel_rfl)))))))⟩
theorem opens28 : Opens Tryz.prog 28 (cL 10 Reply.c) (okL okReply) := Opens.slice Tryz.underlying28 (by kernel_rfl) (by decide) Reply.len opens141
theorem opens30 : Opens Tryz.prog 30 World.c okWorld := by
  intro H enc w fuel cs x h
  obtain ⟨xs, n, _, _, hlen, hxl, hf⟩ := DataW.trod_struct Tryz.underlying30 h
  obtain ⟨v0, o0, r0⟩ := Opens.field opens22 (k := 1) (by kernel_rfl) hxl hf (i := 0) (o := 0) rfl rfl rfl
  obtain ⟨v1, o1, r1⟩ := Opens.field opens23 (k := 1) (by kernel_rfl) hxl hf (i := 1) (o := 1) rfl rfl rfl
  obtain ⟨v2, o2, r2⟩ := Opens.field opens24 (k := 1) (by kernel_rfl) hxl hf (i := 2) (o := 2) rfl rfl rfl
  obtain ⟨v3, o3, r3⟩ := Opens.field opens25 (k := 1) (by kernel_rfl) hxl hf (i := 3) (o := 3) rfl rfl rfl
  obtain ⟨v4, o4, r4⟩ := Opens.field opens26 (k := 1) (by kernel_rfl) hxl hf (i := 4) (o := 4) rfl rfl rfl
  obtain ⟨v5, o5, r5⟩ := Opens.field opens27 (k := 1) (by kernel_rfl) hxl hf (i := 5) (o := 5) rfl rfl rfl
  obtain ⟨v6, o6, r6⟩ := Opens.field opens28 (k := 1) (by kernel_rfl) hxl hf (i := 6) (o := 6) rfl rfl rfl
  exact ⟨⟨v0, v1, v2, v3, v4, v5, v6⟩, ⟨o0, o1, o2, o3, o4, o5, o6⟩, RTs_step (o := 0) r0 (RTs_step r1 (RTs_step r2 (RTs_step r3 (RTs_step r4 (RTs_step r5 (RTs_step r6 (RTs_end (hlen.trans (by kernel_rfl)))))))))⟩
theorem own : ownKnob Tryz.prog.godebug = none := by kernel_rfl
theorem laidOut : laidOutB Tryz.prog = true := by kernel_rfl
set_option maxRecDepth 100000
def setc (cs : Array Value) : Obj → Obj | .cells _ t frozen => .cells cs t frozen | o => o
def laid0 : Array Value := #[.int .u64 1, .int .u64 10, .int .u64 100, .int .u64 1000, .int .u64 10000, .int .u64 100000, .int .u64 1000000, .int .u64 10000000, .int .u64 100000000, .int .u64 1000000000, .int .u64 10000000000, .int .u64 100000000000, .int .u64 1000000000000, .int .u64 10000000000000, .int .u64 100000000000000, .int .u64 1000000000000000, .int .u64 10000000000000000, .int .u64 100000000000000000, .int .u64 1000000000000000000, .int .u64 10000000000000000000]
def laid1 : Array Value := #[.int .u8 0, .int .u8 1, .int .u8 28, .int .u8 2, .int .u8 29, .int .u8 14, .int .u8 24, .int .u8 3, .int .u8 30, .int .u8 22, .int .u8 20, .int .u8 15, .int .u8 25, .int .u8 17, .int .u8 4, .int .u8 8, .int .u8 31, .int .u8 27, .int .u8 13, .int .u8 23, .int .u8 21, .int .u8 19, .int .u8 16, .int .u8 7, .int .u8 26, .int .u8 12, .int .u8 18, .int .u8 6, .int .u8 11, .int .u8 5, .int .u8 10, .int .u8 9]
def laid2 : Array Value := #[.int .u8 0, .int .u8 1, .int .u8 56, .int .u8 2, .int .u8 57, .int .u8 49, .int .u8 28, .int .u8 3, .int .u8 61, .int .u8 58, .int .u8 42, .int .u8 50, .int .u8 38, .int .u8 29, .int .u8 17, .int .u8 4, .int .u8 62, .int .u8 47, .int .u8 59, .int .u8 36, .int .u8 45, .int .u8 43, .int .u8 51, .int .u8 22, .int .u8 53, .int .u8 39, .int .u8 33, .int .u8 30, .int .u8 24, .int .u8 18, .int .u8 12, .int .u8 5, .int .u8 63, .int .u8 55, .int .u8 48, .int .u8 27, .int .u8 60, .int .u8 41, .int .u8 37, .int .u8 16, .int .u8 46, .int .u8 35, .int .u8 44, .int .u8 21, .int .u8 52, .int .u8 32, .int .u8 23, .int .u8 11, .int .u8 54, .int .u8 26, .int .u8 40, .int .u8 15, .int .u8 34, .int .u8 20, .int .u8 31, .int .u8 10, .int .u8 25, .int .u8 14, .int .u8 19, .int .u8 9, .int .u8 13, .int .u8 8, .int .u8 7, .int .u8 6]
noncomputable def laidWorld (os : Os) : Go.World :=
  { Go.World.holding Tryz.prog os ⟨#[], #[], []⟩ with heap := ((((Go.World.holding Tryz.prog os ⟨#[], #[], []⟩).heap.modify 0 (setc laid0)).modify 1 (setc laid1)).modify 2 (setc laid2)) }
theorem laid_met (os : Os) (args : Array Value) : laidMetH Tryz.prog Rows.fnExactSoundRow.laid ((laidWorld os).forCall (fun _ _ => 0) ⟨#[], args, []⟩).memory :=
  show laidMet Tryz.prog Rows.fnExactSoundRow.laid _ from laidMet_of_run3 8 (by kernel_rfl) (by kernel_rfl) (by kernel_rfl)
theorem tabOf {W : Go.World} (h : laidMetH Tryz.prog Rows.fnExactSoundRow.laid W) : Tb Tryz.prog W [] := by
  have h1 : laidMet Tryz.prog Rows.fnExactSoundRow.laid W := h
  refine ⟨fun g hg1 => ?_, fun nm hn g hg1 => ?_⟩
  · have hg : Tryz.prog.globalNamed "internal/strconv.uint64pow10" = some 0 := by kernel_rfl
    have ht : Lib.TabIs Tryz.prog W "internal/strconv.uint64pow10" .u64 Lib.pow10Tab := Lib.tabIs_of_head hg (by kernel_rfl) Tryz.underlying268 Tryz.underlying261 (by kernel_rfl) (by kernel_rfl) (h1.tail.tail)
    obtain rfl := Option.some.inj (hg.symm.trans hg1)
    refine ⟨by simp, ?_, ht⟩
    have hv : W.var? Tryz.prog "internal/strconv.uint64pow10" = some _ := ht
    unfold Go.World.var? at hv
    rw [hg, Option.bind_some] at hv
    rcases Nat.lt_or_ge 0 W.heap.size with hl | hl
    · exact hl
    · rw [Array.getElem?_eq_none hl] at hv; cases hv
  rcases List.mem_cons.1 hn with rfl | hn
  · skip
    rw [show Tryz.prog.globalNamed "strconv.ErrSyntax" = none by kernel_rfl] at hg1; cases hg1
  · skip
    obtain rfl := List.mem_singleton.1 hn
    rw [show Tryz.prog.globalNamed "strconv.ErrRange" = none by kernel_rfl] at hg1; cases hg1
set_option maxRecDepth 100000 in
theorem lifted (os : Os) (started : os.Started) (H : Type) (enc : TypeId × Value → H) :
    ReturnsInHanded {} Tryz.checked os 5 .any (fun w args => (Rows.fnExactSoundSpec.pre enc Tryz.prog Tryz.f5 Rows.fnExactSoundRow.domain false w args ∧ laidMetH Tryz.prog Rows.fnExactSoundRow.laid w) ∧ sizedMet enc Tryz.prog Tryz.f5 (OpenSpec.ofChange Rows.fnExactSoundSpec) false w args) (Rows.fnExactSoundSpec.post enc Tryz.prog Tryz.f5 false true false false) := by
  refine returnsInHanded_of_change_and (C := Tryz.checked) (X := fun w _ => laidMetH Tryz.prog Rows.fnExactSoundRow.laid w) (fun _ _ _ hh h => h.of_heap hh) own started (by kernel_rfl) Tryz.func5
    (ChangeSpec.witness_at (enc := enc) (C := Tryz.checked) (os := os) (X := fun w _ => laidMetH Tryz.prog Rows.fnExactSoundRow.laid w) false (laidWorld os) #[.agg #[.slice none 0 0, .slice none 0 0, .slice none 0 0, .slice none 0 0, .slice none 0 0, .slice none 0 0, .slice none 0 0]] 8 rfl (by kernel_rfl) (by kernel_rfl) (by kernel_rfl) (by kernel_rfl) (by kernel_rfl) (laid_met os _)) ?_
  intro W base args ds gs before hval0 hW hcnd hsz0 hL _
  have hval : ∀ (j : Nat) t v, Tryz.f5.params[j]? = some t → args[j]? = some v → Value.okWide Tryz.prog W .any base t v := hval0
  have hW' := hW
  obtain ⟨p, q, hA0, hV, rfl, hfz, hnd⟩ := hW
  have hA : DataW.TrodAll enc Tryz.prog W 0 (fun _ => true) true Tryz.f5.params.toList args.toList ds p := hA0
  rw [Tryz.params5] at hA hval
  obtain ⟨v0, vs0, d0, ds0, p0, q0, hargs, rfl, rfl, h0, r0⟩ := trodAll_cons hA
  obtain ⟨rfl, rfl, rfl⟩ := trodAll_nil r0
  obtain rfl : args = #[v0] := by cases args; simp_all
  obtain ⟨rfl, rfl⟩ := trodVars_none hV
  obtain ⟨c0, rfl, _⟩ := okWide_struct Tryz.underlying30 (hval 0 30 v0 rfl rfl)
  obtain ⟨x0, k0, t0⟩ := Opens.agg opens30 h0
  have lt0 : ∀ x ∈ p0, x.block < W.heap.size := by obtain ⟨m, hm⟩ := h0; exact DataW.trod_lt m _ _ _ hm
  clear hA0 hval0 hsz0
  refine ((laws_FnExactSound_fn x0 k0).2 W [_] [] (fx W []) (tabOf hL) (fun b hb => hb) ⟨_, _, [], [], rfl, rfl, t0, ⟨rfl, rfl⟩⟩ (by simp) (by simp)).mono fun e W' ⟨x, b1, b2, he, hs, hr, _⟩ => ?_
  have bel := hs.below
  subst he
  simp only [OR, OR1, CR, OT] at hr
  obtain ⟨rfl, _⟩ := hr
  exact ⟨_, rfl, _, _, _, [], _, [], hW', trodAll_mk1 (shut_bool Tryz.underlying4 _), (trodAll_cons_mk (Below.trod laidOut (by kernel_rfl) (of_decide_eq_true (by kernel_rfl)) h0 bel lt0) trodAll_mk0), rfl, bel.frame _, fun h => by cases h⟩
theorem over : Rows.fnExactSoundRow.holds Tryz.pinned (OpenSpec.ofChange Rows.fnExactSoundSpec) :=
  OpenClaim.holds_of_wide 5 Tryz.f5 rfl rfl rfl rfl rfl rfl rfl ⟨rfl, rfl, rfl, rfl, rfl⟩ rfl rfl rfl rfl rfl (by kernel_rfl) Tryz.func5 (by kernel_rfl)
    (of_decide_eq_true (by kernel_rfl)) (by unfold Func.isWrapper; first | (rw [if_pos (by decide +kernel)]; kernel_rfl) | (rw [if_neg (by decide +kernel)]; exact ⟨rfl, rfl⟩))
    (fun os started H enc _ => lifted os started H enc)
theorem proved : Rows.FnExactSoundSaid := over
theorem card : Rows.FnExactSoundCardSaid :=
  Claim7.holds_tied_plain_at .later [] [.data, .data, .data] true (true, "aca8db4fe1b57d8a50ae04ccdf6dd3867f2956c120a84f555c93570670ac3d51") false
    over (fun _ h => by cases h) (by kernel_rfl) (fun _ h => by cases h) fnExactSound_row_tie rfl ⟨rfl, rfl⟩ (by kernel_rfl) rfl
    (fun f fn hf hfn => by
      obtain rfl : f = 5 := Option.some.inj ((show Tryz.prog.funcNamed Rows.fnExactSoundRow.func = some 5 by kernel_rfl).symm.trans hf) |>.symm
      obtain rfl : fn = Tryz.f5 := (Option.some.inj (Tryz.func5.symm.trans hfn)).symm
      exact ⟨by kernel_rfl, fun j t ht => by
        rw [Tryz.params5] at ht
        have hm : t ∈ [30] := by simpa using Array.mem_of_getElem? ht
        have hall : ([30].all fun u => !Tryz.prog.wantsStandIn u) = true := by kernel_rfl
        exact (show Tryz.prog.wantsStandIn t = false by simpa using List.all_eq_true.1 hall t hm)⟩)
    (by kernel_rfl)
#print axioms card
end Go.Proofs.YtdipdkfbaehglaaGreatDoor.fnExactSound
