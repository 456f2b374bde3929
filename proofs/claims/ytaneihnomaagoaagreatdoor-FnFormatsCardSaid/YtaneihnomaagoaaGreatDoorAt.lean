import Derived.Test.YtaneihnomaagoaaGreatDoorIt
import Derived.Test.YtaneihnomaagoaaGreatDoorEng45
import Derived.Test.YtaneihnomaagoaaGreatDoorEng42
import Derived.Laws.Strings
import Derived.Shelf.LaysC
import Derived.Shelf.Strconv.AtoiAll
import Derived.Lib.AtoiTie
namespace Go.Proofs
open Go.Shelf
open Go.RowKit Go.Sort Go.Lib in
shelf_lay LaysC.n172 Nm 172 at Tryz as Tryz.laysC172
end Go.Proofs
namespace Go.Proofs.YtaneihnomaagoaaGreatDoor.Y
open Go Go.RowKit Go.Eng
/-- What strconv.Atoi tells. -/
structure AtR (t : ByteArray) where
  v : Int
  e : Value
  h : (e = .nilIface ∧ Lib.atoiAll t.toList = .ok v) ∨ ((∃ te pe, e = .iface te pe) ∧ ∀ z, Lib.atoiAll t.toList ≠ .ok z)
theorem strconv_Atoi_fn (t : ByteArray) (ht : t.size ≤ 1048576) : Eng.FnX Tryz.prog 227 [.one (.r (.v (.string t)))] (fun y : AtR t => .tup [.one (.w (.v (.int .i64 y.v))), .one (.w (.v y.e))]) (fun _ => [.one (.r (.v (.string t)))]) := by
  refine ⟨⟨_, Tryz.func227, by kernel_rfl, by kernel_rfl⟩, ?_⟩
  intro w vs bs G htb hG hA hnd hlt
  obtain ⟨x, xs, b1, b2, rfl, rfl, h1, h2⟩ := hA
  obtain ⟨rfl, rfl⟩ := h2
  simp only [AR, CR, RT] at h1
  obtain ⟨rfl, rfl⟩ := h1
  have hL : t.data.toList = t.toList := by rw [ByteArray.toList_eq]
  have hst : ∀ {w' : World}, Below w.heap.size w w' → Stp w w' [] := fun h => ⟨h.os, h.tape, h.output, h.size, fun b hb _ => h.block b hb⟩
  cases ha : Lib.atoiAll t.data.toList
  · rename_i v
    refine (Any.strconv_Atoi_ok Tryz.laysC172 t (by omega) v ha w).mono ?_
    rintro e w' ⟨rfl, hw⟩
    have hs : Stp w w' [] := by
      rcases hw with rfl | ⟨q, rfl⟩
      · exact Stp.refl _ _
      · exact hst (Lib.bytesWorld_below _ _ _)
    refine ⟨⟨v, .nilIface, .inl ⟨rfl, hL ▸ ha⟩⟩, _, [], [], rfl, hs, ?_, ?_, by simp, by simp⟩
    · exact ⟨[.int .i64 v, .nilIface], rfl, _, _, [], [], rfl, rfl, by simp [OR1, CR, OT], _, _, [], [], rfl, rfl, by simp [OR1, CR, OT], rfl, rfl⟩
    · exact ⟨_, _, [], [], rfl, rfl, by simp [AR, CR, RT], rfl, rfl⟩
  · have hg : Tryz.prog.globalNamed "strconv.ErrSyntax" = some 1 := by kernel_rfl
    obtain ⟨_, _, ev, hv, hev⟩ := htb.2 "strconv.ErrSyntax" (by simp) _ hg
    refine (Any.strconv_Atoi_syntax Tryz.laysC172 t (by omega) ha ev w hv hev).mono ?_
    rintro e w' ⟨N, rfl, _, _, hb⟩
    refine ⟨⟨0, .iface (Tryz.laysC172_ren.t 168) (.pointer (some ⟨N, 0, none⟩)), .inr ⟨⟨_, _, rfl⟩, fun z hz => ?_⟩⟩, _, [], [], rfl, hst hb, ?_, ?_, by simp, by simp⟩
    · rw [← hL, ha] at hz; cases hz
    · exact ⟨[.int .i64 0, _], rfl, _, _, [], [], rfl, rfl, by simp [OR1, CR, OT], _, _, [], [], rfl, rfl, by simp [OR1, CR, OT], rfl, rfl⟩
    · exact ⟨_, _, [], [], rfl, rfl, by simp [AR, CR, RT], rfl, rfl⟩
  · have hg : Tryz.prog.globalNamed "strconv.ErrRange" = some 2 := by kernel_rfl
    obtain ⟨_, _, ev, hv, hev⟩ := htb.2 "strconv.ErrRange" (by simp) _ hg
    refine (Any.strconv_Atoi_range Tryz.laysC172 t (by omega) ha ev w hv hev).mono ?_
    rintro e w' ⟨N, rfl, _, _, hb⟩
    refine ⟨⟨Lib.atoiSat t.data.toList, .iface (Tryz.laysC172_ren.t 168) (.pointer (some ⟨N, 0, none⟩)), .inr ⟨⟨_, _, rfl⟩, fun z hz => ?_⟩⟩, _, [], [], rfl, hst hb, ?_, ?_, by simp, by simp⟩
    · rw [← hL, ha] at hz; cases hz
    · exact ⟨[.int .i64 _, _], rfl, _, _, [], [], rfl, rfl, by simp [OR1, CR, OT], _, _, [], [], rfl, rfl, by simp [OR1, CR, OT], rfl, rfl⟩
    · exact ⟨_, _, [], [], rfl, rfl, by simp [AR, CR, RT], rfl, rfl⟩
end Go.Proofs.YtaneihnomaagoaaGreatDoor.Y
