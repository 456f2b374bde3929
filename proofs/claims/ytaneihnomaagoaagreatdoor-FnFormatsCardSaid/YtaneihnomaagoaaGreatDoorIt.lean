import Derived.Test.YtaneihnomaagoaaGreatDoorEng16
import Derived.Test.YtaneihnomaagoaaGreatDoorEng39
import Derived.Shelf.Lay
import Derived.Shelf.LaysM
import Derived.Shelf.Strconv.Itoa3
import Derived.Test.YtaneihnomaagoaaGreatDoorProg
namespace Go.Proofs
open Go.Shelf
open Go.RowKit Go.Sort Go.Lib in
shelf_lay LaysM.n171 Nm 171 at Tryz as Tryz.laysM171
end Go.Proofs
namespace Go.Proofs.YtaneihnomaagoaaGreatDoor.Y
open Go Go.RowKit Go.Eng
def itoaB (n : Int) : ByteArray := ⟨(Lib.itoa n).toArray⟩
theorem strconv_Itoa_fn (n : Int) (hn : okI n) : Eng.Fn Tryz.prog 163 [.one (.r (.v (.int .i64 n)))] (.one (.one (.w (.v (.string (itoaB n)))))) [.one (.r (.v (.int .i64 n)))] := by
  refine ⟨⟨_, Tryz.func163, by kernel_rfl, by kernel_rfl⟩, ?_⟩
  intro w vs bs G htb hG hA hnd hlt
  have hb : -9223372036854775808 ≤ n ∧ n ≤ 9223372036854775807 := by
    have h := hn
    simp [okI, Lit.wf] at h
    exact h
  obtain ⟨x, xs, b1, b2, rfl, rfl, h1, h2⟩ := hA
  obtain ⟨rfl, rfl⟩ := h2
  simp only [AR, CR, RT] at h1
  obtain ⟨rfl, rfl⟩ := h1
  have ht : Lib.TabIs Tryz.prog w "internal/strconv.uint64pow10" .u64 Lib.pow10Tab := by
    have h1 : (Tryz.prog.globalNamed "internal/strconv.uint64pow10").isSome = true := by kernel_rfl
    obtain ⟨g, hg⟩ := Option.isSome_iff_exists.1 h1
    exact (htb.1 g hg).2.2
  refine (Any.strconv_Itoa Tryz.laysM171 n hb.1 hb.2 w ht).mono ?_
  rintro e w' ⟨rfl, k, os, rfl⟩
  refine ⟨_, [], [], rfl, ⟨rfl, rfl, rfl, by simp [Sort.grow], fun b hb _ => ?_⟩, ?_, ?_, by simp, by simp⟩
  · simp [Sort.grow, Array.getElem?_append, hb]
  · simp [OR, OR1, CR, OT, itoaB]
  · exact ⟨_, _, [], [], rfl, rfl, by simp [AR, CR, RT], rfl, rfl⟩
end Go.Proofs.YtaneihnomaagoaaGreatDoor.Y
