import Derived.Test.YtaneihnomaagoaaGreatDoorPu
import Derived.Test.YtaneihnomaagoaaGreatDoorEng45
import Derived.Test.YtaneihnomaagoaaGreatDoorProg
namespace Go.Proofs.YtaneihnomaagoaaGreatDoor.Y
open Go Go.RowKit Go.Eng Go.Proofs
set_option maxRecDepth 10000
theorem q1 {p : Prop} (h : p := by have h9 := varTs_size [j.log.start, j.log.startTerm]; simp only [List.length_cons, List.length_nil] at h9; have h7 : (⟨#[66]⟩ : ByteArray).size = 1 := rfl; first | (simp only [maxLen, h7]; omega) | (have a1 := frT_size (⟨#[66]⟩ ++ varTs [j.log.start, j.log.startTerm]); have a2 := frT_size (⟨#[72]⟩ ++ varTs [0, 0]); have a3 : (⟨#[]⟩ : ByteArray).size = 0 := rfl; simp only [ByteArray.size_append, maxLen, a3]; omega)) : p := h
theorem q2 {p : Prop} (h : p := by first | (have h1 := varTs_size [((k.sessions.length : Nat) : Int)]; have h2 := varTs_size [((k.items.length : Nat) : Int)]; simp only [List.length_cons, List.length_nil] at h1 h2; simp only [ByteArray.size_append, maxLen]; omega) | (have h8 := hP.size; have h1 := shTs_size [ej.key, ej.val]; have h2 := varTs_size [ej.ver]; simp only [List.length_cons, List.length_nil] at h1 h2; simp only [ByteArray.size_append, maxLen]; omega)) : p := h
theorem q3 {p : Prop} (h : p := by unfold belowN; simp at h1; first | (rw [if_pos h1]; done) | (rw [if_neg (by omega)]; simp at h2; first | (rw [if_pos h2]; done) | (rw [if_neg (by omega)]; done))) : p := h
theorem q4 {p : Prop} (h : p := by have h1 := hok.1.1; have h2 := hok.2.1; simp only [maxLen, List.length_nil]; omega) : p := h
theorem q5 {p : Prop} (h : p := by unfold byteN; first | (rw [if_pos (by simpa using h1)]; rfl) | (rw [if_neg (by simpa using h1)]; rfl)) : p := h
theorem q6 {p : Prop} (h : p := by have h9 := hP.len; simp only [maxLen, List.length_singleton]; omega) : p := h
theorem q7 {p : Prop} (h : p := by intro y; simp [outSlots, moved, rvSlot, sl]) : p := h
theorem q8 {p : Prop} (h : p := by exact (eqS_ne (by have := h1; simp at this; omega)).symm) : p := h
theorem q9 {p : Prop} (h : p := by simp only [maxLen, List.length_singleton]; omega) : p := h
theorem q10 {p : Prop} (h : p := by rw [← hr, eqS_step hei heb, if_neg (by simpa using he9)]) : p := h
def tl : List (Nat × TyI) := [
(3, ⟨1, 8, [.int .i64 0], .prim⟩),
(4, ⟨1, 1, [.bool false], .prim⟩),
(5, ⟨1, 1, [.int .u8 0], .prim⟩),
(9, ⟨1, 16, [.string ⟨#[]⟩], .prim⟩),
(22, ⟨1, 24, [.slice none 0 0], .slice 5⟩),
(24, ⟨1, 24, [.slice none 0 0], .slice 3⟩),
(26, ⟨1, 24, [.slice none 0 0], .slice 80⟩),
(28, ⟨1, 24, [.slice none 0 0], .agg [(0, 26, 1)]⟩),
(32, ⟨1, 24, [.slice none 0 0], .slice 166⟩),
(34, ⟨3, 40, [.int .i64 0, .int .i64 0, .slice none 0 0], .agg [(0, 3, 1), (1, 3, 1), (2, 32, 1)]⟩),
(35, ⟨1, 24, [.slice none 0 0], .slice 227⟩),
(37, ⟨14, 176, [.int .i64 0, .int .i64 0, .int .i64 0, .int .i64 0, .int .i64 0, .slice none 0 0, .int .i64 0, .int .i64 0, .slice none 0 0, .int .i64 0, .int .i64 0, .int .i64 0, .slice none 0 0, .slice none 0 0], .agg [(0, 3, 1), (1, 3, 1), (2, 3, 1), (3, 3, 1), (4, 3, 1), (5, 24, 1), (6, 34, 3), (9, 3, 1), (10, 3, 1), (11, 3, 1), (12, 24, 1), (13, 35, 1)]⟩),
(39, ⟨6, 64, [.int .i64 0, .int .i64 0, .int .i64 0, .int .i64 0, .int .i64 0, .slice none 0 0], .agg [(0, 3, 1), (1, 3, 1), (2, 3, 1), (3, 34, 3)]⟩),
(40, ⟨1, 24, [.slice none 0 0], .slice 136⟩),
(41, ⟨1, 24, [.slice none 0 0], .slice 139⟩),
(43, ⟨2, 48, [.slice none 0 0, .slice none 0 0], .agg [(0, 40, 1), (1, 41, 1)]⟩),
(45, ⟨27, 352, [.int .i64 0, .int .i64 0, .int .i64 0, .int .i64 0, .int .i64 0, .slice none 0 0, .int .i64 0, .int .i64 0, .slice none 0 0, .int .i64 0, .int .i64 0, .int .i64 0, .slice none 0 0, .slice none 0 0, .slice none 0 0, .int .i64 0, .int .i64 0, .int .i64 0, .int .i64 0, .int .i64 0, .slice none 0 0, .slice none 0 0, .slice none 0 0, .int .i64 0, .string ⟨#[]⟩, .int .i64 0, .int .i64 0], .agg [(0, 37, 14), (14, 28, 1), (15, 39, 6), (21, 43, 2), (23, 3, 1), (24, 9, 1), (25, 3, 1), (26, 3, 1)]⟩),
(46, ⟨1, 24, [.slice none 0 0], .slice 153⟩),
(77, ⟨4, 56, [.int .i64 0, .int .i64 0, .slice none 0 0, .string ⟨#[]⟩], .agg [(0, 3, 1), (1, 3, 1), (2, 24, 1), (3, 9, 1)]⟩),
(80, ⟨3, 40, [.string ⟨#[]⟩, .string ⟨#[]⟩, .int .i64 0], .agg [(0, 9, 1), (1, 9, 1), (2, 3, 1)]⟩),
(105, ⟨1, 24, [.slice none 0 0], .slice 9⟩),
(129, ⟨3, 40, [.slice none 0 0, .int .i64 0, .int .i64 0], .agg [(0, 22, 1), (1, 3, 1), (2, 3, 1)]⟩),
(136, ⟨3, 32, [.int .i64 0, .int .i64 0, .string ⟨#[]⟩], .agg [(0, 3, 1), (1, 3, 1), (2, 9, 1)]⟩),
(139, ⟨3, 40, [.string ⟨#[]⟩, .string ⟨#[]⟩, .int .i64 0], .agg [(0, 9, 1), (1, 9, 1), (2, 3, 1)]⟩),
(145, ⟨3, 32, [.string ⟨#[]⟩, .int .i64 0, .bool false], .agg [(0, 9, 1), (1, 3, 1), (2, 4, 1)]⟩),
(153, ⟨4, 56, [.int .i64 0, .string ⟨#[]⟩, .string ⟨#[]⟩, .string ⟨#[]⟩], .agg [(0, 3, 1), (1, 9, 1), (2, 9, 1), (3, 9, 1)]⟩),
(166, ⟨3, 32, [.int .i64 0, .int .i64 0, .string ⟨#[]⟩], .agg [(0, 3, 1), (1, 3, 1), (2, 9, 1)]⟩),
(171, ⟨6, 64, [.int .i64 0, .int .i64 0, .int .i64 0, .string ⟨#[]⟩, .string ⟨#[]⟩, .int .i64 0], .agg [(0, 3, 1), (1, 3, 1), (2, 3, 1), (3, 9, 1), (4, 9, 1), (5, 3, 1)]⟩),
(227, ⟨4, 32, [.int .i64 0, .int .i64 0, .int .i64 0, .int .i64 0], .agg [(0, 3, 1), (1, 3, 1), (2, 3, 1), (3, 3, 1)]⟩)]
theorem tl_ok : ∀ p ∈ tl, tyI Tryz.prog p.1 = some p.2 := by
 refine List.forall_mem_cons.2 ⟨by kernel_rfl, ?_⟩
 refine List.forall_mem_cons.2 ⟨by kernel_rfl, ?_⟩
 refine List.forall_mem_cons.2 ⟨by kernel_rfl, ?_⟩
 refine List.forall_mem_cons.2 ⟨by kernel_rfl, ?_⟩
 refine List.forall_mem_cons.2 ⟨by kernel_rfl, ?_⟩
 refine List.forall_mem_cons.2 ⟨by kernel_rfl, ?_⟩
 refine List.forall_mem_cons.2 ⟨by kernel_rfl, ?_⟩
 refine List.forall_mem_cons.2 ⟨by kernel_rfl, ?_⟩
 refine List.forall_mem_cons.2 ⟨by kernel_rfl, ?_⟩
 refine List.forall_mem_cons.2 ⟨by kernel_rfl, ?_⟩
 refine List.forall_mem_cons.2 ⟨by kernel_rfl, ?_⟩
 refine List.forall_mem_cons.2 ⟨by kernel_rfl, ?_⟩
 refine List.forall_mem_cons.2 ⟨by kernel_rfl, ?_⟩
 refine List.forall_mem_cons.2 ⟨by kernel_rfl, ?_⟩
 refine List.forall_mem_cons.2 ⟨by kernel_rfl, ?_⟩
 refine List.forall_mem_cons.2 ⟨by kernel_rfl, ?_⟩
 refine List.forall_mem_cons.2 ⟨by kernel_rfl, ?_⟩
 refine List.forall_mem_cons.2 ⟨by kernel_rfl, ?_⟩
 refine List.forall_mem_cons.2 ⟨by kernel_rfl, ?_⟩
 refine List.forall_mem_cons.2 ⟨by kernel_rfl, ?_⟩
 refine List.forall_mem_cons.2 ⟨by kernel_rfl, ?_⟩
 refine List.forall_mem_cons.2 ⟨by kernel_rfl, ?_⟩
 refine List.forall_mem_cons.2 ⟨by kernel_rfl, ?_⟩
 refine List.forall_mem_cons.2 ⟨by kernel_rfl, ?_⟩
 refine List.forall_mem_cons.2 ⟨by kernel_rfl, ?_⟩
 refine List.forall_mem_cons.2 ⟨by kernel_rfl, ?_⟩
 refine List.forall_mem_cons.2 ⟨by kernel_rfl, ?_⟩
 refine List.forall_mem_cons.2 ⟨by kernel_rfl, ?_⟩
 refine List.forall_mem_cons.2 ⟨by kernel_rfl, ?_⟩
 exact fun _ h => by cases h
noncomputable def E : Env := ⟨Tryz.prog, lk tl, fun t i h => tl_ok (t, i) (lk_mem _ _ _ h), by kernel_rfl⟩
def kl : List (Nat × TypeDesc) := [(3, .int .i64), (4, .bool), (5, .int .u8), (9, .string), (207, .int .u32)]
theorem kl_ok : ∀ p ∈ kl, Tryz.prog.underlying p.1 = some p.2 := by
 refine List.forall_mem_cons.2 ⟨by kernel_rfl, ?_⟩
 refine List.forall_mem_cons.2 ⟨by kernel_rfl, ?_⟩
 refine List.forall_mem_cons.2 ⟨by kernel_rfl, ?_⟩
 refine List.forall_mem_cons.2 ⟨by kernel_rfl, ?_⟩
 refine List.forall_mem_cons.2 ⟨by kernel_rfl, ?_⟩
 exact fun _ h => by cases h
noncomputable def XK : Kd E.P := ⟨lk kl, fun t d h => kl_ok (t, d) (lk_mem _ _ _ h)⟩
theorem eq136_in (x y : Session) (n : Nat) (w : Go.World) : (Op.equalIn (n + 2) 136 (.agg x.vs.toArray) (.agg y.vs.toArray)).run Tryz.prog w = .ok (eqSession x y) w := by
 refine eqA_of Tryz.underlying136 (by kernel_rfl) ?_
 refine eqF_cons (by rfl) (by go_simp; rfl) (by go_simp; rfl) (by go_simp) ?_
 refine eqF_cons (by rfl) (by go_simp; rfl) (by go_simp; rfl) (by go_simp) ?_
 exact eqF_last (by rfl) (by go_simp; rfl) (by go_simp; rfl) (by go_simp)
theorem eq136 (x y : Session) (w : Go.World) : (Op.equal 136 (.agg x.vs.toArray) (.agg y.vs.toArray)).run E.P w = .ok (eqSession x y) w := eq136_in x y 9998 w
theorem eq139_in (x y : Item) (n : Nat) (w : Go.World) : (Op.equalIn (n + 2) 139 (.agg x.vs.toArray) (.agg y.vs.toArray)).run Tryz.prog w = .ok (eqItem x y) w := by
 refine eqA_of Tryz.underlying139 (by kernel_rfl) ?_
 refine eqF_cons (by rfl) (by go_simp; rfl) (by go_simp; rfl) (by go_simp) ?_
 refine eqF_cons (by rfl) (by go_simp; rfl) (by go_simp; rfl) (by go_simp) ?_
 exact eqF_last (by rfl) (by go_simp; rfl) (by go_simp; rfl) (by go_simp)
theorem eq139 (x y : Item) (w : Go.World) : (Op.equal 139 (.agg x.vs.toArray) (.agg y.vs.toArray)).run E.P w = .ok (eqItem x y) w := eq139_in x y 9998 w
theorem eq166_in (x y : Entry) (n : Nat) (w : Go.World) : (Op.equalIn (n + 2) 166 (.agg x.vs.toArray) (.agg y.vs.toArray)).run Tryz.prog w = .ok (eqEntry x y) w := by
 refine eqA_of Tryz.underlying166 (by kernel_rfl) ?_
 refine eqF_cons (by rfl) (by go_simp; rfl) (by go_simp; rfl) (by go_simp) ?_
 refine eqF_cons (by rfl) (by go_simp; rfl) (by go_simp; rfl) (by go_simp) ?_
 exact eqF_last (by rfl) (by go_simp; rfl) (by go_simp; rfl) (by go_simp)
theorem eq166 (x y : Entry) (w : Go.World) : (Op.equal 166 (.agg x.vs.toArray) (.agg y.vs.toArray)).run E.P w = .ok (eqEntry x y) w := eq166_in x y 9998 w
theorem eq171_in (x y : Command) (n : Nat) (w : Go.World) : (Op.equalIn (n + 2) 171 (.agg x.vs.toArray) (.agg y.vs.toArray)).run Tryz.prog w = .ok (eqCommand x y) w := by
 refine eqA_of Tryz.underlying171 (by kernel_rfl) ?_
 refine eqF_cons (by rfl) (by go_simp; rfl) (by go_simp; rfl) (by go_simp) ?_
 refine eqF_cons (by rfl) (by go_simp; rfl) (by go_simp; rfl) (by go_simp) ?_
 refine eqF_cons (by rfl) (by go_simp; rfl) (by go_simp; rfl) (by go_simp) ?_
 refine eqF_cons (by rfl) (by go_simp; rfl) (by go_simp; rfl) (by go_simp) ?_
 refine eqF_cons (by rfl) (by go_simp; rfl) (by go_simp; rfl) (by go_simp) ?_
 exact eqF_last (by rfl) (by go_simp; rfl) (by go_simp; rfl) (by go_simp)
theorem eq171 (x y : Command) (w : Go.World) : (Op.equal 171 (.agg x.vs.toArray) (.agg y.vs.toArray)).run E.P w = .ok (eqCommand x y) w := eq171_in x y 9998 w
set_option maxHeartbeats 4000000 in
theorem laws_big_fn (c : List Int) : Eng.Fn E.P 5 [.one (.r (sl 1 cU c))] (.one (.one (.w (.v (.bool (decide ((c.length : Int) > 1048576))))))) [.one (.r (sl 1 cU c))] := by
 refine Eng.Fn.intro (E := E) (rvs := [.tmp 2]) Tryz.func5 rfl rfl rfl (by simp [outSlots, moved, rvSlot, sl]) ?_
 intro B g bo
 refine CW.bound (x := .tmp 0) (n := c.length) (AsT.r) (fun hl0 => ?_)
 refine CW.g XK 6 [.e [0],.n 2,.e [2]] rfl rfl rfl ?_
 refine CW.ret ?_
 exact Post.one (RV.b rfl (by rfl)) (AOs.r AOs.e)
set_option maxHeartbeats 4000000 in
theorem spec_l01New_fn (code : List Int) : Eng.Fn E.P 22 [.one (.r (sl 1 cU code))] (.one (.ob ((l01Cur.c (cur0 code)).map .r))) [.one (.r (sl 1 cU code))] := by
 refine Eng.Fn.intro (E := E) (rvs := [.tmp 2]) Tryz.func22 rfl rfl rfl (by simp [outSlots, moved, rvSlot, sl]) ?_
 intro B g bo
 refine CW.bound (x := .tmp 0) (n := code.length) (AsT.r) (fun hl0 => ?_)
 refine CW.g XK 32 [.e [0],.n 2,.e [0,3],.n 1,.e [0,3,4],.p] rfl rfl rfl ?_
 refine CW.loopI 32 (fun (zz : Nat × Int) => match zz with | (i, h) => [(0, .r (sl 1 cU code)), (3, I h), (4, I (i : Int))]) (fun (zz : Nat × Int) => match zz with | (i, h) => i ≤ code.length ∧ i ≤ 4000 ∧ h = (code.take i).foldl hashStep (IntKind.i64.wrap (37401 + (code.length : Int)))) (fun (zz : Nat × Int) => match zz with | (i, h) => code.length - i) (0, _) rfl (Le.c rfl <| Le.c rfl <| Le.c rfl <| Le.e) ⟨by omega, by omega, rfl⟩ ?_
 rintro ⟨i, h⟩ ⟨hb, hq4, hh⟩
 refine CW.g XK 32 [.p] rfl rfl rfl ?_
 refine CW.seqJ 32 (fun (v1 : Bool) => [(0, .r (sl 1 cU code)), (3, I h), (4, I (i : Int)), (15, Bo v1)]) (fun v1 => v1 = (decide ((i : Int) < (code.length : Int)) && decide ((i : Int) < 4000))) ?_ ?_
 refine CW.g XK 32 [.o 5] rfl rfl rfl ?_
 refine RW.gv rfl rfl rfl rfl (fun h2 => V.mv (d := I (i : Int)) rfl rfl) (fun h2 => ?_) (fun h2 => ?_)
 refine RW.g XK 32 [.o 2,.p] rfl rfl rfl ?_
 exact ⟨_, by first | (simp_all; done) | grind, rfl, Le.of rfl⟩
 refine RW.g XK 32 [.o 2,.p] rfl rfl rfl ?_
 exact ⟨_, by first | (simp_all; done) | grind, rfl, Le.of rfl⟩
 intro v1 hv3
 refine CW.cond rfl (fun h4 => ?_) (fun h4 => ?_)
 have hii : i < code.length := by simp_all
 have hi4 : i < 4000 := by simp [hv3] at h4; omega
 obtain ⟨ei, hei⟩ : ∃ e, code[i]? = some e := ⟨_, List.getElem?_eq_getElem hii⟩
 refine CW.g XK 32 [.p,.e [0,3,4],.o 4] rfl rfl rfl ?_
 refine RW.v rfl (V.indexS rfl rfl rfl rfl rfl rfl cU.len hei) ?_
 refine RW.g XK 32 [.o 6,.p,.e [0,3,4],.o 1] rfl rfl rfl ?_
 refine RW.v rfl (V.inc rfl rfl rfl hii hl0) ?_
 refine RW.g XK 32 [.o 1,.p] rfl rfl rfl ?_
 exact ⟨(i + 1, _), by simp only []; omega, ⟨by omega, by omega, by rw [take_snoc hei, List.foldl_append, hh]; rfl⟩, rfl, Le.c rfl <| Le.c rfl <| Le.c rfl <| Le.e⟩
 have h4x : i < code.length → 4000 ≤ i := by intro hq; simp [hv3, hq] at h4; omega
 refine CW.exit ?_
 refine CW.h XK 32 [.e [0,3],.n 1,.e [2,31]] rfl ?_;(conv=>whnf);intro b5;(conv=>whnf);refine ⟨rfl,?_⟩
 refine CW.pullP 2 31 (by decide) rfl rfl ?_
 refine CW.ret ?_
 exact Post.one (RV.p (f := fun e => (l01Cur.c e).map .r) (e' := (⟨code, 0, h⟩ : l01Cur)) rfl (DT.r (DT.r (DT.r DT.e))) (by rw [hh]; exact congrArg (fun l => (⟨code, 0, List.foldl hashStep _ l⟩ : l01Cur)) (take_min hb hq4 h4x))) (AOs.r AOs.e)
set_option maxHeartbeats 4000000 in
theorem spec_l01Byte_fn (c : l01Cur) (hc : curOk c) : Eng.Fn E.P 155 [.ob ((l01Cur.c c).map .r)] (.one (.one (.w (.v (.int .i64 ((byteN c).1)))))) [.ob ((l01Cur.c ((byteN c).2)).map .r)] := by
 refine Eng.Fn.intro (E := E) (rvs := [.tmp 2]) Tryz.func155 rfl rfl rfl (by simp [outSlots, moved, rvSlot, sl]) ?_
 intro B g bo
 refine CW.g XK 58 [.e [0]] rfl rfl rfl ?_
 obtain ⟨hc0, hc1, hc2⟩ := hc
 refine CW.g XK 58 [.n 2,.e [0],.p] rfl rfl rfl ?_
 refine CW.drawn (by kernel_rfl) ?_
 refine RQ.k XK 58 13 rfl ?_
 (conv=>whnf);refine ⟨rfl,?_⟩
 refine RQ.nil ?_
 refine CW.g XK 58 [.e [0,3],.p,.p] rfl rfl rfl ?_
 refine CW.drawn (by kernel_rfl) ?_
 refine RQ.k XK 58 10 rfl ?_
 (conv=>whnf);refine ⟨rfl,?_⟩
 refine RQ.nil ?_
 refine CW.g XK 58 [.e [0,3,34]] rfl rfl rfl ?_
 refine CW.cond rfl (fun h1 => ?_) (fun h1 => ?_)
 have hlt : c.i < (c.b.length : Int) := by simpa using h1
 refine CW.g XK 58 [.p] rfl rfl rfl ?_
 refine CW.drawn (by kernel_rfl) ?_
 refine RQ.k XK 58 9 rfl ?_
 (conv=>whnf);refine ⟨rfl,?_⟩
 refine RQ.v rfl (V.indexZ (m := c.i.toNat) (v := (c.b.getD c.i.toNat 0)) rfl rfl rfl rfl rfl rfl (by omega) cU.len (getD_some (by omega))) ?_
 refine RQ.k XK 58 5 rfl ?_
 (conv=>whnf);refine ⟨rfl,?_⟩
 refine RQ.nil ?_
 refine CW.g XK 58 [.e [0,3],.o 9,.p,.e [0,3],.n 1,.e [0,2]] rfl rfl rfl ?_
 refine CW.ret ?_
 exact Post.one (RV.i rfl q5) (AOs.obE (f := fun e => (l01Cur.c e).map .r) (e' := (⟨c.b, (IntKind.i64.wrap (c.i + 1)), (IntKind.i64.wrap ((IntKind.i64.wrap (c.h * 6364136223846793005)) + 1442695040888963407))⟩ : l01Cur)) rfl (DT.r (DT.r (DT.r DT.e))) q5 AOs.e)
 refine CW.g XK 58 [.p,.e [0,3],.n 1,.e [0,2]] rfl rfl rfl ?_
 refine CW.ret ?_
 exact Post.one (RV.i rfl q5) (AOs.obE (f := fun e => (l01Cur.c e).map .r) (e' := (⟨c.b, c.i, (IntKind.i64.wrap ((IntKind.i64.wrap (c.h * 6364136223846793005)) + 1442695040888963407))⟩ : l01Cur)) rfl (DT.r (DT.r (DT.r DT.e))) q5 AOs.e)
set_option maxHeartbeats 4000000 in
theorem spec_l01Below_fn (c : l01Cur) (n : Int) (hc : curOk c) : Eng.Fn E.P 78 [.ob ((l01Cur.c c).map .r), .one (.r (.v (.int .i64 n)))] (.one (.one (.w (.v (.int .i64 ((belowN c n).1)))))) [.ob ((l01Cur.c ((belowN c n).2)).map .r), .one (.r (.v (.int .i64 n)))] := by
 refine Eng.Fn.intro (E := E) (rvs := [.tmp 4]) Tryz.func78 rfl rfl rfl (by simp [outSlots, moved, rvSlot, sl]) ?_
 intro B g bo
 refine CW.g XK 37 [.e [0,1],.n 1,.e [0,1],.n 1,.e [0,1,10]] rfl rfl rfl ?_
 refine CW.cond rfl (fun h1 => ?_) (fun h1 => ?_)
 refine CW.g XK 37 [.n 1,.e [0,4]] rfl rfl rfl ?_
 refine CW.ret ?_
 exact Post.one (RV.i rfl q3) (AOs.obE (f := fun e => (l01Cur.c e).map .r) (e' := c) rfl (DT.r (DT.r (DT.r DT.e))) q3 (AOs.r AOs.e))
 refine CW.g XK 37 [.p,.e [0,1],.n 1,.e [0,1,12]] rfl rfl rfl ?_
 refine CW.cond rfl (fun h2 => ?_) (fun h2 => ?_)
 refine CW.g XK 37 [.o 1] rfl rfl rfl ?_
 refine RW.callP (k := 0) (spec_l01Byte_fn c hc) rfl rfl (Nat.le_of_ble_eq_true rfl) (by decide) rfl (DT.r (DT.r (DT.r DT.e))) (AsPs.here rfl (.nil)) fun g3 q4 => ?_
 refine RW.g XK 37 [.o 1] rfl rfl rfl ?_
 refine RW.v rfl (V.rem rfl rfl rfl (by simp at h1; omega)) ?_
 refine RW.g XK 37 [.o 1,.p,.e [0,4]] rfl rfl rfl ?_
 refine CW.ret ?_
 exact Post.one (RV.i rfl q3) (AOs.obE (f := fun e => (l01Cur.c e).map .r) (e' := ((byteN c).2)) rfl (DT.r (DT.r (DT.r DT.e))) q3 (AOs.r AOs.e))
 refine CW.g XK 37 [.p,.e [0,1],.o 1] rfl rfl rfl ?_
 refine RW.callP (k := 0) (spec_l01Byte_fn c hc) rfl rfl (Nat.le_of_ble_eq_true rfl) (by decide) rfl (DT.r (DT.r (DT.r DT.e))) (AsPs.here rfl (.nil)) fun g5 q6 => ?_
 refine RW.g XK 37 [.o 1,.p,.e [0,1,5],.o 1] rfl rfl rfl ?_
 refine RW.callP (k := 0) (spec_l01Byte_fn ((byteN c).2) (byteN_ok hc)) rfl rfl (Nat.le_of_ble_eq_true rfl) (by decide) rfl (DT.r (DT.r (DT.r DT.e))) (AsPs.here rfl (.nil)) fun g7 q8 => ?_
 refine RW.g XK 37 [.o 1,.p,.e [0,1,5,6],.o 1] rfl rfl rfl ?_
 refine RW.callP (k := 0) (spec_l01Byte_fn ((byteN ((byteN c).2)).2) (byteN_ok (byteN_ok hc))) rfl rfl (Nat.le_of_ble_eq_true rfl) (by decide) rfl (DT.r (DT.r (DT.r DT.e))) (AsPs.here rfl (.nil)) fun g9 q10 => ?_
 refine RW.g XK 37 [.o 1,.p,.e [0,1,5,6,7],.o 1] rfl rfl rfl ?_
 refine RW.callP (k := 0) (spec_l01Byte_fn ((byteN ((byteN ((byteN c).2)).2)).2) (byteN_ok (byteN_ok (byteN_ok hc)))) rfl rfl (Nat.le_of_ble_eq_true rfl) (by decide) rfl (DT.r (DT.r (DT.r DT.e))) (AsPs.here rfl (.nil)) fun g11 q12 => ?_
 refine RW.g XK 37 [.o 1,.p,.e [0,1,5,6,7,8],.o 11] rfl rfl rfl ?_
 refine RW.v rfl (V.rem rfl rfl rfl (by simp at h1; omega)) ?_
 refine RW.g XK 37 [.o 1,.p,.e [0,4]] rfl rfl rfl ?_
 refine CW.ret ?_
 exact Post.one (RV.i rfl q3) (AOs.obE (f := fun e => (l01Cur.c e).map .r) (e' := ((byteN ((byteN ((byteN ((byteN c).2)).2)).2)).2)) rfl (DT.r (DT.r (DT.r DT.e))) q3 (AOs.r AOs.e))
theorem spec_l01Below_fn_dx (c : l01Cur) (n : Int) (hc : curOk c) : Eng.FnX E.P (α := Drw (fun v : Int => 0 ≤ v ∧ (0 < n → v < n))) 78 [.ob ((l01Cur.c c).map .r), .one (.r (.v (.int .i64 n)))] (fun y => .one (.one (.w (.v (.int .i64 y.v))))) (fun y => [.ob ((l01Cur.c y.d).map .r), .one (.r (.v (.int .i64 n)))]) := drw_of (⟨(belowN c n).1, (belowN c n).2, below_in c n, belowN_ok hc n⟩ : Drw (fun v : Int => 0 ≤ v ∧ (0 < n → v < n))) (spec_l01Below_fn c n hc)
set_option maxHeartbeats 4000000 in
theorem spec_l01Once_fn (c : l01Cur) (n : Int) (hc : curOk c) : Eng.FnX E.P (α := Drw (fun _ : Bool => True)) 154 [.ob ((l01Cur.c c).map .r), .one (.r (.v (.int .i64 n)))] (fun y => .one (.one (.w (.v (.bool y.v))))) (fun y => [.ob ((l01Cur.c y.d).map .r), .one (.r (.v (.int .i64 n)))]) := by
 refine Eng.FnX.intro (E := E) (rvs := [.tmp 4]) Tryz.func154 rfl rfl rfl q7 ?_
 intro B g bo
 refine CW.g XK 9 [.e [0,1],.n 1,.e [0,1],.o 2] rfl rfl rfl ?_
 refine RW.callPX (k := 0) (spec_l01Below_fn_dx c n hc) rfl rfl (Nat.le_of_ble_eq_true rfl) (by decide) rfl (DT.r (DT.r (DT.r DT.e))) (AsPs.here (os := []) (outs := []) rfl (.cons (.one (.r .r)) (.nil))) (fun _ => AsPs.here rfl (.cons (.one (.r .r)) (.nil))) fun y1 g2 q3 => ?_
 refine RW.g XK 9 [.o 2,.p,.e [0,4]] rfl rfl rfl ?_
 refine CW.ret ?_
 refine ⟨⟨(y1.v == 0), y1.d, trivial, y1.hd⟩, ?_⟩
 exact Post.one (RV.b rfl (by rfl)) (AOs.obE (f := fun e => (l01Cur.c e).map .r) (e' := y1.d) rfl (DT.r (DT.r (DT.r DT.e))) (by rfl) (AOs.r AOs.e))
set_option maxHeartbeats 4000000 in
theorem spec_l05Conf_fn (c : l01Cur) (hc : curOk c) : Eng.FnX E.P (α := Drw (fun l : List Int => l.length ≤ 5)) 77 [.ob ((l01Cur.c c).map .r)] (fun y => .one (.one (.w (sl 1 cI y.v)))) (fun y => [.ob ((l01Cur.c y.d).map .r)]) := by
 refine Eng.FnX.intro (E := E) (rvs := [.tmp 2]) Tryz.func77 rfl rfl rfl q7 ?_
 intro B g bo
 refine CW.g XK 23 [.e [0],.n 1,.e [0],.p,.p] rfl rfl rfl ?_
 refine RW.build0 cI rfl rfl rfl rfl rfl fun X1 => ?_
 refine RW.assignMove rfl rfl rfl (by decide) (Nat.le_of_ble_eq_true rfl) (Nat.le_of_ble_eq_true rfl) ?_
 refine RW.g XK 23 [.p,.e [0,3],.n 1,.e [0,3,4],.p] rfl rfl rfl ?_
 refine CW.loopI 23 (fun (zz : Nat × List Int × Value × l01Cur) => match zz with | (i, l, X, d) => [(0, .obj (bo 0) ((l01Cur.c d).map .r)), (3, .w (sl 1 cI l) X), (4, I (i : Int))]) (fun (zz : Nat × List Int × Value × l01Cur) => match zz with | (i, l, X, d) => curOk d ∧ l.length + 1 ≤ i ∧ i ≤ 5) (fun (zz : Nat × List Int × Value × l01Cur) => match zz with | (i, l, X, d) => 5 - i) (1, [], _, _) rfl (Le.c rfl <| Le.c rfl <| Le.c rfl <| Le.e) ⟨hc, by simp, by omega⟩ ?_
 rintro ⟨i, l, X, d⟩ ⟨hd, hl, hi5⟩
 refine CW.g XK 23 [.n 1,.e [0,3,4,7]] rfl rfl rfl ?_
 refine CW.cond rfl (fun h2 => ?_) (fun h2 => ?_)
 have hlt := of_decide_eq_true h2
 refine CW.g XK 23 [.p,.e [0,3,4],.o 1] rfl rfl rfl ?_
 refine RW.callPX (k := 0) (spec_l01Once_fn d 2 hd) rfl rfl (Nat.le_of_ble_eq_true rfl) (by decide) rfl (DT.r (DT.r (DT.r DT.e))) (AsPs.here (os := []) (outs := []) rfl (.cons (.one (.r .r)) (.nil))) (fun _ => AsPs.here rfl (.cons (.one (.r .r)) (.nil))) fun y3 g4 q5 => ?_
 refine RW.g XK 23 [.p,.e [0,3,4,11]] rfl rfl rfl ?_
 refine CW.cond rfl (fun h6 => ?_) (fun h6 => ?_)
 refine CW.g XK 23 [.o 2] rfl rfl rfl ?_
 refine RW.build1c (c := cI) (v := (i : Int)) (u := .v (.int .i64 (i : Int))) rfl rfl rfl rfl rfl rfl (.inl rfl) rfl rfl fun X7 => ?_
 refine RW.appendSR (c := cI) (l1 := l) (l2 := [(i : Int)]) rfl rfl rfl rfl rfl rfl rfl rfl (.al (k := none) (i := 14) (sz := 1) (V := X7) rfl rfl nofun) (by decide) (Nat.le_of_ble_eq_true rfl) cI.len (fun _ => rfl) rfl q9 q9 fun X8 => ?_
 refine RW.assignMove rfl rfl rfl (by decide) (Nat.le_of_ble_eq_true rfl) (Nat.le_of_ble_eq_true rfl) ?_
 refine RW.g XK 23 [.p,.e [0,3,4],.o 1] rfl rfl rfl ?_
 refine RW.v rfl (V.inc rfl rfl rfl (show i < 5 by omega) (by simp only [maxLen]; omega)) ?_
 refine RW.g XK 23 [.o 1,.p] rfl rfl rfl ?_
 exact ⟨(i + 1, _, _, _), by simp only []; omega, ⟨y3.hd, by (try simp only [List.length_append, List.length_singleton]); omega, by omega⟩, rfl, Le.c rfl <| Le.c rfl <| Le.c rfl <| Le.e⟩
 refine CW.g XK 23 [.p,.e [0,3,4],.o 1] rfl rfl rfl ?_
 refine RW.v rfl (V.inc rfl rfl rfl (show i < 5 by omega) (by simp only [maxLen]; omega)) ?_
 refine RW.g XK 23 [.o 1,.p] rfl rfl rfl ?_
 exact ⟨(i + 1, _, _, _), by simp only []; omega, ⟨y3.hd, by (try simp only [List.length_append, List.length_singleton]); omega, by omega⟩, rfl, Le.c rfl <| Le.c rfl <| Le.c rfl <| Le.e⟩
 have hge := of_decide_eq_false h2
 refine CW.exit ?_
 refine CW.g XK 23 [.e [0,3],.n 1,.e [0,3,18]] rfl rfl rfl ?_
 refine CW.cond rfl (fun h9 => ?_) (fun h9 => ?_)
 refine CW.g XK 23 [.o 1] rfl rfl rfl ?_
 refine RW.build1c (c := cI) (v := 1) (u := .v (.int .i64 1)) rfl rfl rfl rfl rfl rfl (.inl rfl) rfl rfl fun X10 => ?_
 refine RW.appendSR (c := cI) (l1 := l) (l2 := [1]) rfl rfl rfl rfl rfl rfl rfl rfl (.al (k := none) (i := 20) (sz := 1) (V := X10) rfl rfl nofun) (by decide) (Nat.le_of_ble_eq_true rfl) cI.len (fun _ => rfl) rfl q9 q9 fun X11 => ?_
 refine RW.assignMove rfl rfl rfl (by decide) (Nat.le_of_ble_eq_true rfl) (Nat.le_of_ble_eq_true rfl) ?_
 refine RW.g XK 23 [.p,.e [0,3],.o 2] rfl rfl rfl ?_
 refine RW.pullS 2 3 (by decide) rfl rfl ?_
 refine RW.g XK 23 [.p,.e [0,2]] rfl rfl rfl ?_
 refine CW.ret ?_
 refine ⟨⟨(l ++ ([1])), d, (by (try simp only [List.length_append, List.length_singleton]); omega), hd⟩, ?_⟩
 exact Post.one (RV.w rfl (by rfl)) (AOs.obE (f := fun e => (l01Cur.c e).map .r) (e' := d) rfl (DT.r (DT.r (DT.r DT.e))) (by rfl) AOs.e)
 refine CW.g XK 23 [.p,.e [0,3],.o 2] rfl rfl rfl ?_
 refine RW.pullS 2 3 (by decide) rfl rfl ?_
 refine RW.g XK 23 [.p,.e [0,2]] rfl rfl rfl ?_
 refine CW.ret ?_
 refine ⟨⟨l, d, (by (try simp only [List.length_append, List.length_singleton]); omega), hd⟩, ?_⟩
 exact Post.one (RV.w rfl (by rfl)) (AOs.obE (f := fun e => (l01Cur.c e).map .r) (e' := d) rfl (DT.r (DT.r (DT.r DT.e))) (by rfl) AOs.e)
set_option maxHeartbeats 4000000 in
theorem spec_l01PickInt_fn (c : l01Cur) (l : List Int) (hc : curOk c) (hl : 0 < l.length) : Eng.FnX E.P (α := Drw (fun _ : Int => True)) 79 [.ob ((l01Cur.c c).map .r), .one (.r (sl 1 cI l))] (fun y => .one (.one (.w (.v (.int .i64 y.v))))) (fun y => [.ob ((l01Cur.c y.d).map .r), .one (.r (sl 1 cI l))]) := by
 refine Eng.FnX.intro (E := E) (rvs := [.tmp 4]) Tryz.func79 rfl rfl rfl q7 ?_
 intro B g bo
 refine CW.bound (x := .tmp 1) (n := l.length) (AsT.r) (fun hl1 => ?_)
 refine CW.g XK 12 [.e [0,1],.n 1,.e [0,1],.o 4] rfl rfl rfl ?_
 refine RW.callPX (k := 0) (spec_l01Below_fn_dx c (l.length : Int) hc) rfl rfl (Nat.le_of_ble_eq_true rfl) (by decide) rfl (DT.r (DT.r (DT.r DT.e))) (AsPs.here (os := []) (outs := []) rfl (.cons (.one (.r .r)) (.nil))) (fun _ => AsPs.here rfl (.cons (.one (.r .r)) (.nil))) fun y1 g2 q3 => ?_
 refine RW.v rfl (V.indexZ (m := y1.v.toNat) (v := (l.getD y1.v.toNat 0)) rfl rfl rfl rfl rfl rfl (by have h9 := y1.h; omega) cI.len (getD_some (by have h9 := y1.h; omega))) ?_
 refine RW.g XK 12 [.o 2,.p,.e [0,4]] rfl rfl rfl ?_
 refine CW.ret ?_
 refine ⟨⟨(l.getD y1.v.toNat 0), y1.d, trivial, y1.hd⟩, ?_⟩
 exact Post.one (RV.i rfl (by rfl)) (AOs.obE (f := fun e => (l01Cur.c e).map .r) (e' := y1.d) rfl (DT.r (DT.r (DT.r DT.e))) (by rfl) (AOs.r AOs.e))
set_option maxHeartbeats 4000000 in
theorem spec_l05AnyConf_fn (c : l01Cur) (hc : curOk c) : Eng.FnX E.P (α := Drw (fun l : List Int => l.length ≤ 6)) 21 [.ob ((l01Cur.c c).map .r)] (fun y => .one (.one (.w (sl 1 cI y.v)))) (fun y => [.ob ((l01Cur.c y.d).map .r)]) := by
 refine Eng.FnX.intro (E := E) (rvs := [.tmp 2]) Tryz.func21 rfl rfl rfl q7 ?_
 intro B g bo
 refine CW.g XK 20 [.e [0],.n 1,.e [0],.o 1] rfl rfl rfl ?_
 refine RW.callPX (k := 0) (spec_l05Conf_fn c hc) rfl rfl (Nat.le_of_ble_eq_true rfl) (by decide) rfl (DT.r (DT.r (DT.r DT.e))) (AsPs.here (os := []) (outs := []) rfl (.nil)) (fun _ => AsPs.here rfl (.nil)) fun y1 g2 q3 => ?_
 refine RW.assignMove rfl rfl rfl (by decide) (Nat.le_of_ble_eq_true rfl) (Nat.le_of_ble_eq_true rfl) ?_
 refine RW.g XK 20 [.p,.e [0,3],.o 1] rfl rfl rfl ?_
 refine RW.callPX (k := 0) (spec_l01Below_fn_dx y1.d 12 y1.hd) rfl rfl (Nat.le_of_ble_eq_true rfl) (by decide) rfl (DT.r (DT.r (DT.r DT.e))) (AsPs.here (os := []) (outs := []) rfl (.cons (.one (.r .r)) (.nil))) (fun _ => AsPs.here rfl (.cons (.one (.r .r)) (.nil))) fun y4 g5 q6 => ?_
 refine RW.g XK 20 [.p,.e [0,3,7],.n 1,.e [0,3,7,8]] rfl rfl rfl ?_
 refine CW.cond rfl (fun h7 => ?_) (fun h7 => ?_)
 refine CW.g XK 20 [.o 2] rfl rfl rfl ?_
 refine RW.buildK (c := cI) (L := [0, 4, 5, 1]) (vs := [(.int .i64 0), (.int .i64 4), (.int .i64 5), (.int .i64 1)]) rfl rfl rfl rfl rfl (fun _ => rfl) rfl rfl rfl (by decide) (by decide) rfl rfl fun X8 => ?_
 refine RW.freeze 12 (d' := .r (sl 1 cI ([0, 4, 5, 1] : List Int))) rfl rfl ?_
 refine RW.callPX (k := 0) (spec_l01PickInt_fn y4.d ([0, 4, 5, 1] : List Int) y4.hd (Nat.le_of_ble_eq_true rfl)) rfl rfl (Nat.le_of_ble_eq_true rfl) (by decide) rfl (DT.r (DT.r (DT.r DT.e))) (AsPs.here (os := []) (outs := []) rfl (.cons (.one (.r .r)) (.nil))) (fun _ => AsPs.here rfl (.cons (.one (.r .r)) (.nil))) fun y9 g10 q11 => ?_
 refine RW.build1c (c := cI) (v := y9.v) (u := .v (.int .i64 y9.v)) rfl rfl rfl rfl rfl rfl (.inl rfl) rfl rfl fun X12 => ?_
 refine RW.appendSR (c := cI) (l1 := y1.v) (l2 := [y9.v]) rfl rfl rfl rfl rfl rfl rfl rfl (.al (k := none) (i := 14) (sz := 1) (V := X12) rfl rfl nofun) (by decide) (Nat.le_of_ble_eq_true rfl) cI.len (fun _ => rfl) rfl (by have h9 := y1.h; simp only [maxLen, List.length_singleton]; omega) (by have h9 := y1.h; simp only [maxLen, List.length_singleton]; omega) fun X13 => ?_
 refine RW.assignMove rfl rfl rfl (by decide) (Nat.le_of_ble_eq_true rfl) (Nat.le_of_ble_eq_true rfl) ?_
 refine RW.g XK 20 [.p,.e [0,3],.o 2] rfl rfl rfl ?_
 refine RW.pullS 2 3 (by decide) rfl rfl ?_
 refine RW.g XK 20 [.p,.e [0,2]] rfl rfl rfl ?_
 refine CW.ret ?_
 refine ⟨⟨(y1.v ++ ([y9.v])), y9.d, (by (try simp only [List.length_append, List.length_singleton]); have h9 := y1.h; omega), y9.hd⟩, ?_⟩
 exact Post.one (RV.w rfl (by rfl)) (AOs.obE (f := fun e => (l01Cur.c e).map .r) (e' := y9.d) rfl (DT.r (DT.r (DT.r DT.e))) (by rfl) AOs.e)
 refine CW.g XK 20 [.n 1,.e [0,3,16]] rfl rfl rfl ?_
 refine CW.cond rfl (fun h14 => ?_) (fun h14 => ?_)
 refine CW.g XK 20 [.p] rfl rfl rfl ?_
 refine RW.build0 cI rfl rfl rfl rfl rfl fun X15 => ?_
 refine RW.assignMove rfl rfl rfl (by decide) (Nat.le_of_ble_eq_true rfl) (Nat.le_of_ble_eq_true rfl) ?_
 refine RW.g XK 20 [.p,.e [0,3],.o 2] rfl rfl rfl ?_
 refine RW.pullS 2 3 (by decide) rfl rfl ?_
 refine RW.g XK 20 [.p,.e [0,2]] rfl rfl rfl ?_
 refine CW.ret ?_
 refine ⟨⟨([] : List Int), y4.d, (by show (0 : Nat) ≤ _; omega), y4.hd⟩, ?_⟩
 exact Post.one (RV.w rfl (by rfl)) (AOs.obE (f := fun e => (l01Cur.c e).map .r) (e' := y4.d) rfl (DT.r (DT.r (DT.r DT.e))) (by rfl) AOs.e)
 refine CW.g XK 20 [.p,.e [0,3],.o 2] rfl rfl rfl ?_
 refine RW.pullS 2 3 (by decide) rfl rfl ?_
 refine RW.g XK 20 [.p,.e [0,2]] rfl rfl rfl ?_
 refine CW.ret ?_
 refine ⟨⟨y1.v, y4.d, (by (try simp only [List.length_append, List.length_singleton]); have h9 := y1.h; omega), y4.hd⟩, ?_⟩
 exact Post.one (RV.w rfl (by rfl)) (AOs.obE (f := fun e => (l01Cur.c e).map .r) (e' := y4.d) rfl (DT.r (DT.r (DT.r DT.e))) (by rfl) AOs.e)
set_option maxHeartbeats 4000000 in
theorem spec_DrawFormatDisk_fn (code : List Int) : Eng.FnX E.P (α := {l : List Int // l.length ≤ 6}) 6 [.one (.r (sl 1 cU code))] (fun y => .one (.one (.w (sl 1 cI y.1)))) (fun y => [.one (.r (sl 1 cU code))]) := by
 refine Eng.FnX.intro (E := E) (rvs := [.tmp 2]) Tryz.func6 rfl rfl rfl q7 ?_
 intro B g bo
 refine CW.bound (x := .tmp 0) (n := code.length) (AsT.r) (fun hl0 => ?_)
 refine CW.g XK 6 [.e [0],.n 1,.e [0],.o 1] rfl rfl rfl ?_
 refine RW.call rfl (spec_l01New_fn code) rfl (.cons (.one (.r .r)) (.nil)) fun g1 => ?_
 refine RW.callPX (k := 4) (spec_l05AnyConf_fn (cur0 code) (cur0_ok hl0).2) rfl rfl (Nat.le_of_ble_eq_true rfl) (by decide) rfl (DT.r (DT.r (DT.r DT.e))) (AsPs.here (os := []) (outs := []) rfl (.nil)) (fun _ => AsPs.here rfl (.nil)) fun y2 g3 q4 => ?_
 refine RW.assignMove rfl rfl rfl (by decide) (Nat.le_of_ble_eq_true rfl) (Nat.le_of_ble_eq_true rfl) ?_
 refine RW.g XK 6 [.p,.e [2]] rfl rfl rfl ?_
 refine CW.ret ?_
 refine ⟨⟨y2.v, y2.h⟩, ?_⟩
 exact Post.one (RV.w rfl (by rfl)) (AOs.r AOs.e)
set_option maxHeartbeats 4000000 in
theorem impl_within_fn (n : Int) (x : Int) (y : Int) : Eng.Fn E.P 45 [.one (.r (.v (.int .i64 n))), .one (.r (.v (.int .i64 x))), .one (.r (.v (.int .i64 y)))] (.one (.one (.w (.v (.bool (inR n x y)))))) [.one (.r (.v (.int .i64 n))), .one (.r (.v (.int .i64 x))), .one (.r (.v (.int .i64 y)))] := by
 refine Eng.Fn.intro (E := E) (rvs := [.tmp 6]) Tryz.func45 rfl rfl rfl (by simp [outSlots, moved, rvSlot, sl]) ?_
 intro B g bo
 refine CW.g XK 15 [.e [0,1,2],.n 1,.e [0,1,2]] rfl rfl rfl ?_
 refine CW.seqJ 15 (fun (v1 : Bool) => [(6, Bo v1)]) (fun v1 => v1 = (decide (n ≥ x) && decide (n ≤ y))) ?_ ?_
 refine CW.g XK 15 [.o 4] rfl rfl rfl ?_
 refine RW.gv rfl rfl rfl rfl (fun h2 => V.mv (d := I n) rfl rfl) (fun h2 => ?_) (fun h2 => ?_)
 refine RW.g XK 15 [.o 4,.p] rfl rfl rfl ?_
 exact ⟨_, by first | rfl | (simp_all; done) | (simp_all; omega) | grind, rfl, Le.of rfl⟩
 refine RW.g XK 15 [.o 4,.p] rfl rfl rfl ?_
 exact ⟨_, by first | rfl | (simp_all; done) | (simp_all; omega) | grind, rfl, Le.of rfl⟩
 intro v1 hv3
 refine CW.ret ?_
 exact Post.one (RV.b rfl (by simp_all [inR])) (AOs.r (AOs.r (AOs.r AOs.e)))
set_option maxHeartbeats 4000000 in
theorem impl_isTerm_fn (n : Int) : Eng.Fn E.P 50 [.one (.r (.v (.int .i64 n)))] (.one (.one (.w (.v (.bool (inR n 0 100000)))))) [.one (.r (.v (.int .i64 n)))] := by
 refine Eng.Fn.intro (E := E) (rvs := [.tmp 2]) Tryz.func50 rfl rfl rfl (by simp [outSlots, moved, rvSlot, sl]) ?_
 intro B g bo
 refine CW.g XK 5 [.e [0],.n 1,.e [0],.o 1] rfl rfl rfl ?_
 refine RW.call rfl (impl_within_fn n 0 100000) rfl (.cons (.one (.r .r)) (.cons (.one (.r .r)) (.cons (.one (.r .r)) (.nil)))) fun g1 => ?_
 refine RW.g XK 5 [.o 1,.p,.e [2]] rfl rfl rfl ?_
 refine CW.ret ?_
 exact Post.one (RV.b rfl (by rfl)) (AOs.r AOs.e)
set_option maxHeartbeats 4000000 in
theorem impl_votesOk_fn (n : Int) (m : Int) : Eng.Fn E.P 108 [.one (.r (.v (.int .i64 n))), .one (.r (.v (.int .i64 m)))] (.one (.one (.w (.v (.bool (inR n 0 100000 && inR m 0 4)))))) [.one (.r (.v (.int .i64 n))), .one (.r (.v (.int .i64 m)))] := by
 refine Eng.Fn.intro (E := E) (rvs := [.tmp 4]) Tryz.func108 rfl rfl rfl (by simp [outSlots, moved, rvSlot, sl]) ?_
 intro B g bo
 refine CW.g XK 11 [.e [0,1],.n 1,.e [0,1]] rfl rfl rfl ?_
 refine CW.seqJ 11 (fun (v1 : Bool) => [(4, Bo v1)]) (fun v1 => v1 = ((inR n 0 100000) && (inR m 0 4))) ?_ ?_
 refine CW.g XK 11 [.o 1] rfl rfl rfl ?_
 refine RW.call rfl (impl_isTerm_fn n) rfl (.cons (.one (.r .r)) (.nil)) fun g2 => ?_
 refine RW.g XK 11 [.o 1] rfl rfl rfl ?_
 refine RW.gv rfl rfl rfl rfl (fun h3 => V.mv (d := I m) rfl rfl) (fun h3 => ?_) (fun h3 => ?_)
 refine RW.gcall rfl rfl rfl rfl (impl_within_fn m 0 4) rfl (.cons (.one (.r .r)) (.cons (.one (.r .r)) (.cons (.one (.r .r)) (.nil)))) fun g4 => ?_
 refine RW.g XK 11 [.o 2,.p] rfl rfl rfl ?_
 exact ⟨_, by first | rfl | (simp_all; done) | (simp_all; omega) | grind, rfl, Le.of rfl⟩
 refine RW.g XK 11 [.o 3,.p] rfl rfl rfl ?_
 exact ⟨_, by first | rfl | (simp_all; done) | (simp_all; omega) | grind, rfl, Le.of rfl⟩
 intro v1 hv5
 refine CW.ret ?_
 exact Post.one (RV.b rfl (by simp_all)) (AOs.r (AOs.r AOs.e))
set_option maxHeartbeats 4000000 in
theorem impl_isNode_fn (n : Int) : Eng.Fn E.P 54 [.one (.r (.v (.int .i64 n)))] (.one (.one (.w (.v (.bool (inR n 1 4)))))) [.one (.r (.v (.int .i64 n)))] := by
 refine Eng.Fn.intro (E := E) (rvs := [.tmp 2]) Tryz.func54 rfl rfl rfl (by simp [outSlots, moved, rvSlot, sl]) ?_
 intro B g bo
 refine CW.g XK 5 [.e [0],.n 1,.e [0],.o 1] rfl rfl rfl ?_
 refine RW.call rfl (impl_within_fn n 1 4) rfl (.cons (.one (.r .r)) (.cons (.one (.r .r)) (.cons (.one (.r .r)) (.nil)))) fun g1 => ?_
 refine RW.g XK 5 [.o 1,.p,.e [2]] rfl rfl rfl ?_
 refine CW.ret ?_
 exact Post.one (RV.b rfl (by rfl)) (AOs.r AOs.e)
set_option maxHeartbeats 4000000 in
theorem impl_nodesOk_fn (a : List Int) : Eng.Fn E.P 109 [.one (.r (sl 1 cI a))] (.one (.one (.w (.v (.bool (riseOk 1 4 none a)))))) [.one (.r (sl 1 cI a))] := by
 refine Eng.Fn.intro (E := E) (rvs := [.tmp 2]) Tryz.func109 rfl rfl rfl (by simp [outSlots, moved, rvSlot, sl]) ?_
 intro B g bo
 refine CW.bound (x := .tmp 0) (n := a.length) (AsT.r) (fun hl0 => ?_)
 refine CW.g XK 29 [.e [0],.n 1,.e [0],.n 1,.e [0,5,6,7],.p] rfl rfl rfl ?_
 refine CW.loopI 29 (fun (i : Nat) => [(0, .r (sl 1 cI a)), (5, .r (sl 1 cI a)), (6, I (a.length : Int)), (7, I (i : Int))]) (fun (i : Nat) => i ≤ a.length ∧ riseOk 1 4 (prevI a i) (a.drop i) = riseOk 1 4 none a) (fun (i : Nat) => a.length - i) 0 rfl (Le.c rfl <| Le.c rfl <| Le.c rfl <| Le.c rfl <| Le.e) ⟨by omega, by simp [prevI]⟩ ?_
 rintro i ⟨hb, hr⟩
 refine CW.g XK 29 [.n 1,.e [0,5,6,7,8],.p] rfl rfl rfl ?_
 refine CW.cond rfl (fun h1 => ?_) (fun h1 => ?_)
 have hii : i < a.length := by have := h1; simp at this; first | exact this | omega | (simp; done) | (simp; omega)
 obtain ⟨ei, hei⟩ : ∃ e, a[i]? = some e := ⟨_, List.getElem?_eq_getElem hii⟩
 have hdi := drop_get hei
 refine CW.g XK 29 [.p,.e [0,5,6,7],.o 1] rfl rfl rfl ?_
 refine RW.v rfl (V.indexS rfl rfl rfl rfl rfl rfl cI.len hei) ?_
 refine RW.g XK 29 [.o 3,.p,.e [0,3,4,5,6,7]] rfl rfl rfl ?_
 refine CW.seqJ 29 (fun (v2 : Bool) => [(0, .r (sl 1 cI a)), (5, .r (sl 1 cI a)), (6, I (a.length : Int)), (7, I (i : Int)), (27, Bo v2)]) (fun v2 => v2 = ((!(inR ei 1 4)) || (decide ((i : Int) > 0) && decide ((a.getD (i - 1) 0) ≥ ei)))) ?_ ?_
 refine CW.g XK 29 [.o 1] rfl rfl rfl ?_
 refine RW.call rfl (impl_isNode_fn ei) rfl (.cons (.one (.r .r)) (.nil)) fun g3 => ?_
 refine RW.g XK 29 [.o 2] rfl rfl rfl ?_
 refine RW.gv rfl rfl rfl rfl (fun h4 => V.mv (d := I (i : Int)) rfl rfl) (fun h4 => ?_) (fun h4 => ?_)
 refine RW.g XK 29 [.o 2] rfl rfl rfl ?_
 refine RW.gv rfl rfl rfl rfl (fun h5 => V.mv (d := .r (sl 1 cI a)) rfl rfl) (fun h5 => ?_) (fun h5 => ?_)
 refine RW.g XK 29 [.o 1] rfl rfl rfl ?_
 refine RW.gt rfl rfl rfl rfl (V.dec (m := i) rfl rfl rfl (by have := h5; simp at this; omega) (by omega)) ?_
 refine RW.gt rfl rfl rfl rfl (V.indexS rfl rfl rfl rfl rfl rfl cI.len (getD_some (l := a) (j := i - 1) (z := 0) (by omega))) ?_
 refine RW.g XK 29 [.o 5,.p] rfl rfl rfl ?_
 exact ⟨_, by first | rfl | (simp_all; done) | (simp_all; omega) | grind, rfl, Le.of rfl⟩
 refine RW.g XK 29 [.o 8,.p] rfl rfl rfl ?_
 exact ⟨_, by first | rfl | (simp_all; done) | (simp_all; omega) | grind, rfl, Le.of rfl⟩
 refine RW.g XK 29 [.o 11,.p] rfl rfl rfl ?_
 exact ⟨_, by first | rfl | (simp_all; done) | (simp_all; omega) | grind, rfl, Le.of rfl⟩
 intro v2 hv6
 refine CW.cond rfl (fun h7 => ?_) (fun h7 => ?_)
 refine CW.g XK 29 [.n 1,.e [2]] rfl rfl rfl ?_
 refine CW.ret ?_
 exact Post.one (RV.b rfl (by rw [← hr, hdi, riseOk_cons]; grind [prevI])) (AOs.r AOs.e)
 refine CW.g XK 29 [.p,.e [0,5,6,7],.p] rfl rfl rfl ?_
 refine RW.v rfl (V.inc rfl rfl rfl hii hl0) ?_
 refine RW.g XK 29 [.o 1,.p] rfl rfl rfl ?_
 exact ⟨i + 1, by omega, ⟨by omega, by rw [← hr, hdi, riseOk_cons, prevI_succ hei]; grind [prevI]⟩, rfl, Le.c rfl <| Le.c rfl <| Le.c rfl <| Le.c rfl <| Le.e⟩
 have hii : a.length ≤ i := by have := h1; simp at this; first | exact this | omega | (simp; done) | (simp; omega)
 have hdi : a.drop i = [] := List.drop_eq_nil_of_le hii
 refine CW.exit ?_
 refine CW.g XK 29 [.e [],.n 1,.e [2]] rfl rfl rfl ?_
 refine CW.ret ?_
 exact Post.one (RV.b rfl (by rw [← hr, hdi, riseOk_nil])) (AOs.r AOs.e)
set_option maxHeartbeats 4000000 in
theorem impl_ConfOk_fn (a : List Int) : Eng.Fn E.P 107 [.one (.r (sl 1 cI a))] (.one (.one (.w (.v (.bool (confOk a)))))) [.one (.r (sl 1 cI a))] := by
 refine Eng.Fn.intro (E := E) (rvs := [.tmp 2]) Tryz.func107 rfl rfl rfl (by simp [outSlots, moved, rvSlot, sl]) ?_
 intro B g bo
 refine CW.bound (x := .tmp 0) (n := a.length) (AsT.r) (fun hl0 => ?_)
 refine CW.g XK 10 [.e [0],.n 1,.e [0]] rfl rfl rfl ?_
 refine CW.seqJ 10 (fun (v1 : Bool) => [(2, Bo v1)]) (fun v1 => v1 = (decide ((a.length : Int) > 0) && (riseOk 1 4 none a))) ?_ ?_
 refine CW.g XK 10 [.o 4] rfl rfl rfl ?_
 refine RW.gv rfl rfl rfl rfl (fun h2 => V.mv (d := .r (sl 1 cI a)) rfl rfl) (fun h2 => ?_) (fun h2 => ?_)
 refine RW.gcall rfl rfl rfl rfl (impl_nodesOk_fn a) rfl (.cons (.one (.r .r)) (.nil)) fun g3 => ?_
 refine RW.g XK 10 [.o 2,.p] rfl rfl rfl ?_
 exact ⟨_, by first | rfl | (simp_all; done) | (simp_all; omega) | grind, rfl, Le.of rfl⟩
 refine RW.g XK 10 [.o 3,.p] rfl rfl rfl ?_
 exact ⟨_, by first | rfl | (simp_all; done) | (simp_all; omega) | grind, rfl, Le.of rfl⟩
 intro v1 hv4
 refine CW.ret ?_
 exact Post.one (RV.b rfl (by (subst_vars; exact confOk_impl a))) (AOs.r AOs.e)
set_option maxHeartbeats 4000000 in
theorem impl_ReadConf_fn (s : ByteArray) (hm : s.size ≤ 1048576) : Eng.Fn E.P 166 [.one (.r (.v (.string s)))] (.tup [.one (.w (sl 1 cI ((readConf s).1))), .one (.w (.v (.bool ((readConf s).2))))]) [.one (.r (.v (.string s)))] := by
 refine Eng.Fn.intro (E := E) (rvs := [.tmp 2, .tmp 3]) Tryz.func166 rfl rfl rfl (by simp [outSlots, moved, rvSlot, sl]) ?_
 intro B g bo
 refine CW.g XK 24 [.e [0],.n 1,.e [0],.p,.p] rfl rfl rfl ?_
 refine RW.build0 cI rfl rfl rfl rfl rfl fun X1 => ?_
 refine RW.assignMove rfl rfl rfl (by decide) (Nat.le_of_ble_eq_true rfl) (Nat.le_of_ble_eq_true rfl) ?_
 refine RW.g XK 24 [.p,.e [0,4],.n 1,.e [0,4,5],.p] rfl rfl rfl ?_
 refine CW.loopI 24 (fun (zz : Nat × Value) => match zz with | (i, X) => [(0, S s), (4, .w (sl 1 cI (bys s i)) X), (5, I (i : Int))]) (fun (zz : Nat × Value) => match zz with | (i, X) => i ≤ s.size) (fun (zz : Nat × Value) => match zz with | (i, X) => s.size - i) (0, _) rfl (Le.c rfl <| Le.c rfl <| Le.c rfl <| Le.e) (by omega) ?_
 rintro ⟨i, X⟩ hb
 refine CW.g XK 24 [.n 1,.e [0,4,5,10]] rfl rfl rfl ?_
 refine CW.cond rfl (fun h2 => ?_) (fun h2 => ?_)
 have hlt : i < s.size := by simpa using h2
 refine CW.g XK 24 [.p,.e [0,4,5],.o 3] rfl rfl rfl ?_
 refine RW.v rfl (V.idxStr (m := i) rfl (by kernel_rfl) rfl rfl hlt) ?_
 refine RW.g XK 24 [.o 1] rfl rfl rfl ?_
 refine RW.build1c (c := cI) (v := (IntKind.i64.wrap (bat s i))) (u := .v (.int .i64 (IntKind.i64.wrap (bat s i)))) rfl rfl rfl rfl rfl rfl (.inl rfl) rfl rfl fun X3 => ?_
 refine RW.appendSR (c := cI) (l1 := (bys s i)) (l2 := [(IntKind.i64.wrap (bat s i))]) rfl rfl rfl rfl rfl rfl rfl rfl (.al (k := none) (i := 18) (sz := 1) (V := X3) rfl rfl nofun) (by decide) (Nat.le_of_ble_eq_true rfl) cI.len (fun _ => rfl) rfl (by simp only [maxLen, bys_len, List.length_singleton]; omega) (by simp only [maxLen, bys_len, List.length_singleton]; omega) fun X4 => ?_
 refine RW.assignMove rfl rfl rfl (by decide) (Nat.le_of_ble_eq_true rfl) (Nat.le_of_ble_eq_true rfl) ?_
 refine RW.g XK 24 [.p,.e [0,4,5],.o 1] rfl rfl rfl ?_
 refine RW.v rfl (V.inc rfl rfl rfl hlt (by simp only [maxLen]; omega)) ?_
 refine RW.g XK 24 [.o 1,.p] rfl rfl rfl ?_
 exact ⟨(i + 1, _), by simp only []; omega, (by omega), rfl, Le.c rfl <| Le.c (Dw_congr (bys_succ s i).symm) <| Le.c rfl <| Le.e⟩
 have hi : i = s.size := by simp at h2; omega
 refine CW.exit ?_
 refine CW.g XK 24 [.e [4],.o 1] rfl rfl rfl ?_
 refine RW.callOwn rfl (impl_ConfOk_fn (bys s i)) rfl (.cons (.one (.r (.al (k := none) (i := 4) (sz := 1) (V := X) rfl rfl nofun))) (.nil)) rfl fun g5 => ?_
 refine RW.g XK 24 [.o 1,.p,.e [4,22]] rfl rfl rfl ?_
 refine CW.cond rfl (fun h6 => ?_) (fun h6 => ?_)
 refine CW.g XK 24 [.n 1,.e [2,3]] rfl rfl rfl ?_
 refine CW.ret ?_
 exact Post.tup (by decide) (RVs.c (RV.n rfl (by rw [rc_no (i := i) (.inl hi) (by simp_all)])) (RVs.c (RV.b rfl (by rw [rc_no (i := i) (.inl hi) (by simp_all)])) RVs.e)) (AOs.r AOs.e)
 refine CW.g XK 24 [.p,.e [4],.o 2] rfl rfl rfl ?_
 refine RW.pullS 2 4 (by decide) rfl rfl ?_
 refine RW.g XK 24 [.o 1,.p,.e [2,3]] rfl rfl rfl ?_
 refine CW.ret ?_
 exact Post.tup (by decide) (RVs.c (RV.w rfl (by rw [rc_yes (i := i) (by simp_all [bys_len])])) (RVs.c (RV.b rfl (by rw [rc_yes (i := i) (by simp_all [bys_len])])) RVs.e)) (AOs.r AOs.e)
set_option maxHeartbeats 4000000 in
theorem impl_EntryOk_fn (e : Entry) (hok : okToEntry e) : Eng.Fn E.P 176 [.agg ((Entry.c e).map .r)] (.one (.one (.w (.v (.bool (entOk e)))))) [.agg ((Entry.c e).map .r)] := by
 refine Eng.Fn.intro (E := E) (rvs := [.tmp 2]) Tryz.func176 rfl rfl rfl (by simp [outSlots, moved, rvSlot, sl]) ?_
 intro B g bo
 refine CW.h XK 45 [.e [0],.o 1] rfl ?_;(conv=>whnf);intro b1;(conv=>whnf);refine ⟨rfl,?_⟩
 refine RW.freezeB (ts := (Entry.c e)) 1 rfl (DRd.r (DRd.r (DRd.r DRd.e))) ?_
 refine RW.g XK 45 [.o 1,.p,.e [1],.n 1,.e [1,6],.n 1,.e [1,6,7]] rfl rfl rfl ?_
 refine CW.cond rfl (fun h2 => ?_) (fun h2 => ?_)
 refine CW.seqJ 45 (fun (v3 : Bool) => [(2, Bo v3)]) (fun v3 => v3 = ((inR e.term_ 0 100000) && (e.data.toList == (⟨#[]⟩ : ByteArray).toList))) ?_ ?_
 refine CW.g XK 45 [.o 2] rfl rfl rfl ?_
 refine RW.call rfl (impl_isTerm_fn e.term_) rfl (.cons (.one (.r .r)) (.nil)) fun g4 => ?_
 refine RW.g XK 45 [.o 1] rfl rfl rfl ?_
 refine RW.gv rfl rfl rfl rfl (fun h5 => V.fieldR rfl rfl rfl rfl (by decide) rfl (Nat.le_of_ble_eq_true rfl)) (fun h5 => ?_) (fun h5 => ?_)
 refine RW.g XK 45 [.o 4,.p] rfl rfl rfl ?_
 exact ⟨_, by first | rfl | (simp_all; done) | (simp_all; omega) | grind, rfl, Le.of rfl⟩
 refine RW.g XK 45 [.o 4,.p] rfl rfl rfl ?_
 exact ⟨_, by first | rfl | (simp_all; done) | (simp_all; omega) | grind, rfl, Le.of rfl⟩
 intro v3 hv6
 refine CW.ret ?_
 exact Post.one (RV.b rfl (by first | (simp_all [entOk]; done) | grind [entOk])) (AOs.a rfl AOs.e)
 refine CW.g XK 45 [.n 1,.e [1,17]] rfl rfl rfl ?_
 refine CW.cond rfl (fun h7 => ?_) (fun h7 => ?_)
 refine CW.g XK 45 [.o 2] rfl rfl rfl ?_
 refine RW.call rfl (impl_ReadConf_fn e.data hok) rfl (.cons (.one (.r .r)) (.nil)) fun g8 => ?_
 refine RW.g XK 45 [.o 3] rfl rfl rfl ?_
 refine RW.assignMove rfl rfl rfl (by decide) (Nat.le_of_ble_eq_true rfl) (Nat.le_of_ble_eq_true rfl) ?_
 refine RW.g XK 45 [.o 1,.p,.e [1,4]] rfl rfl rfl ?_
 refine CW.seqJ 45 (fun (v9 : Bool) => [(2, Bo v9)]) (fun v9 => v9 = ((inR e.term_ 0 100000) && ((readConf e.data).2))) ?_ ?_
 refine CW.g XK 45 [.o 2] rfl rfl rfl ?_
 refine RW.call rfl (impl_isTerm_fn e.term_) rfl (.cons (.one (.r .r)) (.nil)) fun g10 => ?_
 refine RW.g XK 45 [.o 1] rfl rfl rfl ?_
 refine RW.gv rfl rfl rfl rfl (fun h11 => V.mv (d := Bo ((readConf e.data).2)) rfl rfl) (fun h11 => ?_) (fun h11 => ?_)
 refine RW.g XK 45 [.o 2,.p] rfl rfl rfl ?_
 exact ⟨_, by first | rfl | (simp_all; done) | (simp_all; omega) | grind, rfl, Le.of rfl⟩
 refine RW.g XK 45 [.o 2,.p] rfl rfl rfl ?_
 exact ⟨_, by first | rfl | (simp_all; done) | (simp_all; omega) | grind, rfl, Le.of rfl⟩
 intro v9 hv12
 refine CW.ret ?_
 exact Post.one (RV.b rfl (by first | (simp_all [entOk]; done) | grind [entOk])) (AOs.a rfl AOs.e)
 refine CW.g XK 45 [.p,.e [1]] rfl rfl rfl ?_
 refine CW.seqJ 45 (fun (v13 : Bool) => [(2, Bo v13)]) (fun v13 => v13 = (((e.kind == 3) && (inR e.term_ 0 100000)) && decide ((e.data.size : Int) ≤ 120))) ?_ ?_
 refine CW.g XK 45 [.o 4] rfl rfl rfl ?_
 refine RW.gv rfl rfl rfl rfl (fun h14 => V.fieldR rfl rfl rfl rfl (by decide) rfl (Nat.le_of_ble_eq_true rfl)) (fun h14 => ?_) (fun h14 => ?_)
 refine RW.g XK 45 [.o 1] rfl rfl rfl ?_
 refine RW.gcall rfl rfl rfl rfl (impl_isTerm_fn e.term_) rfl (.cons (.one (.r .r)) (.nil)) fun g15 => ?_
 refine RW.g XK 45 [.o 2] rfl rfl rfl ?_
 refine RW.gv rfl rfl rfl rfl (fun h16 => V.fieldR rfl rfl rfl rfl (by decide) rfl (Nat.le_of_ble_eq_true rfl)) (fun h16 => ?_) (fun h16 => ?_)
 refine RW.g XK 45 [.o 5,.p] rfl rfl rfl ?_
 exact ⟨_, by first | rfl | (simp_all; done) | (simp_all; omega) | grind, rfl, Le.of rfl⟩
 refine RW.g XK 45 [.o 5,.p] rfl rfl rfl ?_
 exact ⟨_, by first | rfl | (simp_all; done) | (simp_all; omega) | grind, rfl, Le.of rfl⟩
 refine RW.g XK 45 [.o 10,.p] rfl rfl rfl ?_
 exact ⟨_, by first | rfl | (simp_all; done) | (simp_all; omega) | grind, rfl, Le.of rfl⟩
 intro v13 hv17
 refine CW.ret ?_
 exact Post.one (RV.b rfl (by first | (simp_all [entOk]; done) | grind [entOk])) (AOs.a rfl AOs.e)
set_option maxHeartbeats 4000000 in
theorem impl_isIndex_fn (n : Int) : Eng.Fn E.P 49 [.one (.r (.v (.int .i64 n)))] (.one (.one (.w (.v (.bool (inR n 0 1000000)))))) [.one (.r (.v (.int .i64 n)))] := by
 refine Eng.Fn.intro (E := E) (rvs := [.tmp 2]) Tryz.func49 rfl rfl rfl (by simp [outSlots, moved, rvSlot, sl]) ?_
 intro B g bo
 refine CW.g XK 5 [.e [0],.n 1,.e [0],.o 1] rfl rfl rfl ?_
 refine RW.call rfl (impl_within_fn n 0 1000000) rfl (.cons (.one (.r .r)) (.cons (.one (.r .r)) (.cons (.one (.r .r)) (.nil)))) fun g1 => ?_
 refine RW.g XK 5 [.o 1,.p,.e [2]] rfl rfl rfl ?_
 refine CW.ret ?_
 exact Post.one (RV.b rfl (by rfl)) (AOs.r AOs.e)
set_option maxHeartbeats 4000000 in
theorem impl_LogOk_fn (l : Log) (hok : okToLog l) : Eng.Fn E.P 104 [.agg ((Log.c l).map .r)] (.one (.one (.w (.v (.bool (logOk l)))))) [.agg ((Log.c l).map .r)] := by
 refine Eng.Fn.intro (E := E) (rvs := [.tmp 2]) Tryz.func104 rfl rfl rfl (by simp [outSlots, moved, rvSlot, sl]) ?_
 intro B g bo
 refine CW.g XK 50 [.e [0]] rfl rfl rfl ?_
 have hl0 : l.entries.length ≤ maxLen := by have := hok.1; simp only [maxLen]; omega
 refine CW.h XK 50 [.o 1] rfl ?_;(conv=>whnf);intro b1;(conv=>whnf);refine ⟨rfl,?_⟩
 refine RW.freezeB (ts := (Log.c l)) 1 rfl (DRd.r (DRd.r (DRd.r DRd.e))) ?_
 refine RW.g XK 50 [.o 1,.p,.e [1],.n 1,.e [1,3],.n 1,.e [1,3,9,10,11],.p] rfl rfl rfl ?_
 refine CW.loopI 50 (fun (zz : Nat × Int) => match zz with | (i, t) => [(1, .rp (Log.c l)), (3, I t), (9, .r (sl 3 Entry.c l.entries)), (10, I (l.entries.length : Int)), (11, I (i : Int))]) (fun (zz : Nat × Int) => match zz with | (i, t) => i ≤ l.entries.length ∧ termsOk t (l.entries.drop i) = termsOk l.startTerm l.entries) (fun (zz : Nat × Int) => match zz with | (i, t) => l.entries.length - i) (0, _) rfl (Le.c rfl <| Le.c rfl <| Le.c rfl <| Le.c rfl <| Le.c rfl <| Le.e) ⟨by omega, by simp⟩ ?_
 rintro ⟨i, t⟩ ⟨hb, hr⟩
 refine CW.g XK 50 [.n 1,.e [1,3,9,10,11,12],.p] rfl rfl rfl ?_
 refine CW.cond rfl (fun h2 => ?_) (fun h2 => ?_)
 have hii : i < l.entries.length := by have := h2; simp at this; first | exact this | omega | (simp; done) | (simp; omega)
 obtain ⟨ei, hei⟩ : ∃ e, l.entries[i]? = some e := ⟨_, List.getElem?_eq_getElem hii⟩
 have hdi := drop_get hei
 refine CW.g XK 50 [.p,.e [1,3,9,10,11],.p,.p,.p,.p] rfl rfl rfl ?_
 refine RW.v rfl (V.indexS rfl rfl rfl rfl rfl rfl Entry.len hei) ?_
 refine RW.h XK 50 [.o 3] rfl ?_;(conv=>whnf);intro b3;(conv=>whnf);refine ⟨rfl,?_⟩
 refine RW.freezeB (ts := (Entry.c ei)) 5 rfl (DRd.r (DRd.r (DRd.r DRd.e))) ?_
 refine RW.g XK 50 [.p,.e [1,3,5,9,10,11],.p] rfl rfl rfl ?_
 refine CW.seqJ 50 (fun (v4 : Bool) => [(1, .rp (Log.c l)), (5, .rp (Entry.c ei)), (9, .r (sl 3 Entry.c l.entries)), (10, I (l.entries.length : Int)), (11, I (i : Int)), (23, Bo v4)]) (fun v4 => v4 = ((!(entOk ei)) || decide (ei.term_ < t))) ?_ ?_
 refine CW.g XK 50 [.o 1] rfl rfl rfl ?_
 refine RW.call rfl (impl_EntryOk_fn ei (hok.2 ei (List.mem_of_getElem? hei))) rfl (.cons (.agg (.cons (.r .r) (.cons (.r .r) (.cons (.r .r) (.nil))))) (.nil)) fun g5 => ?_
 refine RW.g XK 50 [.o 2] rfl rfl rfl ?_
 refine RW.gv rfl rfl rfl rfl (fun h6 => V.fieldR rfl rfl rfl rfl (by decide) rfl (Nat.le_of_ble_eq_true rfl)) (fun h6 => ?_) (fun h6 => ?_)
 refine RW.g XK 50 [.o 4,.p] rfl rfl rfl ?_
 exact ⟨_, by first | rfl | (simp_all; done) | (simp_all; omega) | grind, rfl, Le.of rfl⟩
 refine RW.g XK 50 [.o 4,.p] rfl rfl rfl ?_
 exact ⟨_, by first | rfl | (simp_all; done) | (simp_all; omega) | grind, rfl, Le.of rfl⟩
 intro v4 hv7
 refine CW.cond rfl (fun h8 => ?_) (fun h8 => ?_)
 refine CW.g XK 50 [.n 1,.e [2]] rfl rfl rfl ?_
 refine CW.ret ?_
 exact Post.one (RV.b rfl (by have ht : termsOk l.startTerm l.entries = false := (by rw [← hr, hdi, termsOk]; first | (simp_all; done) | grind); simp [logOk, ht])) (AOs.a rfl AOs.e)
 refine CW.g XK 50 [.p,.e [1,5,9,10,11],.o 3,.p,.e [1,3,9,10,11],.p] rfl rfl rfl ?_
 refine RW.v rfl (V.inc rfl rfl rfl hii hl0) ?_
 refine RW.g XK 50 [.o 1,.p] rfl rfl rfl ?_
 exact ⟨(i + 1, _), by simp only []; omega, ⟨by omega, by rw [← hr, hdi, termsOk]; simp_all⟩, rfl, Le.c rfl <| Le.c rfl <| Le.c rfl <| Le.c rfl <| Le.c rfl <| Le.e⟩
 have hii : l.entries.length ≤ i := by have := h2; simp at this; first | exact this | omega | (simp; done) | (simp; omega)
 have hdi : l.entries.drop i = [] := List.drop_eq_nil_of_le hii
 refine CW.exit ?_
 refine CW.g XK 50 [.e [1]] rfl rfl rfl ?_
 refine CW.seqJ 50 (fun (v9 : Bool) => [(2, Bo v9)]) (fun v9 => v9 = ((((inR l.start 0 1000000) && (inR l.startTerm 0 100000)) && decide ((l.entries.length : Int) ≤ 60)) && decide ((IntKind.i64.wrap (l.start + (l.entries.length : Int))) ≤ 1000000))) ?_ ?_
 refine CW.g XK 50 [.o 2] rfl rfl rfl ?_
 refine RW.call rfl (impl_isIndex_fn l.start) rfl (.cons (.one (.r .r)) (.nil)) fun g10 => ?_
 refine RW.g XK 50 [.o 1] rfl rfl rfl ?_
 refine RW.gv rfl rfl rfl rfl (fun h11 => V.fieldR rfl rfl rfl rfl (by decide) rfl (Nat.le_of_ble_eq_true rfl)) (fun h11 => ?_) (fun h11 => ?_)
 refine RW.g XK 50 [.o 1] rfl rfl rfl ?_
 refine RW.gcall rfl rfl rfl rfl (impl_isTerm_fn l.startTerm) rfl (.cons (.one (.r .r)) (.nil)) fun g12 => ?_
 refine RW.g XK 50 [.o 2] rfl rfl rfl ?_
 refine RW.gv rfl rfl rfl rfl (fun h13 => V.fieldR rfl rfl rfl rfl (by decide) rfl (Nat.le_of_ble_eq_true rfl)) (fun h13 => ?_) (fun h13 => ?_)
 refine RW.g XK 50 [.o 5] rfl rfl rfl ?_
 refine RW.gv rfl rfl rfl rfl (fun h14 => V.fieldR rfl rfl rfl rfl (by decide) rfl (Nat.le_of_ble_eq_true rfl)) (fun h14 => ?_) (fun h14 => ?_)
 refine RW.g XK 50 [.o 8,.p] rfl rfl rfl ?_
 exact ⟨_, by first | rfl | (simp_all; done) | (simp_all; omega) | grind, rfl, Le.of rfl⟩
 refine RW.g XK 50 [.o 8,.p] rfl rfl rfl ?_
 exact ⟨_, by first | rfl | (simp_all; done) | (simp_all; omega) | grind, rfl, Le.of rfl⟩
 refine RW.g XK 50 [.o 14,.p] rfl rfl rfl ?_
 exact ⟨_, by first | rfl | (simp_all; done) | (simp_all; omega) | grind, rfl, Le.of rfl⟩
 refine RW.g XK 50 [.o 19,.p] rfl rfl rfl ?_
 exact ⟨_, by first | rfl | (simp_all; done) | (simp_all; omega) | grind, rfl, Le.of rfl⟩
 intro v9 hv15
 refine CW.ret ?_
 exact Post.one (RV.b rfl (by have ht : termsOk l.startTerm l.entries = true := (by rw [← hr, hdi]; rfl); clear hr hdi; first | (simp_all [logOk]; done) | grind [logOk])) (AOs.a rfl AOs.e)
set_option maxHeartbeats 4000000 in
theorem impl_JournalOk_fn (j : Journal) (hj : j = Journal.z) : Eng.Fn E.P 80 [.agg ((Journal.c j).map .r)] (.one (.one (.w (.v (.bool true))))) [.agg ((Journal.c j).map .r)] := by
 refine Eng.Fn.intro (E := E) (rvs := [.tmp 2]) Tryz.func80 rfl rfl rfl (by simp [outSlots, moved, rvSlot, sl]) ?_
 intro B g bo
 refine CW.h XK 18 [.e [0],.o 1] rfl ?_;(conv=>whnf);intro b1;(conv=>whnf);refine ⟨rfl,?_⟩
 refine RW.freezeB (ts := (Journal.c j)) 1 rfl (DRd.r (DRd.r (DRd.r (DRd.r (DRd.r (DRd.r DRd.e)))))) ?_
 refine RW.g XK 18 [.o 1,.p,.e [1]] rfl rfl rfl ?_
 refine CW.seqJ 18 (fun (v2 : Bool) => [(2, Bo v2)]) (fun v2 => v2 = (((inR j.number 0 999) && (inR j.term_ 0 100000 && inR j.vote 0 4)) && (logOk j.log))) ?_ ?_
 refine CW.g XK 18 [.o 2] rfl rfl rfl ?_
 refine RW.call rfl (impl_within_fn j.number 0 999) rfl (.cons (.one (.r .r)) (.cons (.one (.r .r)) (.cons (.one (.r .r)) (.nil)))) fun g3 => ?_
 refine RW.g XK 18 [.o 1] rfl rfl rfl ?_
 refine RW.gv rfl rfl rfl rfl (fun h4 => V.fieldR rfl rfl rfl rfl (by decide) rfl (Nat.le_of_ble_eq_true rfl)) (fun h4 => ?_) (fun h4 => ?_)
 refine RW.g XK 18 [.o 3] rfl rfl rfl ?_
 refine RW.gcall rfl rfl rfl rfl (impl_votesOk_fn j.term_ j.vote) rfl (.cons (.one (.r .r)) (.cons (.one (.r .r)) (.nil))) fun g5 => ?_
 refine RW.g XK 18 [.o 2] rfl rfl rfl ?_
 refine RW.gv rfl rfl rfl rfl (fun h6 => V.fieldR rfl rfl rfl rfl (by decide) rfl (Nat.le_of_ble_eq_true rfl)) (fun h6 => ?_) (fun h6 => ?_)
 refine RW.g XK 18 [.o 1] rfl rfl rfl ?_
 refine RW.gcall rfl rfl rfl rfl (impl_LogOk_fn j.log (by rw [hj]; exact okToLog_z)) rfl (.cons (.agg (.cons (.r .r) (.cons (.r .r) (.cons (.r .r) (.nil))))) (.nil)) fun g7 => ?_
 refine RW.g XK 18 [.o 2,.p] rfl rfl rfl ?_
 exact ⟨_, by first | rfl | (simp_all; done) | (simp_all; omega) | grind, rfl, Le.of rfl⟩
 refine RW.g XK 18 [.o 4,.p] rfl rfl rfl ?_
 exact ⟨_, by first | rfl | (simp_all; done) | (simp_all; omega) | grind, rfl, Le.of rfl⟩
 refine RW.g XK 18 [.o 11,.p] rfl rfl rfl ?_
 exact ⟨_, by first | rfl | (simp_all; done) | (simp_all; omega) | grind, rfl, Le.of rfl⟩
 intro v2 hv8
 refine CW.ret ?_
 exact Post.one (RV.b rfl (by subst hj; simp_all [inR, Journal.z, logOk_z])) (AOs.a rfl AOs.e)
set_option maxHeartbeats 4000000 in
theorem impl_VarText_fn (n : Int) : Eng.Fn E.P 156 [.one (.r (.v (.int .i64 n)))] (.tup [.one (.w (.v (.string (if inR n 0 1000000000 then varB n.toNat else ⟨#[]⟩)))), .one (.w (.v (.bool (inR n 0 1000000000))))]) [.one (.r (.v (.int .i64 n)))] := by
 refine Eng.Fn.intro (E := E) (rvs := [.tmp 2, .tmp 3]) Tryz.func156 rfl rfl rfl (by simp [outSlots, moved, rvSlot, sl]) ?_
 intro B g bo
 refine CW.g XK 26 [.e [0],.n 1,.e [0],.o 1] rfl rfl rfl ?_
 refine RW.call rfl (impl_within_fn n 0 1000000000) rfl (.cons (.one (.r .r)) (.cons (.one (.r .r)) (.cons (.one (.r .r)) (.nil)))) fun g1 => ?_
 refine RW.g XK 26 [.o 1,.p,.e [0,7]] rfl rfl rfl ?_
 refine CW.cond rfl (fun h2 => ?_) (fun h2 => ?_)
 have hno := nT h2
 refine CW.g XK 26 [.n 1,.e [2,3]] rfl rfl rfl ?_
 refine CW.ret ?_
 exact Post.tup (by decide) (RVs.c (RV.s rfl (by rw [hno]; rfl)) (RVs.c (RV.b rfl (by rw [hno])) RVs.e)) (AOs.r AOs.e)
 have hin : inR n 0 1000000000 = true := nF h2
 refine CW.g XK 26 [.p,.e [0],.p,.p] rfl rfl rfl ?_
 refine RW.build0 cU rfl rfl rfl rfl rfl fun X3 => ?_
 refine RW.assignMove rfl rfl rfl (by decide) (Nat.le_of_ble_eq_true rfl) (Nat.le_of_ble_eq_true rfl) ?_
 refine RW.g XK 26 [.p,.e [0,4],.p,.p] rfl rfl rfl ?_
 refine CW.loopI 26 (fun (zz : Int × List Int × Value) => match zz with | (m, l, X) => [(0, I m), (4, .w (sl 1 cU l) X)]) (fun (zz : Int × List Int × Value) => match zz with | (m, l, X) => VbP n m l) (fun (zz : Int × List Int × Value) => match zz with | (m, l, X) => m.toNat) (_, [], _) rfl (Le.c rfl <| Le.c rfl <| Le.e) (VbP.init (by simp [inR] at hin; omega)) ?_
 rintro ⟨m, l, X⟩ hP
 refine CW.g XK 26 [.n 1,.e [0,4,10]] rfl rfl rfl ?_
 refine CW.cond rfl (fun h4 => ?_) (fun h4 => ?_)
 have hgt := h4
 refine CW.g XK 26 [.p,.e [0,4],.o 5] rfl rfl rfl ?_
 refine RW.build1c (c := cU) (v := (IntKind.u8.wrap (IntKind.i64.wrap ((Int.tmod m 128) + 128)))) (u := .v (.int .u8 (IntKind.u8.wrap (IntKind.i64.wrap ((Int.tmod m 128) + 128))))) rfl rfl rfl rfl rfl rfl (.inl rfl) rfl rfl fun X5 => ?_
 refine RW.appendSR (c := cU) (l1 := l) (l2 := [(IntKind.u8.wrap (IntKind.i64.wrap ((Int.tmod m 128) + 128)))]) rfl rfl rfl rfl rfl rfl rfl rfl (.al (k := none) (i := 16) (sz := 1) (V := X5) rfl rfl nofun) (by decide) (Nat.le_of_ble_eq_true rfl) cU.len (fun _ => rfl) rfl q6 q6 fun X6 => ?_
 refine RW.assignMove rfl rfl rfl (by decide) (Nat.le_of_ble_eq_true rfl) (Nat.le_of_ble_eq_true rfl) ?_
 refine RW.g XK 26 [.p,.e [0,4],.o 3,.p] rfl rfl rfl ?_
 exact ⟨(_, _, _), (hP.step hgt).2, (hP.step hgt).1, rfl, Le.c rfl <| Le.c rfl <| Le.e⟩
 have hgt := h4
 refine CW.exit ?_
 refine CW.g XK 26 [.e [0,4],.o 3] rfl rfl rfl ?_
 refine RW.build1c (c := cU) (v := (IntKind.u8.wrap m)) (u := .v (.int .u8 (IntKind.u8.wrap m))) rfl rfl rfl rfl rfl rfl (.inl rfl) rfl rfl fun X7 => ?_
 refine RW.appendSR (c := cU) (l1 := l) (l2 := [(IntKind.u8.wrap m)]) rfl rfl rfl rfl rfl rfl rfl rfl (.al (k := none) (i := 23) (sz := 1) (V := X7) rfl rfl nofun) (by decide) (Nat.le_of_ble_eq_true rfl) cU.len (fun _ => rfl) rfl q6 q6 fun X8 => ?_
 refine RW.v rfl (V.bytesStr (l := (l ++ ([(IntKind.u8.wrap m)]))) rfl rfl rfl (by kernel_rfl) (by kernel_rfl) (.al (k := none) (i := 24) (sz := 1) (V := X8) rfl rfl nofun)) ?_
 refine RW.g XK 26 [.o 2,.p,.e [2,3]] rfl rfl rfl ?_
 refine CW.ret ?_
 exact Post.tup (by decide) (RVs.c (RV.s rfl (by rw [if_pos hin]; exact hP.fin hgt)) (RVs.c (RV.b rfl (by exact hin.symm)) RVs.e)) (AOs.r AOs.e)
set_option maxHeartbeats 4000000 in
theorem impl_varTexts_fn (l : List Int) (hl : l.length ≤ 10) : Eng.Fn E.P 82 [.one (.r (sl 1 cI l))] (.one (.one (.w (.v (.string (varTs l)))))) [.one (.r (sl 1 cI l))] := by
 refine Eng.Fn.intro (E := E) (rvs := [.tmp 2]) Tryz.func82 rfl rfl rfl (by simp [outSlots, moved, rvSlot, sl]) ?_
 intro B g bo
 refine CW.bound (x := .tmp 0) (n := l.length) (AsT.r) (fun hl0 => ?_)
 refine CW.g XK 24 [.e [0],.n 2,.e [0,3],.n 1,.e [3,8,9,10],.p] rfl rfl rfl ?_
 refine CW.loopI 24 (fun (zz : Nat × ByteArray) => match zz with | (i, s) => [(3, S s), (8, .r (sl 1 cI l)), (9, I (l.length : Int)), (10, I (i : Int))]) (fun (zz : Nat × ByteArray) => match zz with | (i, s) => i ≤ l.length ∧ s = varTs (l.take i)) (fun (zz : Nat × ByteArray) => match zz with | (i, s) => l.length - i) (0, _) rfl (Le.c rfl <| Le.c rfl <| Le.c rfl <| Le.c rfl <| Le.e) ⟨by omega, rfl⟩ ?_
 rintro ⟨i, s⟩ ⟨hb, hs⟩
 refine CW.g XK 24 [.n 1,.e [3,8,9,10,11],.p] rfl rfl rfl ?_
 refine CW.cond rfl (fun h1 => ?_) (fun h1 => ?_)
 have hii : i < l.length := by have := h1; simp at this; first | exact this | omega | (simp; done) | (simp; omega)
 obtain ⟨ei, hei⟩ : ∃ e, l[i]? = some e := ⟨_, List.getElem?_eq_getElem hii⟩
 have hdi := drop_get hei
 refine CW.g XK 24 [.p,.e [3,8,9,10],.p,.p,.p,.p] rfl rfl rfl ?_
 refine RW.v rfl (V.indexS rfl rfl rfl rfl rfl rfl cI.len hei) ?_
 refine RW.g XK 24 [.o 2,.p,.e [3,5,8,9,10],.o 1] rfl rfl rfl ?_
 refine RW.call rfl (impl_VarText_fn ei) rfl (.cons (.one (.r .r)) (.nil)) fun g2 => ?_
 refine RW.g XK 24 [.o 5,.p,.e [3,6,8,9,10],.o 2] rfl rfl rfl ?_
 refine RW.v rfl (V.cat rfl rfl rfl (by have h9 := varTs_size (l.take i); rw [← hs] at h9; have h8 := take_len l i; have h7 := vT_size ei; simp only [vT] at h7; simp only [maxLen]; omega)) ?_
 refine RW.g XK 24 [.o 1,.p,.e [3,8,9,10],.p] rfl rfl rfl ?_
 refine RW.v rfl (V.inc rfl rfl rfl hii hl0) ?_
 refine RW.g XK 24 [.o 1,.p] rfl rfl rfl ?_
 exact ⟨(i + 1, _), by simp only []; omega, ⟨by omega, by rw [varTs_snoc hei, ← hs]; rfl⟩, rfl, Le.c rfl <| Le.c rfl <| Le.c rfl <| Le.c rfl <| Le.e⟩
 have hii : l.length ≤ i := by have := h1; simp at this; first | exact this | omega | (simp; done) | (simp; omega)
 have hdi : l.drop i = [] := List.drop_eq_nil_of_le hii
 refine CW.exit ?_
 refine CW.g XK 24 [.e [3],.n 1,.e [2]] rfl rfl rfl ?_
 refine CW.ret ?_
 exact Post.one (RV.s rfl (by rw [hs, List.take_of_length_le hii])) (AOs.r AOs.e)
set_option maxHeartbeats 4000000 in
theorem impl_SumMore_fn (x : Int) (t : ByteArray) (ht : t.size ≤ maxLen) : Eng.Fn E.P 225 [.one (.r (.v (.int .u32 x))), .one (.r (.v (.string t)))] (.one (.one (.w (.v (.int .u32 (sumN x t t.size)))))) [.one (.r (.v (.int .u32 x))), .one (.r (.v (.string t)))] := by
 refine Eng.Fn.intro (E := E) (rvs := [.tmp 4]) Tryz.func225 rfl rfl rfl (by simp [outSlots, moved, rvSlot, sl]) ?_
 intro B g bo
 refine CW.g XK 31 [.e [0,1],.p,.p] rfl rfl rfl ?_
 refine RW.v rfl (V.as (d := .r (.v (.int .u32 0))) rfl rfl) ?_
 refine RW.g XK 31 [.p,.e [0,1],.n 1,.e [0,1,5],.p] rfl rfl rfl ?_
 refine CW.loopI 31 (fun (zz : Nat × Int) => match zz with | (i, s) => [(0, .r (.v (.int .u32 s))), (1, S t), (5, I (i : Int))]) (fun (zz : Nat × Int) => match zz with | (i, s) => i ≤ t.size ∧ s = sumN x t i) (fun (zz : Nat × Int) => match zz with | (i, s) => t.size - i) (0, _) rfl (Le.c rfl <| Le.c rfl <| Le.c rfl <| Le.e) ⟨by omega, rfl⟩ ?_
 rintro ⟨i, s⟩ ⟨hb, hr⟩
 refine CW.g XK 31 [.n 1,.e [0,1,5,10]] rfl rfl rfl ?_
 refine CW.cond rfl (fun h1 => ?_) (fun h1 => ?_)
 have hlt : i < t.size := by simpa using h1
 refine CW.g XK 31 [.p,.e [0,1,5],.p,.p,.p,.p] rfl rfl rfl ?_
 refine RW.v rfl (V.mv (d := .r (.v (.int .u32 s))) rfl rfl) ?_
 refine RW.g XK 31 [.o 2] rfl rfl rfl ?_
 refine RW.v rfl (V.idxStr (m := i) rfl (by kernel_rfl) rfl rfl hlt) ?_
 refine RW.v rfl (V.convInt (k := .u32) (k' := .u8) rfl (by kernel_rfl) (by kernel_rfl) rfl) ?_
 refine RW.v rfl (V.xorW rfl rfl rfl) ?_
 refine RW.v rfl (V.as (d := .r (.v (.int .u32 (xorW s (IntKind.u32.wrap (bat t i)))))) rfl rfl) ?_
 refine RW.g XK 31 [.p,.e [0,1,5],.n 1,.e [0,1,5,19],.p] rfl rfl rfl ?_
 refine CW.loopI 31 (fun (zz : Nat × Int) => match zz with | (k, r) => [(0, .r (.v (.int .u32 r))), (1, S t), (5, I (i : Int)), (19, I (k : Int))]) (fun (zz : Nat × Int) => match zz with | (k, r) => k ≤ 8 ∧ r = sumBits k (xorW s (IntKind.u32.wrap (bat t i)))) (fun (zz : Nat × Int) => match zz with | (k, r) => 8 - k) (0, _) rfl (Le.c rfl <| Le.c rfl <| Le.c rfl <| Le.c rfl <| Le.e) ⟨by omega, rfl⟩ ?_
 rintro ⟨k, r⟩ ⟨hk8, hk⟩
 refine CW.g XK 31 [.n 1,.e [0,1,5,19,20],.p] rfl rfl rfl ?_
 refine CW.cond rfl (fun h2 => ?_) (fun h2 => ?_)
 have hk9 := of_decide_eq_true h2
 refine CW.g XK 31 [.p,.e [0,1,5,19],.p,.p,.p,.p] rfl rfl rfl ?_
 refine RW.v rfl (V.mv (d := .r (.v (.int .u32 r))) rfl rfl) ?_
 refine RW.v rfl (V.rem (k := .u32) rfl rfl rfl (by decide)) ?_
 refine RW.v rfl (V.cmpInt (k := .u32) rfl rfl rfl rfl) ?_
 refine RW.g XK 31 [.o 1,.p,.e [0,1,5,6,19],.p,.p] rfl rfl rfl ?_
 refine RW.v rfl (V.mv (d := .r (.v (.int .u32 r))) rfl rfl) ?_
 refine RW.v rfl (V.quo (k := .u32) rfl rfl rfl (by decide)) ?_
 refine RW.v rfl (V.as (d := .r (.v (.int .u32 (IntKind.u32.wrap (Int.tdiv r 2))))) rfl rfl) ?_
 refine RW.g XK 31 [.p,.e [0,1,5,6,19],.n 1,.e [0,1,5,19,26]] rfl rfl rfl ?_
 refine CW.cond rfl (fun h3 => ?_) (fun h3 => ?_)
 have hod := h3
 refine CW.g XK 31 [.p] rfl rfl rfl ?_
 refine RW.v rfl (V.mv (d := .r (.v (.int .u32 (IntKind.u32.wrap (Int.tdiv r 2))))) rfl rfl) ?_
 refine RW.v rfl (V.xorW rfl rfl rfl) ?_
 refine RW.v rfl (V.as (d := .r (.v (.int .u32 (xorW (IntKind.u32.wrap (Int.tdiv r 2)) 3558460437)))) rfl rfl) ?_
 refine RW.g XK 31 [.p,.e [0,1,5,19],.p] rfl rfl rfl ?_
 refine RW.v rfl (V.inc rfl rfl rfl (show k < 8 by omega) (by simp only [maxLen]; omega)) ?_
 refine RW.g XK 31 [.o 1,.p] rfl rfl rfl ?_
 exact ⟨(k + 1, _), by simp only []; omega, ⟨by omega, by first | exact sumB1 hk hod | exact sumB0 hk hod⟩, rfl, Le.c rfl <| Le.c rfl <| Le.c rfl <| Le.c rfl <| Le.e⟩
 have hod := h3
 refine CW.g XK 31 [.p,.e [0,1,5,19],.p] rfl rfl rfl ?_
 refine RW.v rfl (V.inc rfl rfl rfl (show k < 8 by omega) (by simp only [maxLen]; omega)) ?_
 refine RW.g XK 31 [.o 1,.p] rfl rfl rfl ?_
 exact ⟨(k + 1, _), by simp only []; omega, ⟨by omega, by first | exact sumB1 hk hod | exact sumB0 hk hod⟩, rfl, Le.c rfl <| Le.c rfl <| Le.c rfl <| Le.c rfl <| Le.e⟩
 have hk9 := of_decide_eq_false h2
 refine CW.exit ?_
 refine CW.g XK 31 [.e [0,1,5],.o 1] rfl rfl rfl ?_
 refine RW.v rfl (V.inc rfl rfl rfl hlt ht) ?_
 refine RW.g XK 31 [.o 1,.p] rfl rfl rfl ?_
 exact ⟨(i + 1, _), by simp only []; omega, ⟨by omega, by rw [sumN, ← hr, hk, show k = 8 by omega]⟩, rfl, Le.c rfl <| Le.c rfl <| Le.c rfl <| Le.e⟩
 have hge : ¬ i < t.size := by simpa using h1
 refine CW.exit ?_
 refine CW.g XK 31 [.e [0],.p,.p] rfl rfl rfl ?_
 refine RW.v rfl (V.mv (d := .r (.v (.int .u32 s))) rfl rfl) ?_
 refine RW.v rfl (V.as (d := .r (.v (.int .u32 s))) rfl rfl) ?_
 refine RW.g XK 31 [.p,.e [4]] rfl rfl rfl ?_
 refine CW.ret ?_
 exact Post.one (RV.v rfl (by rw [hr, show i = t.size by omega])) (AOs.r (AOs.r AOs.e))
set_option maxHeartbeats 4000000 in
theorem impl_SumOf_fn (t : ByteArray) (ht : t.size ≤ maxLen) : Eng.Fn E.P 162 [.one (.r (.v (.string t)))] (.one (.one (.w (.v (.int .u32 (sumN 4294967295 t t.size)))))) [.one (.r (.v (.string t)))] := by
 refine Eng.Fn.intro (E := E) (rvs := [.tmp 2]) Tryz.func162 rfl rfl rfl (by simp [outSlots, moved, rvSlot, sl]) ?_
 intro B g bo
 refine CW.g XK 5 [.e [0],.p,.p] rfl rfl rfl ?_
 refine RW.v rfl (V.as (d := .r (.v (.int .u32 0))) rfl rfl) ?_
 refine RW.g XK 5 [.p,.e [0],.o 1] rfl rfl rfl ?_
 refine RW.call rfl (impl_SumMore_fn 4294967295 t ht) rfl (.cons (.one (.r .r)) (.cons (.one (.r .r)) (.nil))) fun g1 => ?_
 refine RW.v rfl (V.as (d := .r (.v (.int .u32 (sumN 4294967295 t t.size)))) rfl rfl) ?_
 refine RW.g XK 5 [.p,.e [2]] rfl rfl rfl ?_
 refine CW.ret ?_
 exact Post.one (RV.v rfl (by rfl)) (AOs.r AOs.e)
set_option maxHeartbeats 4000000 in
theorem impl_sumText_fn (t : ByteArray) (ht : t.size ≤ maxLen) : Eng.Fn E.P 157 [.one (.r (.v (.string t)))] (.one (.one (.w (.v (.string (sumT t)))))) [.one (.r (.v (.string t)))] := by
 refine Eng.Fn.intro (E := E) (rvs := [.tmp 2]) Tryz.func157 rfl rfl rfl (by simp [outSlots, moved, rvSlot, sl]) ?_
 intro B g bo
 refine CW.g XK 19 [.e [0],.n 1,.e [0],.o 1] rfl rfl rfl ?_
 refine RW.call rfl (impl_SumOf_fn t ht) rfl (.cons (.one (.r .r)) (.nil)) fun g1 => ?_
 refine RW.v rfl (V.as (d := .r (.v (.int .u32 (sumN 4294967295 t t.size)))) rfl rfl) ?_
 refine RW.g XK 19 [.p,.e [3],.p,.p] rfl rfl rfl ?_
 refine RW.v rfl (V.mv (d := .r (.v (.int .u32 (sumN 4294967295 t t.size)))) rfl rfl) ?_
 refine RW.v rfl (V.shrW rfl rfl rfl (by decide)) ?_
 refine RW.v rfl (V.convInt (k := .u8) (k' := .u32) rfl (by kernel_rfl) (by kernel_rfl) rfl) ?_
 refine RW.v rfl (V.mv (d := .r (.v (.int .u32 (sumN 4294967295 t t.size)))) rfl rfl) ?_
 refine RW.v rfl (V.shrW rfl rfl rfl (by decide)) ?_
 refine RW.v rfl (V.convInt (k := .u8) (k' := .u32) rfl (by kernel_rfl) (by kernel_rfl) rfl) ?_
 refine RW.v rfl (V.mv (d := .r (.v (.int .u32 (sumN 4294967295 t t.size)))) rfl rfl) ?_
 refine RW.v rfl (V.shrW rfl rfl rfl (by decide)) ?_
 refine RW.v rfl (V.convInt (k := .u8) (k' := .u32) rfl (by kernel_rfl) (by kernel_rfl) rfl) ?_
 refine RW.v rfl (V.mv (d := .r (.v (.int .u32 (sumN 4294967295 t t.size)))) rfl rfl) ?_
 refine RW.v rfl (V.convInt (k := .u8) (k' := .u32) rfl (by kernel_rfl) (by kernel_rfl) rfl) ?_
 refine RW.buildV (c := cU) (L := [(IntKind.u8.wrap (shrW (sumN 4294967295 t t.size) 24)), (IntKind.u8.wrap (shrW (sumN 4294967295 t t.size) 16)), (IntKind.u8.wrap (shrW (sumN 4294967295 t t.size) 8)), (IntKind.u8.wrap (sumN 4294967295 t t.size))]) (vs := [(.int .u8 (IntKind.u8.wrap (shrW (sumN 4294967295 t t.size) 24))), (.int .u8 (IntKind.u8.wrap (shrW (sumN 4294967295 t t.size) 16))), (.int .u8 (IntKind.u8.wrap (shrW (sumN 4294967295 t t.size) 8))), (.int .u8 (IntKind.u8.wrap (sumN 4294967295 t t.size)))]) [.tmp 8, .tmp 11, .tmp 14, .tmp 16] rfl rfl rfl rfl rfl rfl rfl rfl rfl rfl (by decide) (by decide) rfl rfl fun X2 => ?_
 refine RW.v rfl (V.bytesStr (l := ([(IntKind.u8.wrap (shrW (sumN 4294967295 t t.size) 24)), (IntKind.u8.wrap (shrW (sumN 4294967295 t t.size) 16)), (IntKind.u8.wrap (shrW (sumN 4294967295 t t.size) 8)), (IntKind.u8.wrap (sumN 4294967295 t t.size))] : List Int)) rfl rfl rfl (by kernel_rfl) (by kernel_rfl) (.al (k := none) (i := 17) (sz := 1) (V := X2) rfl rfl nofun)) ?_
 refine RW.g XK 19 [.o 1,.p,.e [2]] rfl rfl rfl ?_
 refine CW.ret ?_
 exact Post.one (RV.s rfl (by rfl)) (AOs.r AOs.e)
set_option maxHeartbeats 4000000 in
theorem impl_Frame_fn (t : ByteArray) : Eng.Fn E.P 81 [.one (.r (.v (.string t)))] (.tup [.one (.w (.v (.string ((frT t).1)))), .one (.w (.v (.bool ((frT t).2))))]) [.one (.r (.v (.string t)))] := by
 refine Eng.Fn.intro (E := E) (rvs := [.tmp 2, .tmp 3]) Tryz.func81 rfl rfl rfl (by simp [outSlots, moved, rvSlot, sl]) ?_
 intro B g bo
 refine CW.g XK 22 [.e [0],.n 1,.e [0],.o 2] rfl rfl rfl ?_
 refine RW.call rfl (impl_within_fn (t.size : Int) 1 9000) rfl (.cons (.one (.r .r)) (.cons (.one (.r .r)) (.cons (.one (.r .r)) (.nil)))) fun g1 => ?_
 refine RW.g XK 22 [.o 1,.p,.e [0,9]] rfl rfl rfl ?_
 refine CW.cond rfl (fun h2 => ?_) (fun h2 => ?_)
 have hno := h2
 refine CW.g XK 22 [.n 1,.e [2,3]] rfl rfl rfl ?_
 refine CW.ret ?_
 exact Post.tup (by decide) (RVs.c (RV.s rfl (by rw [fr_no hno])) (RVs.c (RV.b rfl (by rw [fr_no hno])) RVs.e)) (AOs.r AOs.e)
 have hno := h2
 have hin := fr_in (nF h2)
 refine CW.g XK 22 [.p,.e [0],.o 2] rfl rfl rfl ?_
 refine RW.call rfl (impl_VarText_fn (t.size : Int)) rfl (.cons (.one (.r .r)) (.nil)) fun g3 => ?_
 refine RW.g XK 22 [.o 5,.p,.e [0,4],.o 2] rfl rfl rfl ?_
 refine RW.call rfl (impl_sumText_fn t (by simp only [maxLen]; omega)) rfl (.cons (.one (.r .r)) (.nil)) fun g4 => ?_
 refine RW.v rfl (V.cat rfl rfl rfl (by have h9 := sumT_size t; simp only [sumT] at h9; have h8 := varB_len9 (n := t.size) (by omega); have h7 : (if inR (t.size : Int) 0 1000000000 then varB ((t.size : Int)).toNat else ⟨#[]⟩ : ByteArray).size ≤ 9 := (by rw [if_pos (by simp [inR]; omega)]; exact h8); simp only [ByteArray.size_append, maxLen, sumT, Int.toNat_natCast] at *; omega)) ?_
 refine RW.g XK 22 [.o 1] rfl rfl rfl ?_
 refine RW.v rfl (V.cat rfl rfl rfl (by have h9 := sumT_size t; simp only [sumT] at h9; have h8 := varB_len9 (n := t.size) (by omega); have h7 : (if inR (t.size : Int) 0 1000000000 then varB ((t.size : Int)).toNat else ⟨#[]⟩ : ByteArray).size ≤ 9 := (by rw [if_pos (by simp [inR]; omega)]; exact h8); simp only [ByteArray.size_append, maxLen, sumT, Int.toNat_natCast] at *; omega)) ?_
 refine RW.g XK 22 [.o 2,.p,.e [2,3]] rfl rfl rfl ?_
 refine CW.ret ?_
 exact Post.tup (by decide) (RVs.c (RV.s rfl (by rw [fr_go hno, if_pos (by simp [inR]; omega)]; rfl)) (RVs.c (RV.b rfl (by rw [fr_go hno])) RVs.e)) (AOs.r AOs.e)
set_option maxHeartbeats 4000000 in
theorem impl_headText_fn (j : Journal) (hj : j = Journal.z) : Eng.Fn E.P 83 [.agg ((Journal.c j).map .r)] (.one (.one (.w (.v (.string ((frT (⟨#[72]⟩ ++ varTs [0, 0])).1)))))) [.agg ((Journal.c j).map .r)] := by
 refine Eng.Fn.intro (E := E) (rvs := [.tmp 2]) Tryz.func83 rfl rfl rfl (by simp [outSlots, moved, rvSlot, sl]) ?_
 intro B g bo
 refine CW.g XK 17 [.e [0]] rfl rfl rfl ?_
 have z1 : j.log.start = 0 := by rw [hj]; rfl
 have z2 : j.log.startTerm = 0 := by rw [hj]; rfl
 have z3 : j.term_ = 0 := by rw [hj]; rfl
 have z4 : j.vote = 0 := by rw [hj]; rfl
 have z5 : j.log = Log.z := by rw [hj]; rfl
 refine CW.h XK 17 [.o 1] rfl ?_;(conv=>whnf);intro b1;(conv=>whnf);refine ⟨rfl,?_⟩
 refine RW.freezeB (ts := (Journal.c j)) 1 rfl (DRd.r (DRd.r (DRd.r (DRd.r (DRd.r (DRd.r DRd.e)))))) ?_
 refine RW.g XK 17 [.o 1,.p,.e [1],.o 4] rfl rfl rfl ?_
 refine RW.build2c (c := cI) (v1 := j.term_) (v2 := j.vote) (u1 := .v (.int .i64 j.term_)) (u2 := .v (.int .i64 j.vote)) rfl rfl rfl rfl rfl rfl (.inl rfl) rfl rfl (.inl rfl) rfl rfl fun X2 => ?_
 refine RW.callOwn rfl (impl_varTexts_fn ([j.term_, j.vote]) (Nat.le_of_ble_eq_true rfl)) rfl (.cons (.one (.r (.al (k := none) (i := 10) (sz := 1) (V := X2) rfl rfl nofun))) (.nil)) rfl fun g3 => ?_
 refine RW.v rfl (V.cat rfl rfl rfl (by have h9 := varTs_size [j.term_, j.vote]; simp only [List.length_cons, List.length_nil] at h9; have h7 : (⟨#[72]⟩ : ByteArray).size = 1 := rfl; simp only [maxLen, h7]; omega)) ?_
 refine RW.call rfl (impl_Frame_fn ((⟨#[72]⟩ : ByteArray) ++ (varTs ([j.term_, j.vote])))) rfl (.cons (.one (.r .r)) (.nil)) fun g4 => ?_
 refine RW.g XK 17 [.o 5,.p,.e [3],.n 1,.e [2]] rfl rfl rfl ?_
 refine CW.ret ?_
 exact Post.one (RV.s rfl (by rw [z3, z4])) (AOs.a rfl AOs.e)
set_option maxHeartbeats 4000000 in
theorem impl_byteTexts_fn (l : List Int) (hm : l.length ≤ 1048576) : Eng.Fn E.P 44 [.one (.r (sl 1 cI l))] (.one (.one (.w (.v (.string (byT l)))))) [.one (.r (sl 1 cI l))] := by
 refine Eng.Fn.intro (E := E) (rvs := [.tmp 2]) Tryz.func44 rfl rfl rfl (by simp [outSlots, moved, rvSlot, sl]) ?_
 intro B g bo
 refine CW.bound (x := .tmp 0) (n := l.length) (AsT.r) (fun hl0 => ?_)
 refine CW.g XK 21 [.e [0],.n 1,.e [0],.p,.p] rfl rfl rfl ?_
 refine RW.build0 cU rfl rfl rfl rfl rfl fun X1 => ?_
 refine RW.assignMove rfl rfl rfl (by decide) (Nat.le_of_ble_eq_true rfl) (Nat.le_of_ble_eq_true rfl) ?_
 refine RW.g XK 21 [.p,.e [0,3],.n 1,.e [3,7,8,9],.p] rfl rfl rfl ?_
 refine CW.loopI 21 (fun (zz : Nat × Value) => match zz with | (i, X) => [(3, .w (sl 1 cU ((l.take i).map fun x => IntKind.u8.wrap x)) X), (7, .r (sl 1 cI l)), (8, I (l.length : Int)), (9, I (i : Int))]) (fun (zz : Nat × Value) => match zz with | (i, X) => i ≤ l.length) (fun (zz : Nat × Value) => match zz with | (i, X) => l.length - i) (0, _) rfl (Le.c rfl <| Le.c rfl <| Le.c rfl <| Le.c rfl <| Le.e) (by omega) ?_
 rintro ⟨i, X⟩ hb
 refine CW.g XK 21 [.n 1,.e [3,7,8,9,10],.p] rfl rfl rfl ?_
 refine CW.cond rfl (fun h2 => ?_) (fun h2 => ?_)
 have hii : i < l.length := by have := h2; simp at this; first | exact this | omega | (simp; done) | (simp; omega)
 obtain ⟨ei, hei⟩ : ∃ e, l[i]? = some e := ⟨_, List.getElem?_eq_getElem hii⟩
 have hdi := drop_get hei
 refine CW.g XK 21 [.p,.e [3,7,8,9],.p,.p,.p,.p] rfl rfl rfl ?_
 refine RW.v rfl (V.indexS rfl rfl rfl rfl rfl rfl cI.len hei) ?_
 refine RW.g XK 21 [.o 2,.p,.e [3,5,7,8,9],.o 3] rfl rfl rfl ?_
 refine RW.build1c (c := cU) (v := (IntKind.u8.wrap ei)) (u := .v (.int .u8 (IntKind.u8.wrap ei))) rfl rfl rfl rfl rfl rfl (.inl rfl) rfl rfl fun X3 => ?_
 refine RW.appendSR (c := cU) (l1 := ((l.take i).map fun x => IntKind.u8.wrap x)) (l2 := [(IntKind.u8.wrap ei)]) rfl rfl rfl rfl rfl rfl rfl rfl (.al (k := none) (i := 16) (sz := 1) (V := X3) rfl rfl nofun) (by decide) (Nat.le_of_ble_eq_true rfl) cU.len (fun _ => rfl) rfl (by simp only [maxLen, List.length_map, List.length_take, List.length_singleton]; omega) (by simp only [maxLen, List.length_map, List.length_take, List.length_singleton]; omega) fun X4 => ?_
 refine RW.assignMove rfl rfl rfl (by decide) (Nat.le_of_ble_eq_true rfl) (Nat.le_of_ble_eq_true rfl) ?_
 refine RW.g XK 21 [.p,.e [3,7,8,9],.p] rfl rfl rfl ?_
 refine RW.v rfl (V.inc rfl rfl rfl hii hl0) ?_
 refine RW.g XK 21 [.o 1,.p] rfl rfl rfl ?_
 exact ⟨(i + 1, _), by simp only []; omega, (by omega), rfl, Le.c (Dw_congr (by rw [take_snoc hei, List.map_append]; rfl)) <| Le.c rfl <| Le.c rfl <| Le.c rfl <| Le.e⟩
 have hii : l.length ≤ i := by have := h2; simp at this; first | exact this | omega | (simp; done) | (simp; omega)
 have hdi : l.drop i = [] := List.drop_eq_nil_of_le hii
 refine CW.exit ?_
 refine CW.g XK 21 [.e [3],.o 1] rfl rfl rfl ?_
 refine RW.v rfl (V.bytesStr (l := ((l.take i).map fun x => IntKind.u8.wrap x)) rfl rfl rfl (by kernel_rfl) (by kernel_rfl) (.al (k := none) (i := 3) (sz := 1) (V := X) rfl rfl nofun)) ?_
 refine RW.g XK 21 [.o 1,.p,.e [2]] rfl rfl rfl ?_
 refine CW.ret ?_
 exact Post.one (RV.s rfl (by rw [List.take_of_length_le hii]; rfl)) (AOs.r AOs.e)
set_option maxHeartbeats 4000000 in
theorem impl_entriesText_fn (l : Log) (k : Int) (hl : l = Log.z) (hk : k = 0) : Eng.Fn E.P 84 [.agg ((Log.c l).map .r), .one (.r (.v (.int .i64 k)))] (.one (.one (.w (.v (.string (⟨#[]⟩)))))) [.agg ((Log.c l).map .r), .one (.r (.v (.int .i64 k)))] := by
 refine Eng.Fn.intro (E := E) (rvs := [.tmp 4]) Tryz.func84 rfl rfl rfl (by simp [outSlots, moved, rvSlot, sl]) ?_
 intro B g bo
 refine CW.g XK 42 [.e [0,1]] rfl rfl rfl ?_
 have he1 : l.start = 0 := by rw [hl]; rfl
 have he2 : l.startTerm = 0 := by rw [hl]; rfl
 have he3 : l.entries = [] := by rw [hl]; rfl
 refine CW.h XK 42 [.o 1] rfl ?_;(conv=>whnf);intro b1;(conv=>whnf);refine ⟨rfl,?_⟩
 refine RW.freezeB (ts := (Log.c l)) 2 rfl (DRd.r (DRd.r (DRd.r DRd.e))) ?_
 refine RW.g XK 42 [.o 1,.p,.e [1,2],.n 1,.e [1,2,5],.n 1,.e [2,5,6],.p] rfl rfl rfl ?_
 refine CW.loopI 42 (fun (i : Nat) => [(2, .rp (Log.c l)), (5, S (⟨#[]⟩ : ByteArray)), (6, I (i : Int))]) (fun (i : Nat) => i = 0) (fun (i : Nat) => 0) 0 rfl (Le.c rfl <| Le.c rfl <| Le.c (congrArg I hk) <| Le.e) rfl ?_
 rintro i hi0
 refine CW.g XK 42 [.n 1,.e [2,5,6,16]] rfl rfl rfl ?_
 refine CW.cond rfl (fun h2 => ?_) (fun h2 => ?_)
 exact absurd (of_decide_eq_true h2) (by rw [he3]; show ¬ (i : Int) < ((0 : Nat) : Int); omega)
 refine CW.exit ?_
 refine CW.g XK 42 [.e [5],.n 1,.e [4]] rfl rfl rfl ?_
 refine CW.ret ?_
 exact Post.one (RV.s rfl (by rfl)) (AOs.a rfl (AOs.r AOs.e))
set_option maxHeartbeats 4000000 in
theorem impl_JournalText_fn (j : Journal) (hj : j = Journal.z) : Eng.Fn E.P 23 [.agg ((Journal.c j).map .r)] (.tup [.one (.w (.v (.string jT))), .one (.w (.v (.bool true)))]) [.agg ((Journal.c j).map .r)] := by
 refine Eng.Fn.intro (E := E) (rvs := [.tmp 2, .tmp 3]) Tryz.func23 rfl rfl rfl (by simp [outSlots, moved, rvSlot, sl]) ?_
 intro B g bo
 refine CW.g XK 35 [.e [0]] rfl rfl rfl ?_
 have z1 : j.log.start = 0 := by rw [hj]; rfl
 have z2 : j.log.startTerm = 0 := by rw [hj]; rfl
 have z3 : j.term_ = 0 := by rw [hj]; rfl
 have z4 : j.vote = 0 := by rw [hj]; rfl
 have z5 : j.log = Log.z := by rw [hj]; rfl
 have hjt : ((frT (⟨#[66]⟩ ++ varTs [j.log.start, j.log.startTerm])).1 ++ (frT (⟨#[72]⟩ ++ varTs [0, 0])).1) ++ ⟨#[]⟩ = jT := by rw [z1, z2]; exact jTI
 refine CW.h XK 35 [.o 1] rfl ?_;(conv=>whnf);intro b1;(conv=>whnf);refine ⟨rfl,?_⟩
 refine RW.freezeB (ts := (Journal.c j)) 1 rfl (DRd.r (DRd.r (DRd.r (DRd.r (DRd.r (DRd.r DRd.e)))))) ?_
 refine RW.g XK 35 [.o 2,.p,.e [1],.o 1] rfl rfl rfl ?_
 refine RW.call rfl (impl_JournalOk_fn j hj) rfl (.cons (.agg (.cons (.r .r) (.cons (.r .r) (.cons (.r .r) (.cons (.r .r) (.cons (.r .r) (.cons (.r .r) (.nil)))))))) (.nil)) fun g2 => ?_
 refine RW.g XK 35 [.o 1,.p,.e [1,9]] rfl rfl rfl ?_
 refine CW.cond rfl (fun h3 => ?_) (fun h3 => ?_)
 exact absurd h3 (by decide)
 refine CW.g XK 35 [.p,.e [1],.o 6] rfl rfl rfl ?_
 refine RW.build2c (c := cI) (v1 := j.log.start) (v2 := j.log.startTerm) (u1 := .v (.int .i64 j.log.start)) (u2 := .v (.int .i64 j.log.startTerm)) rfl rfl rfl rfl rfl rfl (.inl rfl) rfl rfl (.inl rfl) rfl rfl fun X4 => ?_
 refine RW.callOwn rfl (impl_varTexts_fn ([j.log.start, j.log.startTerm]) (Nat.le_of_ble_eq_true rfl)) rfl (.cons (.one (.r (.al (k := none) (i := 17) (sz := 1) (V := X4) rfl rfl nofun))) (.nil)) rfl fun g5 => ?_
 refine RW.v rfl (V.cat rfl rfl rfl q1) ?_
 refine RW.call rfl (impl_Frame_fn ((⟨#[66]⟩ : ByteArray) ++ (varTs ([j.log.start, j.log.startTerm])))) rfl (.cons (.one (.r .r)) (.nil)) fun g6 => ?_
 refine RW.g XK 35 [.o 5,.p,.e [1,4]] rfl rfl rfl ?_
 refine CW.anyJ2 (fc := []) (L0 := []) 35 (fun (zz : (Nat → Nat → Value) × (Nat → Nat → Value)) => match zz with | (go7_2_1, go7_6_1) => [(6, S ((((frT ((⟨#[66]⟩ : ByteArray) ++ (varTs ([j.log.start, j.log.startTerm])))).1) ++ ((frT (⟨#[72]⟩ ++ varTs [0, 0])).1)) ++ (⟨#[]⟩)))]) (fun all hall f hf b0 hb K hK => ?_) ?_
 have ro7_2 : ∀ B, ∀ (go7_2_1 : Nat → Nat → Value), ∀ (go7_6_1 : Nat → Nat → Value), RA f E B all 0 (bt 9 511) ⟨35, [(6, S ((((frT ((⟨#[66]⟩ : ByteArray) ++ (varTs ([j.log.start, j.log.startTerm])))).1) ++ ((frT (⟨#[72]⟩ ++ varTs [0, 0])).1)) ++ (⟨#[]⟩)))] ++ b0⟩ K := by
  intro B go7_2_1 go7_6_1
  exact RA.of2 hall hf hb (RA.finH (Tell.of rfl) (by kernel_rfl) (hK (go7_2_1, go7_6_1) _ rfl (Le.of rfl)))
 have ro7_1 : ∀ B, ∀ (go7_2_1 : Nat → Nat → Value), RA f E B all 3 (bt 9 63) ⟨35, [(26, S (((frT ((⟨#[66]⟩ : ByteArray) ++ (varTs ([j.log.start, j.log.startTerm])))).1) ++ ((frT (⟨#[72]⟩ ++ varTs [0, 0])).1))), (28, .agg ((Log.c j.log).map .r))] ++ b0⟩ K := by
  intro B go7_2_1
  refine RA.of2 hall hf hb (RA.stepH (L := [6]) (Tell.of rfl) (by kernel_rfl) (by simp) (RA.each ?_ (RA.each0)))
  refine RO.call rfl rfl (impl_entriesText_fn j.log 0 z5 rfl) rfl (.cons (.agg (.cons (.r .r) (.cons (.r .r) (.cons (.r .r) (.nil))))) (.cons (.one (.r .r)) (.nil))) rfl fun go7_6_1 => ?_
  refine RA.first (i := 7) (ls' := (bt 9 255)) (Tell.of rfl) (by kernel_rfl) rfl rfl rfl (VF.p (V.cat rfl rfl rfl q1)) ?_
  refine RA.fr XK 35 0 [8] (bt 9 511) rfl rfl (by kernel_rfl) (Tell.of rfl) ?_
  (conv=>whnf);refine ⟨rfl,fun B=>?_⟩
  exact RA.to2 hall hf hb (ro7_2 B go7_2_1 go7_6_1) rfl rfl (by kernel_rfl)
 have ro7_0 : ∀ B, RA f E B all 5 (bt 9 51) ⟨35, [(23, S ((frT ((⟨#[66]⟩ : ByteArray) ++ (varTs ([j.log.start, j.log.startTerm])))).1)), (24, .agg ((Journal.c j).map .r)), (28, .agg ((Log.c j.log).map .r))] ++ b0⟩ K := by
  intro B
  refine RA.of2 hall hf hb (RA.stepH (L := [2]) (Tell.of rfl) (by kernel_rfl) (by simp) (RA.each ?_ (RA.each0)))
  refine RO.call rfl rfl (impl_headText_fn j hj) rfl (.cons (.agg (.cons (.r .r) (.cons (.r .r) (.cons (.r .r) (.cons (.r .r) (.cons (.r .r) (.cons (.r .r) (.nil)))))))) (.nil)) rfl fun go7_2_1 => ?_
  refine RA.first (i := 3) (ls' := (bt 9 63)) (Tell.of rfl) (by kernel_rfl) rfl rfl rfl (VF.p (V.cat rfl rfl rfl q1)) ?_
  exact RA.to2 hall hf hb (ro7_1 B go7_2_1) rfl rfl (by kernel_rfl)
 refine RA.start (by kernel_rfl) (by kernel_rfl) (m := 9) (ls' := (bt 9 0)) ?_
 refine RA.fr XK 35 5 [0,1,4,5] (bt 9 51) rfl rfl (by kernel_rfl) (Tell.of rfl) ?_
 (conv=>whnf);refine ⟨rfl,fun B=>?_⟩
 exact RA.to2 hall hf hb (ro7_0 B) rfl rfl (by kernel_rfl)
 rintro ⟨go7_2_1, go7_6_1⟩
 refine CW.g XK 35 [.n 1,.e [6,33]] rfl rfl rfl ?_
 refine CW.cond rfl (fun h8 => ?_) (fun h8 => ?_)
 exact absurd (of_decide_eq_true h8) (by rw [hjt]; have h9 := jT_size; omega)
 refine CW.g XK 35 [.p,.e [6],.n 1,.e [2,3]] rfl rfl rfl ?_
 refine CW.ret ?_
 exact Post.tup (by decide) (RVs.c (RV.s rfl (by rw [hjt])) (RVs.c (RV.b rfl (by rfl)) RVs.e)) (AOs.a rfl AOs.e)
set_option maxHeartbeats 4000000 in
theorem impl_KeepNew_fn  : Eng.Fn E.P 25 [] (.one (.agg ((Keep.c keepNew).map .w))) [] := by
 refine Eng.Fn.intro (E := E) (rvs := [.cell 0 43]) Tryz.func25 rfl rfl rfl (by simp [outSlots, moved, rvSlot, sl]) ?_
 intro B g bo
 refine CW.h XK 4 [.e [],.n 1,.e [0],.o 1] rfl ?_;(conv=>whnf);intro b1;(conv=>whnf);refine ⟨rfl,?_⟩
 refine RW.build1 (c := Item.c) (v := (⟨(⟨#[114, 111, 111, 116]⟩ : ByteArray), ⟨#[]⟩, 1⟩ : Item)) rfl rfl rfl rfl rfl rfl (DW.v (DW.v (DW.v DW.e))) Item.len (by decide) (by decide) fun X2 => ?_
 refine RW.g XK 4 [.o 2,.e [0,2]] rfl rfl rfl ?_
 refine RW.pullT (k := 0) (l := 2) (j := 1) 0 2 1 rfl rfl rfl (by decide) rfl rfl rfl ?_
 refine RW.g XK 4 [.e [0],.p,.e [0]] rfl rfl rfl ?_
 refine CW.ret ?_
 exact Post.one (RV.c (f := fun e => (Keep.c e).map .w) (e' := (⟨[], [(⟨(⟨#[114, 111, 111, 116]⟩ : ByteArray), ⟨#[]⟩, 1⟩ : Item)]⟩ : Keep)) rfl rfl rfl rfl (DT.n (DT.w DT.e)) (by rfl)) AOs.e
set_option maxHeartbeats 4000000 in
theorem impl_keyOk_fn (s : ByteArray) : Eng.Fn E.P 159 [.one (.r (.v (.string s)))] (.one (.one (.w (.v (.bool (inR (s.size : Int) 1 8)))))) [.one (.r (.v (.string s)))] := by
 refine Eng.Fn.intro (E := E) (rvs := [.tmp 2]) Tryz.func159 rfl rfl rfl (by simp [outSlots, moved, rvSlot, sl]) ?_
 intro B g bo
 refine CW.g XK 6 [.e [0],.n 1,.e [0],.o 2] rfl rfl rfl ?_
 refine RW.call rfl (impl_within_fn (s.size : Int) 1 8) rfl (.cons (.one (.r .r)) (.cons (.one (.r .r)) (.cons (.one (.r .r)) (.nil)))) fun g1 => ?_
 refine RW.g XK 6 [.o 1,.p,.e [2]] rfl rfl rfl ?_
 refine CW.ret ?_
 exact Post.one (RV.b rfl (by rfl)) (AOs.r AOs.e)
set_option maxHeartbeats 4000000 in
theorem impl_valOk_fn (s : ByteArray) : Eng.Fn E.P 160 [.one (.r (.v (.string s)))] (.one (.one (.w (.v (.bool (decide ((s.size : Int) ≤ 20))))))) [.one (.r (.v (.string s)))] := by
 refine Eng.Fn.intro (E := E) (rvs := [.tmp 2]) Tryz.func160 rfl rfl rfl (by simp [outSlots, moved, rvSlot, sl]) ?_
 intro B g bo
 refine CW.g XK 6 [.e [0],.n 2,.e [2]] rfl rfl rfl ?_
 refine CW.ret ?_
 exact Post.one (RV.b rfl (by rfl)) (AOs.r AOs.e)
end Go.Proofs.YtaneihnomaagoaaGreatDoor.Y
