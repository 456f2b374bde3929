import Derived.Test.YtdipdkfbaehglaaGreatDoorPu
import Derived.Test.YtdipdkfbaehglaaGreatDoorEng42
import Derived.Test.YtdipdkfbaehglaaGreatDoorProg
namespace Go.Proofs.YtdipdkfbaehglaaGreatDoor.Y
open Go Go.RowKit Go.Eng Go.Proofs
set_option maxRecDepth 10000
theorem q1 {p : Prop} (h : p := by first | (rw [List.take_of_length_le hii, do_drop1 (k := k) (n := n) (x := x) (by assumption) (by assumption) (nF (by assumption))] <;> rfl) | (rw [do_get1 (k := k) (n := n) (x := x) (by assumption) (nF (by assumption))] <;> rfl) | (rw [do_get0 (k := k) (n := n) (x := x) (by assumption) (nT (by assumption))] <;> rfl) | (rw [do_drop1 (k := k) (n := n) (x := x) (by assumption) (by assumption) (nF (by assumption))] <;> rfl) | (rw [do_dropS (k := k) (n := n) (x := x) (by assumption) (by assumption) (nT (by assumption))] <;> rfl) | (rw [do_swap0 (k := k) (n := n) (x := x) (by assumption) (by assumption) (by assumption) (by assumption)] <;> rfl) | (rw [do_swapN (k := k) (n := n) (x := x) (by assumption) (by assumption) (by assumption) (by assumption) (by assumption)] <;> rfl) | (rw [do_fullS (k := k) (n := n) (x := x) hko (by assumption) (by assumption) (by first | exact .inl (by assumption) | exact .inr ⟨by assumption, by assumption⟩) hbg] <;> rfl) | (rw [do_putS (k := k) (n := n) (x := x) hko (by assumption) (by assumption) (by first | exact .inl (by assumption) | exact .inr ⟨by assumption, by assumption⟩) hbg] <;> rfl)) : p := h
theorem q2 {p : Prop} (h : p := by first | (rw [do_get1 (by assumption) (by assumption)] <;> rfl) | (rw [do_get0 (by assumption) (by assumption)] <;> rfl) | (rw [do_drop1 (by assumption) (by assumption) (by assumption)] <;> rfl) | (rw [do_drop0 (by assumption) (by assumption) (by assumption)] <;> rfl) | (rw [do_swap0 (by assumption) (by assumption) (by assumption) (by assumption)] <;> rfl) | (rw [do_swapN (by assumption) (by assumption) (by assumption) (by assumption) (by assumption)] <;> rfl) | (rw [do_full (by assumption) (by assumption) (by first | exact .inl (by assumption) | exact .inr ⟨by assumption, by assumption⟩) (hv16.symm.trans h17)] <;> rfl) | (rw [do_putI (by assumption) (by assumption) (by first | exact .inl (by assumption) | exact .inr ⟨by assumption, by assumption⟩) (hv16.symm.trans h17)] <;> rfl) | (rw [do_full (by assumption) (by assumption) (by first | exact .inl (by assumption) | exact .inr ⟨by assumption, by assumption⟩) (hv23.symm.trans h24)] <;> rfl) | (rw [do_putI (by assumption) (by assumption) (by first | exact .inl (by assumption) | exact .inr ⟨by assumption, by assumption⟩) (hv23.symm.trans h24)] <;> rfl)) : p := h
theorem q3 {p : Prop} (h : p := by have c1 := itoa_len (n := n) (by omega) (by omega); have c3 : (⟨#[32]⟩ : ByteArray).size = 1 := rfl; have c4 : (⟨#[105, 115, 32]⟩ : ByteArray).size = 3 := rfl; have c5 : (⟨#[110, 111, 116, 32]⟩ : ByteArray).size = 4 := rfl; have c6 : (⟨#[112, 117, 116, 32]⟩ : ByteArray).size = 4 := rfl; simp only [maxLen, ByteArray.size_append, c3, c4, c5, c6]; first | omega | (have h9 := item_in (key := x.key) hko (by first | assumption | simp_all); have h93 := h9.len; have h94 := h9.v; omega)) : p := h
theorem q4 {p : Prop} (h : p := by have z1 := cin.zt; have z2 := cin.zs; have z3 := cin.zv; have z4 := cin.zk; have z5 := cin.zl; have z6 : ∀ q : Int, (bytesOf [q]).size = 1 := fun q => rfl; simp only [ByteArray.size_append, maxLen, z6]; omega) : p := h
theorem q5 {p : Prop} (h : p := by have h9 := lowS_len (k.sessions.take i) n; have h10 : (k.sessions.take i).length ≤ k.sessions.length := (by rw [List.length_take]; omega); have h11 := hok.1.1; first | (simp only [maxLen, List.length_singleton, List.length_append, List.length_nil]; omega) | (have h7 := lowS_len k.sessions n; have h8 := highS_len (k.sessions.take j) n; have h6 : (k.sessions.take j).length ≤ k.sessions.length := (by rw [List.length_take]; omega); simp only [maxLen, List.length_singleton, List.length_append, List.length_nil, List.length_drop]; omega)) : p := h
theorem q6 {p : Prop} (h : p := by have h9 := lowL_len (k.items.take i) it; have h10 : (k.items.take i).length ≤ k.items.length := (by rw [List.length_take]; omega); have h11 := hok.2.1; first | (simp only [maxLen, List.length_singleton, List.length_append, List.length_nil]; omega) | (have h7 := lowL_len k.items it; have h8 := highL_len (k.items.take j) it; have h6 : (k.items.take j).length ≤ k.items.length := (by rw [List.length_take]; omega); simp only [maxLen, List.length_singleton, List.length_append, List.length_nil, List.length_drop]; omega)) : p := h
theorem q7 {p : Prop} (h : p := by first | (simp_all [eqS, eqI, eqStr, eqB]; done) | exact (eqS_ne (by simp_all; omega)).symm) : p := h
theorem q8 {p : Prop} (h : p := by first | (simp_all [szS, szL, szStr, szI]; done) | grind [szS, szL, szStr, szI]) : p := h
theorem q9 {p : Prop} (h : p := by have h9 := hP.len; have h8 := hP.le; simp only [maxLen, List.length_singleton] at *; omega) : p := h
theorem q10 {p : Prop} (h : p := by first | (simp_all [cmdOk, emp, inR]; done) | grind [cmdOk, emp, inR]) : p := h
theorem q11 {p : Prop} (h : p := by have := itoa_len (n := n) (by omega) (by omega); simp only [maxLen, ByteArray.size_append]; first | omega | (show 5 + _ ≤ _; omega)) : p := h
theorem q12 {p : Prop} (h : p := by rw [← hr, hdi, List.drop_eq_nil_of_le (show b.length ≤ i by omega)]; rfl) : p := h
theorem q13 {p : Prop} (h : p := by have h1 := hok.1.1; have h2 := hok.2.1; simp only [maxLen, List.length_nil]; omega) : p := h
theorem q14 {p : Prop} (h : p := by rw [List.take_of_length_le hii, show a.length - i = 0 from by omega]; simp) : p := h
theorem q15 {p : Prop} (h : p := by have h11 := hok.1.1; simp only [maxLen, List.length_singleton, List.length_append]; omega) : p := h
theorem q16 {p : Prop} (h : p := by have h11 := hok.2.1; simp only [maxLen, List.length_singleton, List.length_append]; omega) : p := h
theorem q17 {p : Prop} (h : p := by first | exact okI_of (by omega) (by omega) | (have h9 := item_in (key := x.key) hko (by first | assumption | simp_all); have h91 := h9.n1; have h92 := h9.n9; exact okI_of (by omega) (by omega))) : p := h
theorem q18 {p : Prop} (h : p := by first | (simp_all [szWorld]; done) | (simp_all [szWorld]; omega) | grind [szWorld]) : p := h
theorem q19 {p : Prop} (h : p := by first | exact ⟨by omega, by omega⟩ | (have h9 := item_in (key := x.key) hko (by first | assumption | simp_all); have h91 := h9.n1; have h92 := h9.n9; exact ⟨by omega, by omega⟩)) : p := h
theorem q20 {p : Prop} (h : p := by first | exact hP.s1 hei (hv6.symm.trans h7) h10 | exact hP.s2 hei (hv6.symm.trans h7) h10 | exact hP.s3 hei (hv6.symm.trans h7) h13 | exact hP.s4 hei (hv6.symm.trans h7) h13) : p := h
theorem q21 {p : Prop} (h : p := by first | exact open_cut (hP.fin0 h16 hii) h19 | exact open_no (hP.fin0 h16 hii) h19 | exact open_cut (hP.fin1 h16 hii) h23 | exact open_no (hP.fin1 h16 hii) h23) : p := h
theorem q22 {p : Prop} (h : p := by first | (simp_all [szServer]; done) | (simp_all [szServer]; omega) | grind [szServer]) : p := h
theorem q23 {p : Prop} (h : p := by first | (simp_all [szI]; done) | (simp_all [szI]; omega)) : p := h
theorem q24 {p : Prop} (h : p := by first | exact cin.t | exact cin.s | exact cin.v) : p := h
theorem q25 {p : Prop} (h : p := by rw [hv10] at h11; simp only [perfOk]; revert h11; cases keepOk k <;> cases inR n 1 400000 <;> cases cmdOk x <;> simp) : p := h
theorem q26 {p : Prop} (h : p := by first | (simp_all [szNode]; done) | (simp_all [szNode]; omega) | grind [szNode]) : p := h
theorem q27 {p : Prop} (h : p := by first | (simp_all [szMessage]; done) | (simp_all [szMessage]; omega) | grind [szMessage]) : p := h
theorem q28 {p : Prop} (h : p := by first | exact hP.yes hei (fo_y hvv hww).1 (fo_y hvv hww).2 | exact hP.no hei (fo_n hww) | exact hP.no hei (idx_no hix hii hvv)) : p := h
theorem q29 {p : Prop} (h : p := by first | (simp_all [pairs]; done) | grind [pairs]) : p := h
theorem q30 {p : Prop} (h : p := by rw [← hr, hdi, sessF]; first | (simp_all [sessOk, emp, prevO, prevGe]; done) | grind [sessOk, emp, prevO, prevGe]) : p := h
theorem q31 {p : Prop} (h : p := by simp only [maxLen]; have := good_len hP.2.1; first | omega | (simp; omega)) : p := h
theorem q32 {p : Prop} (h : p := by first | exact hP.yes hei hvv hd | exact hP.no hei (by rw [hd]; simp) | exact hP.no hei (by rw [hvv]; rfl)) : p := h
theorem q33 {p : Prop} (h : p := by have h9 := hP.len; simp only [maxLen, List.length_singleton]; omega) : p := h
theorem q34 {p : Prop} (h : p := by rw [perf_no (k := k) (n := n) (x := x) (by rw [hv11, pfS] at h12; simpa using h12)] <;> rfl) : p := h
theorem q35 {p : Prop} (h : p := by first | (simp_all [szCommand]; done) | (simp_all [szCommand]; omega) | grind [szCommand]) : p := h
theorem q36 {p : Prop} (h : p := by first | (simp_all [szReply]; done) | (simp_all [szReply]; omega) | grind [szReply]) : p := h
theorem q37 {p : Prop} (h : p := by first | (simp_all [szFile]; done) | (simp_all [szFile]; omega) | grind [szFile]) : p := h
theorem q38 {p : Prop} (h : p := by first | (simp_all [szItem]; done) | (simp_all [szItem]; omega) | grind [szItem]) : p := h
theorem q39 {p : Prop} (h : p := by first | (simp_all [szKeep]; done) | (simp_all [szKeep]; omega) | grind [szKeep]) : p := h
theorem q40 {p : Prop} (h : p := by rw [item_at hr hdi (by simp_all [isKey, sEq])]) : p := h
theorem q41 {p : Prop} (h : p := by show 32 * a.length ≤ 281474976710656; omega) : p := h
theorem q42 {p : Prop} (h : p := by rw [without_snoc hei]; simp_all [isKey, sEq]) : p := h
theorem q43 {p : Prop} (h : p := by rw [perf_same hpf h14 hat h20 (hv23.symm.trans h24) h25] <;> rfl) : p := h
theorem q44 {p : Prop} (h : p := by first | exact hP.skip hii | exact vs_perf hP hii (by omega) hgd) : p := h
theorem q45 {p : Prop} (h : p := by rw [perfS_same hpf h13 hat (hv23.symm.trans h24) h26] <;> rfl) : p := h
theorem q46 {p : Prop} (h : p := by rw [perf_old hpf h14 hat h20 (hv23.symm.trans h24)] <;> rfl) : p := h
theorem q47 {p : Prop} (h : p := by rw [perfS_old hpf h13 hat (hv23.symm.trans h24)] <;> rfl) : p := h
def tl : List (Nat × TyI) := [
(3, ⟨1, 8, [.int .i64 0], .prim⟩),
(4, ⟨1, 1, [.bool false], .prim⟩),
(5, ⟨1, 1, [.int .u8 0], .prim⟩),
(9, ⟨1, 16, [.string ⟨#[]⟩], .prim⟩),
(22, ⟨1, 24, [.slice none 0 0], .slice 4⟩),
(23, ⟨1, 24, [.slice none 0 0], .slice 127⟩),
(24, ⟨1, 24, [.slice none 0 0], .slice 130⟩),
(25, ⟨1, 24, [.slice none 0 0], .slice 167⟩),
(26, ⟨1, 24, [.slice none 0 0], .slice 133⟩),
(27, ⟨1, 24, [.slice none 0 0], .slice 137⟩),
(28, ⟨1, 24, [.slice none 0 0], .slice 141⟩),
(30, ⟨7, 168, [.slice none 0 0, .slice none 0 0, .slice none 0 0, .slice none 0 0, .slice none 0 0, .slice none 0 0, .slice none 0 0], .agg [(0, 22, 1), (1, 23, 1), (2, 24, 1), (3, 25, 1), (4, 26, 1), (5, 27, 1), (6, 28, 1)]⟩),
(33, ⟨1, 24, [.slice none 0 0], .slice 105⟩),
(34, ⟨1, 24, [.slice none 0 0], .slice 162⟩),
(35, ⟨1, 24, [.slice none 0 0], .slice 165⟩),
(36, ⟨1, 24, [.slice none 0 0], .slice 169⟩),
(37, ⟨1, 24, [.slice none 0 0], .slice 143⟩),
(38, ⟨1, 24, [.slice none 0 0], .slice 173⟩),
(40, ⟨7, 168, [.slice none 0 0, .slice none 0 0, .slice none 0 0, .slice none 0 0, .slice none 0 0, .slice none 0 0, .slice none 0 0], .agg [(0, 22, 1), (1, 33, 1), (2, 34, 1), (3, 35, 1), (4, 36, 1), (5, 37, 1), (6, 38, 1)]⟩),
(53, ⟨1, 24, [.slice none 0 0], .slice 67⟩),
(56, ⟨1, 24, [.slice none 0 0], .slice 156⟩),
(57, ⟨1, 24, [.slice none 0 0], .slice 71⟩),
(59, ⟨2, 48, [.slice none 0 0, .slice none 0 0], .agg [(0, 56, 1), (1, 57, 1)]⟩),
(61, ⟨1, 24, [.slice none 0 0], .slice 3⟩),
(63, ⟨6, 64, [.int .i64 0, .int .i64 0, .int .i64 0, .string ⟨#[]⟩, .string ⟨#[]⟩, .int .i64 0], .agg [(0, 3, 1), (1, 3, 1), (2, 3, 1), (3, 9, 1), (4, 9, 1), (5, 3, 1)]⟩),
(67, ⟨3, 32, [.int .i64 0, .int .i64 0, .string ⟨#[]⟩], .agg [(0, 3, 1), (1, 3, 1), (2, 9, 1)]⟩),
(71, ⟨3, 40, [.string ⟨#[]⟩, .string ⟨#[]⟩, .int .i64 0], .agg [(0, 9, 1), (1, 9, 1), (2, 3, 1)]⟩),
(82, ⟨1, 24, [.slice none 0 0], .slice 9⟩),
(95, ⟨3, 40, [.int .i64 0, .int .i64 0, .slice none 0 0], .agg [(0, 3, 1), (1, 3, 1), (2, 53, 1)]⟩),
(96, ⟨1, 24, [.slice none 0 0], .slice 248⟩),
(98, ⟨14, 176, [.int .i64 0, .int .i64 0, .int .i64 0, .int .i64 0, .int .i64 0, .slice none 0 0, .int .i64 0, .int .i64 0, .slice none 0 0, .int .i64 0, .int .i64 0, .int .i64 0, .slice none 0 0, .slice none 0 0], .agg [(0, 3, 1), (1, 3, 1), (2, 3, 1), (3, 3, 1), (4, 3, 1), (5, 61, 1), (6, 95, 3), (9, 3, 1), (10, 3, 1), (11, 3, 1), (12, 61, 1), (13, 96, 1)]⟩),
(99, ⟨1, 24, [.slice none 0 0], .slice 251⟩),
(101, ⟨1, 24, [.slice none 0 0], .agg [(0, 99, 1)]⟩),
(103, ⟨6, 64, [.int .i64 0, .int .i64 0, .int .i64 0, .int .i64 0, .int .i64 0, .slice none 0 0], .agg [(0, 3, 1), (1, 3, 1), (2, 3, 1), (3, 95, 3)]⟩),
(105, ⟨27, 352, [.int .i64 0, .int .i64 0, .int .i64 0, .int .i64 0, .int .i64 0, .slice none 0 0, .int .i64 0, .int .i64 0, .slice none 0 0, .int .i64 0, .int .i64 0, .int .i64 0, .slice none 0 0, .slice none 0 0, .slice none 0 0, .int .i64 0, .int .i64 0, .int .i64 0, .int .i64 0, .int .i64 0, .slice none 0 0, .slice none 0 0, .slice none 0 0, .int .i64 0, .string ⟨#[]⟩, .int .i64 0, .int .i64 0], .agg [(0, 98, 14), (14, 101, 1), (15, 103, 6), (21, 59, 2), (23, 3, 1), (24, 9, 1), (25, 3, 1), (26, 3, 1)]⟩),
(111, ⟨1, 24, [.slice none 0 0], .slice 135⟩),
(113, ⟨3, 40, [.int .i64 0, .int .i64 0, .slice none 0 0], .agg [(0, 3, 1), (1, 3, 1), (2, 111, 1)]⟩),
(114, ⟨1, 24, [.slice none 0 0], .slice 250⟩),
(116, ⟨14, 176, [.int .i64 0, .int .i64 0, .int .i64 0, .int .i64 0, .int .i64 0, .slice none 0 0, .int .i64 0, .int .i64 0, .slice none 0 0, .int .i64 0, .int .i64 0, .int .i64 0, .slice none 0 0, .slice none 0 0], .agg [(0, 3, 1), (1, 3, 1), (2, 3, 1), (3, 3, 1), (4, 3, 1), (5, 61, 1), (6, 113, 3), (9, 3, 1), (10, 3, 1), (11, 3, 1), (12, 61, 1), (13, 114, 1)]⟩),
(117, ⟨1, 24, [.slice none 0 0], .slice 242⟩),
(119, ⟨1, 24, [.slice none 0 0], .agg [(0, 117, 1)]⟩),
(121, ⟨6, 64, [.int .i64 0, .int .i64 0, .int .i64 0, .int .i64 0, .int .i64 0, .slice none 0 0], .agg [(0, 3, 1), (1, 3, 1), (2, 3, 1), (3, 113, 3)]⟩),
(122, ⟨1, 24, [.slice none 0 0], .slice 244⟩),
(123, ⟨1, 24, [.slice none 0 0], .slice 246⟩),
(125, ⟨2, 48, [.slice none 0 0, .slice none 0 0], .agg [(0, 122, 1), (1, 123, 1)]⟩),
(127, ⟨27, 352, [.int .i64 0, .int .i64 0, .int .i64 0, .int .i64 0, .int .i64 0, .slice none 0 0, .int .i64 0, .int .i64 0, .slice none 0 0, .int .i64 0, .int .i64 0, .int .i64 0, .slice none 0 0, .slice none 0 0, .slice none 0 0, .int .i64 0, .int .i64 0, .int .i64 0, .int .i64 0, .int .i64 0, .slice none 0 0, .slice none 0 0, .slice none 0 0, .int .i64 0, .string ⟨#[]⟩, .int .i64 0, .int .i64 0], .agg [(0, 116, 14), (14, 119, 1), (15, 121, 6), (21, 125, 2), (23, 3, 1), (24, 9, 1), (25, 3, 1), (26, 3, 1)]⟩),
(130, ⟨12, 136, [.int .i64 0, .int .i64 0, .int .i64 0, .int .i64 0, .int .i64 0, .int .i64 0, .int .i64 0, .bool false, .slice none 0 0, .slice none 0 0, .string ⟨#[]⟩, .bool false], .agg [(0, 3, 1), (1, 3, 1), (2, 3, 1), (3, 3, 1), (4, 3, 1), (5, 3, 1), (6, 3, 1), (7, 4, 1), (8, 111, 1), (9, 61, 1), (10, 9, 1), (11, 4, 1)]⟩),
(133, ⟨5, 56, [.int .i64 0, .int .i64 0, .int .i64 0, .int .i64 0, .slice none 0 0], .agg [(0, 3, 1), (1, 3, 1), (2, 113, 3)]⟩),
(135, ⟨3, 32, [.int .i64 0, .int .i64 0, .string ⟨#[]⟩], .agg [(0, 3, 1), (1, 3, 1), (2, 9, 1)]⟩),
(137, ⟨6, 56, [.int .i64 0, .int .i64 0, .int .i64 0, .int .i64 0, .int .i64 0, .string ⟨#[]⟩], .agg [(0, 3, 1), (1, 3, 1), (2, 3, 1), (3, 135, 3)]⟩),
(139, ⟨6, 64, [.int .i64 0, .int .i64 0, .int .i64 0, .string ⟨#[]⟩, .string ⟨#[]⟩, .int .i64 0], .agg [(0, 3, 1), (1, 3, 1), (2, 3, 1), (3, 9, 1), (4, 9, 1), (5, 3, 1)]⟩),
(141, ⟨10, 104, [.int .i64 0, .int .i64 0, .int .i64 0, .int .i64 0, .int .i64 0, .int .i64 0, .string ⟨#[]⟩, .string ⟨#[]⟩, .int .i64 0, .string ⟨#[]⟩], .agg [(0, 3, 1), (1, 3, 1), (2, 3, 1), (3, 139, 6), (9, 9, 1)]⟩),
(143, ⟨6, 56, [.int .i64 0, .int .i64 0, .int .i64 0, .int .i64 0, .int .i64 0, .string ⟨#[]⟩], .agg [(0, 3, 1), (1, 3, 1), (2, 3, 1), (3, 67, 3)]⟩),
(146, ⟨3, 32, [.string ⟨#[]⟩, .int .i64 0, .bool false], .agg [(0, 9, 1), (1, 3, 1), (2, 4, 1)]⟩),
(156, ⟨3, 32, [.int .i64 0, .int .i64 0, .string ⟨#[]⟩], .agg [(0, 3, 1), (1, 3, 1), (2, 9, 1)]⟩),
(162, ⟨12, 136, [.int .i64 0, .int .i64 0, .int .i64 0, .int .i64 0, .int .i64 0, .int .i64 0, .int .i64 0, .bool false, .slice none 0 0, .slice none 0 0, .string ⟨#[]⟩, .bool false], .agg [(0, 3, 1), (1, 3, 1), (2, 3, 1), (3, 3, 1), (4, 3, 1), (5, 3, 1), (6, 3, 1), (7, 4, 1), (8, 53, 1), (9, 61, 1), (10, 9, 1), (11, 4, 1)]⟩),
(165, ⟨4, 32, [.int .i64 0, .int .i64 0, .int .i64 0, .int .i64 0], .agg [(0, 3, 1), (1, 3, 1), (2, 3, 1), (3, 3, 1)]⟩),
(167, ⟨4, 32, [.int .i64 0, .int .i64 0, .int .i64 0, .int .i64 0], .agg [(0, 3, 1), (1, 3, 1), (2, 3, 1), (3, 3, 1)]⟩),
(169, ⟨5, 56, [.int .i64 0, .int .i64 0, .int .i64 0, .int .i64 0, .slice none 0 0], .agg [(0, 3, 1), (1, 3, 1), (2, 95, 3)]⟩),
(173, ⟨10, 104, [.int .i64 0, .int .i64 0, .int .i64 0, .int .i64 0, .int .i64 0, .int .i64 0, .string ⟨#[]⟩, .string ⟨#[]⟩, .int .i64 0, .string ⟨#[]⟩], .agg [(0, 3, 1), (1, 3, 1), (2, 3, 1), (3, 63, 6), (9, 9, 1)]⟩),
(197, ⟨1, 24, [.slice none 0 0], .slice 5⟩),
(213, ⟨3, 32, [.string ⟨#[]⟩, .int .i64 0, .bool false], .agg [(0, 9, 1), (1, 3, 1), (2, 4, 1)]⟩),
(242, ⟨3, 40, [.string ⟨#[]⟩, .string ⟨#[]⟩, .int .i64 0], .agg [(0, 9, 1), (1, 9, 1), (2, 3, 1)]⟩),
(244, ⟨3, 32, [.int .i64 0, .int .i64 0, .string ⟨#[]⟩], .agg [(0, 3, 1), (1, 3, 1), (2, 9, 1)]⟩),
(246, ⟨3, 40, [.string ⟨#[]⟩, .string ⟨#[]⟩, .int .i64 0], .agg [(0, 9, 1), (1, 9, 1), (2, 3, 1)]⟩),
(248, ⟨4, 32, [.int .i64 0, .int .i64 0, .int .i64 0, .int .i64 0], .agg [(0, 3, 1), (1, 3, 1), (2, 3, 1), (3, 3, 1)]⟩),
(250, ⟨4, 32, [.int .i64 0, .int .i64 0, .int .i64 0, .int .i64 0], .agg [(0, 3, 1), (1, 3, 1), (2, 3, 1), (3, 3, 1)]⟩),
(251, ⟨3, 40, [.string ⟨#[]⟩, .string ⟨#[]⟩, .int .i64 0], .agg [(0, 9, 1), (1, 9, 1), (2, 3, 1)]⟩)]
theorem tl_ok : ∀ p ∈ tl, tyI Tryz.prog p.1 = some p.2 := by
 refine List.forall_mem_cons.2 ⟨by kernel_rfl, ?_⟩
 refine List.forall_mem_cons.2 ⟨by kernel_rfl, ?_⟩
 refine List.forall_mem_cons.2 ⟨by kernel_rfl, ?_⟩
 refine List.forall_mem_cons.2 ⟨by kernel_rfl, ?_⟩
 refine List.forall_mem_cons.2 ⟨by kernel_rfl, ?_⟩
 refine List.forall_mem_cons.2 ⟨by kernel_rfl, ?_⟩
 refine List.forall_mem_cons.2 ⟨by kernel_rfl, ?_⟩
 refine List.forall_mem_cons.2 ⟨by kernel_rfl, ?_⟩
 refine List.forall_mem_cons.2 ⟨by kernel_rfl, ?_⟩
 refine List.forall_mem_cons.2 ⟨by kernel_rfl, ?_⟩
 refine List.forall_mem_cons.2 ⟨by kernel_rfl, ?_⟩
 refine List.forall_mem_cons.2 ⟨by kernel_rfl, ?_⟩
 refine List.forall_mem_cons.2 ⟨by kernel_rfl, ?_⟩
 refine List.forall_mem_cons.2 ⟨by kernel_rfl, ?_⟩
 refine List.forall_mem_cons.2 ⟨by kernel_rfl, ?_⟩
 refine List.forall_mem_cons.2 ⟨by kernel_rfl, ?_⟩
 refine List.forall_mem_cons.2 ⟨by kernel_rfl, ?_⟩
 refine List.forall_mem_cons.2 ⟨by kernel_rfl, ?_⟩
 refine List.forall_mem_cons.2 ⟨by kernel_rfl, ?_⟩
 refine List.forall_mem_cons.2 ⟨by kernel_rfl, ?_⟩
 refine List.forall_mem_cons.2 ⟨by kernel_rfl, ?_⟩
 refine List.forall_mem_cons.2 ⟨by kernel_rfl, ?_⟩
 refine List.forall_mem_cons.2 ⟨by kernel_rfl, ?_⟩
 refine List.forall_mem_cons.2 ⟨by kernel_rfl, ?_⟩
 refine List.forall_mem_cons.2 ⟨by kernel_rfl, ?_⟩
 refine List.forall_mem_cons.2 ⟨by kernel_rfl, ?_⟩
 refine List.forall_mem_cons.2 ⟨by kernel_rfl, ?_⟩
 refine List.forall_mem_cons.2 ⟨by kernel_rfl, ?_⟩
 refine List.forall_mem_cons.2 ⟨by kernel_rfl, ?_⟩
 refine List.forall_mem_cons.2 ⟨by kernel_rfl, ?_⟩
 refine List.forall_mem_cons.2 ⟨by kernel_rfl, ?_⟩
 refine List.forall_mem_cons.2 ⟨by kernel_rfl, ?_⟩
 refine List.forall_mem_cons.2 ⟨by kernel_rfl, ?_⟩
 refine List.forall_mem_cons.2 ⟨by kernel_rfl, ?_⟩
 refine List.forall_mem_cons.2 ⟨by kernel_rfl, ?_⟩
 refine List.forall_mem_cons.2 ⟨by kernel_rfl, ?_⟩
 refine List.forall_mem_cons.2 ⟨by kernel_rfl, ?_⟩
 refine List.forall_mem_cons.2 ⟨by kernel_rfl, ?_⟩
 refine List.forall_mem_cons.2 ⟨by kernel_rfl, ?_⟩
 refine List.forall_mem_cons.2 ⟨by kernel_rfl, ?_⟩
 refine List.forall_mem_cons.2 ⟨by kernel_rfl, ?_⟩
 refine List.forall_mem_cons.2 ⟨by kernel_rfl, ?_⟩
 refine List.forall_mem_cons.2 ⟨by kernel_rfl, ?_⟩
 refine List.forall_mem_cons.2 ⟨by kernel_rfl, ?_⟩
 refine List.forall_mem_cons.2 ⟨by kernel_rfl, ?_⟩
 refine List.forall_mem_cons.2 ⟨by kernel_rfl, ?_⟩
 refine List.forall_mem_cons.2 ⟨by kernel_rfl, ?_⟩
 refine List.forall_mem_cons.2 ⟨by kernel_rfl, ?_⟩
 refine List.forall_mem_cons.2 ⟨by kernel_rfl, ?_⟩
 refine List.forall_mem_cons.2 ⟨by kernel_rfl, ?_⟩
 refine List.forall_mem_cons.2 ⟨by kernel_rfl, ?_⟩
 refine List.forall_mem_cons.2 ⟨by kernel_rfl, ?_⟩
 refine List.forall_mem_cons.2 ⟨by kernel_rfl, ?_⟩
 refine List.forall_mem_cons.2 ⟨by kernel_rfl, ?_⟩
 refine List.forall_mem_cons.2 ⟨by kernel_rfl, ?_⟩
 refine List.forall_mem_cons.2 ⟨by kernel_rfl, ?_⟩
 refine List.forall_mem_cons.2 ⟨by kernel_rfl, ?_⟩
 refine List.forall_mem_cons.2 ⟨by kernel_rfl, ?_⟩
 refine List.forall_mem_cons.2 ⟨by kernel_rfl, ?_⟩
 refine List.forall_mem_cons.2 ⟨by kernel_rfl, ?_⟩
 refine List.forall_mem_cons.2 ⟨by kernel_rfl, ?_⟩
 refine List.forall_mem_cons.2 ⟨by kernel_rfl, ?_⟩
 refine List.forall_mem_cons.2 ⟨by kernel_rfl, ?_⟩
 refine List.forall_mem_cons.2 ⟨by kernel_rfl, ?_⟩
 refine List.forall_mem_cons.2 ⟨by kernel_rfl, ?_⟩
 refine List.forall_mem_cons.2 ⟨by kernel_rfl, ?_⟩
 refine List.forall_mem_cons.2 ⟨by kernel_rfl, ?_⟩
 refine List.forall_mem_cons.2 ⟨by kernel_rfl, ?_⟩
 exact fun _ h => by cases h
noncomputable def E : Env := ⟨Tryz.prog, lk tl, fun t i h => tl_ok (t, i) (lk_mem _ _ _ h), by kernel_rfl⟩
def kl : List (Nat × TypeDesc) := [(3, .int .i64), (4, .bool), (5, .int .u8), (9, .string)]
theorem kl_ok : ∀ p ∈ kl, Tryz.prog.underlying p.1 = some p.2 := by
 refine List.forall_mem_cons.2 ⟨by kernel_rfl, ?_⟩
 refine List.forall_mem_cons.2 ⟨by kernel_rfl, ?_⟩
 refine List.forall_mem_cons.2 ⟨by kernel_rfl, ?_⟩
 refine List.forall_mem_cons.2 ⟨by kernel_rfl, ?_⟩
 exact fun _ h => by cases h
noncomputable def XK : Kd E.P := ⟨lk kl, fun t d h => kl_ok (t, d) (lk_mem _ _ _ h)⟩
theorem eq63_in (x y : Command) (n : Nat) (w : Go.World) : (Op.equalIn (n + 2) 63 (.agg x.vs.toArray) (.agg y.vs.toArray)).run Tryz.prog w = .ok (eqCommand x y) w := by
 refine eqA_of Tryz.underlying63 (by kernel_rfl) ?_
 refine eqF_cons (by rfl) (by go_simp; rfl) (by go_simp; rfl) (by go_simp) ?_
 refine eqF_cons (by rfl) (by go_simp; rfl) (by go_simp; rfl) (by go_simp) ?_
 refine eqF_cons (by rfl) (by go_simp; rfl) (by go_simp; rfl) (by go_simp) ?_
 refine eqF_cons (by rfl) (by go_simp; rfl) (by go_simp; rfl) (by go_simp) ?_
 refine eqF_cons (by rfl) (by go_simp; rfl) (by go_simp; rfl) (by go_simp) ?_
 exact eqF_last (by rfl) (by go_simp; rfl) (by go_simp; rfl) (by go_simp)
theorem eq63 (x y : Command) (w : Go.World) : (Op.equal 63 (.agg x.vs.toArray) (.agg y.vs.toArray)).run E.P w = .ok (eqCommand x y) w := eq63_in x y 9998 w
theorem eq67_in (x y : Entry) (n : Nat) (w : Go.World) : (Op.equalIn (n + 2) 67 (.agg x.vs.toArray) (.agg y.vs.toArray)).run Tryz.prog w = .ok (eqEntry x y) w := by
 refine eqA_of Tryz.underlying67 (by kernel_rfl) ?_
 refine eqF_cons (by rfl) (by go_simp; rfl) (by go_simp; rfl) (by go_simp) ?_
 refine eqF_cons (by rfl) (by go_simp; rfl) (by go_simp; rfl) (by go_simp) ?_
 exact eqF_last (by rfl) (by go_simp; rfl) (by go_simp; rfl) (by go_simp)
theorem eq67 (x y : Entry) (w : Go.World) : (Op.equal 67 (.agg x.vs.toArray) (.agg y.vs.toArray)).run E.P w = .ok (eqEntry x y) w := eq67_in x y 9998 w
theorem eq71_in (x y : Item) (n : Nat) (w : Go.World) : (Op.equalIn (n + 2) 71 (.agg x.vs.toArray) (.agg y.vs.toArray)).run Tryz.prog w = .ok (eqItem x y) w := by
 refine eqA_of Tryz.underlying71 (by kernel_rfl) ?_
 refine eqF_cons (by rfl) (by go_simp; rfl) (by go_simp; rfl) (by go_simp) ?_
 refine eqF_cons (by rfl) (by go_simp; rfl) (by go_simp; rfl) (by go_simp) ?_
 exact eqF_last (by rfl) (by go_simp; rfl) (by go_simp; rfl) (by go_simp)
theorem eq71 (x y : Item) (w : Go.World) : (Op.equal 71 (.agg x.vs.toArray) (.agg y.vs.toArray)).run E.P w = .ok (eqItem x y) w := eq71_in x y 9998 w
theorem eq156_in (x y : Session) (n : Nat) (w : Go.World) : (Op.equalIn (n + 2) 156 (.agg x.vs.toArray) (.agg y.vs.toArray)).run Tryz.prog w = .ok (eqSession x y) w := by
 refine eqA_of Tryz.underlying156 (by kernel_rfl) ?_
 refine eqF_cons (by rfl) (by go_simp; rfl) (by go_simp; rfl) (by go_simp) ?_
 refine eqF_cons (by rfl) (by go_simp; rfl) (by go_simp; rfl) (by go_simp) ?_
 exact eqF_last (by rfl) (by go_simp; rfl) (by go_simp; rfl) (by go_simp)
theorem eq156 (x y : Session) (w : Go.World) : (Op.equal 156 (.agg x.vs.toArray) (.agg y.vs.toArray)).run E.P w = .ok (eqSession x y) w := eq156_in x y 9998 w
set_option maxHeartbeats 4000000 in
theorem laws_szBoolS_fn (a : List Bool) (left : Int) : Eng.Fn E.P 15 [.one (.r (sl 1 cB a)), .one (.r (.v (.int .i64 left)))] (.one (.one (.w (.v (.int .i64 (szI a left)))))) [.one (.r (sl 1 cB a)), .one (.r (.v (.int .i64 left)))] := by
 refine Eng.Fn.intro (E := E) (rvs := [.tmp 4]) Tryz.func15 rfl rfl rfl (by simp [outSlots, moved, rvSlot, sl]) ?_
 intro B g bo
 refine CW.bound (x := .tmp 0) (n := a.length) (AsT.r) (fun hl0 => ?_)
 refine CW.g XK 12 [.e [0,1],.n 2,.e [1],.n 1,.e [1,10]] rfl rfl rfl ?_
 refine CW.cond rfl (fun h1 => ?_) (fun h1 => ?_)
 refine CW.g XK 12 [.n 1,.e [4]] rfl rfl rfl ?_
 refine CW.ret ?_
 exact Post.one (RV.i rfl q23) (AOs.r (AOs.r AOs.e))
 refine CW.g XK 12 [.p,.e [1],.n 1,.e [4]] rfl rfl rfl ?_
 refine CW.ret ?_
 exact Post.one (RV.i rfl q23) (AOs.r (AOs.r AOs.e))
set_option maxHeartbeats 4000000 in
theorem laws_szIntS_fn (a : List Int) (left : Int) : Eng.Fn E.P 97 [.one (.r (sl 1 cI a)), .one (.r (.v (.int .i64 left)))] (.one (.one (.w (.v (.int .i64 (szI a left)))))) [.one (.r (sl 1 cI a)), .one (.r (.v (.int .i64 left)))] := by
 refine Eng.Fn.intro (E := E) (rvs := [.tmp 4]) Tryz.func97 rfl rfl rfl (by simp [outSlots, moved, rvSlot, sl]) ?_
 intro B g bo
 refine CW.bound (x := .tmp 0) (n := a.length) (AsT.r) (fun hl0 => ?_)
 refine CW.g XK 12 [.e [0,1],.n 2,.e [1],.n 1,.e [1,10]] rfl rfl rfl ?_
 refine CW.cond rfl (fun h1 => ?_) (fun h1 => ?_)
 refine CW.g XK 12 [.n 1,.e [4]] rfl rfl rfl ?_
 refine CW.ret ?_
 exact Post.one (RV.i rfl q23) (AOs.r (AOs.r AOs.e))
 refine CW.g XK 12 [.p,.e [1],.n 1,.e [4]] rfl rfl rfl ?_
 refine CW.ret ?_
 exact Post.one (RV.i rfl q23) (AOs.r (AOs.r AOs.e))
set_option maxHeartbeats 4000000 in
theorem laws_szEntry_fn (a : Entry) (left : Int) : Eng.Fn E.P 99 [.agg ((Entry.c a).map .r), .one (.r (.v (.int .i64 left)))] (.one (.one (.w (.v (.int .i64 (szEntry a left)))))) [.agg ((Entry.c a).map .r), .one (.r (.v (.int .i64 left)))] := by
 refine Eng.Fn.intro (E := E) (rvs := [.tmp 4]) Tryz.func99 rfl rfl rfl (by simp [outSlots, moved, rvSlot, sl]) ?_
 intro B g bo
 refine CW.h XK 13 [.e [0,1],.o 1] rfl ?_;(conv=>whnf);intro b1;(conv=>whnf);refine ⟨rfl,?_⟩
 refine RW.freezeB (ts := (Entry.c a)) 2 rfl (DRd.r (DRd.r (DRd.r DRd.e))) ?_
 refine RW.g XK 13 [.o 1,.p,.e [1,2],.n 1,.e [1],.n 1,.e [1,11]] rfl rfl rfl ?_
 refine CW.cond rfl (fun h2 => ?_) (fun h2 => ?_)
 refine CW.g XK 13 [.n 1,.e [4]] rfl rfl rfl ?_
 refine CW.ret ?_
 exact Post.one (RV.i rfl (by first | (simp_all [szEntry]; done) | (simp_all [szEntry]; omega) | grind [szEntry])) (AOs.a rfl (AOs.r AOs.e))
 refine CW.g XK 13 [.p,.e [1],.n 1,.e [4]] rfl rfl rfl ?_
 refine CW.ret ?_
 exact Post.one (RV.i rfl (by first | (simp_all [szEntry]; done) | (simp_all [szEntry]; omega) | grind [szEntry])) (AOs.a rfl (AOs.r AOs.e))
set_option maxHeartbeats 4000000 in
theorem laws_szEntryS_fn (a : List Entry) (left : Int) : Eng.Fn E.P 96 [.one (.r (sl 3 Entry.c a)), .one (.r (.v (.int .i64 left)))] (.one (.one (.w (.v (.int .i64 (szS szEntry a left)))))) [.one (.r (sl 3 Entry.c a)), .one (.r (.v (.int .i64 left)))] := by
 refine Eng.Fn.intro (E := E) (rvs := [.tmp 4]) Tryz.func96 rfl rfl rfl (by simp [outSlots, moved, rvSlot, sl]) ?_
 intro B g bo
 refine CW.bound (x := .tmp 0) (n := a.length) (AsT.r) (fun hl0 => ?_)
 refine CW.g XK 27 [.e [0,1],.n 2,.e [0,1],.n 1,.e [0,1,11]] rfl rfl rfl ?_
 refine CW.cond rfl (fun h1 => ?_) (fun h1 => ?_)
 refine CW.g XK 27 [.n 1,.e [4]] rfl rfl rfl ?_
 refine CW.ret ?_
 exact Post.one (RV.i rfl q8) (AOs.r (AOs.r AOs.e))
 refine CW.g XK 27 [.p,.e [0,1],.n 1,.e [0,1,5],.p] rfl rfl rfl ?_
 refine CW.loopI 27 (fun (zz : Nat × Int) => match zz with | (i, l) => [(0, .r (sl 3 Entry.c a)), (1, I l), (5, I (i : Int))]) (fun (zz : Nat × Int) => match zz with | (i, l) => i ≤ a.length ∧ szL szEntry (a.drop i) l = szS szEntry a left) (fun (zz : Nat × Int) => match zz with | (i, l) => a.length - i) (0, _) rfl (Le.c rfl <| Le.c rfl <| Le.c rfl <| Le.e) ⟨by omega, by first | (simp_all [szS]; done) | grind [szS]⟩ ?_
 rintro ⟨i, l⟩ ⟨hb, hr⟩
 refine CW.g XK 27 [.n 1,.e [0,1,5,15]] rfl rfl rfl ?_
 refine CW.cond rfl (fun h2 => ?_) (fun h2 => ?_)
 have hii : i < a.length := by have := h2; simp at this; first | exact this | omega | (simp; done) | (simp; omega)
 obtain ⟨ei, hei⟩ : ∃ e, a[i]? = some e := ⟨_, List.getElem?_eq_getElem hii⟩
 have hdi := drop_get hei
 refine CW.g XK 27 [.p,.e [0,1,5],.o 2] rfl rfl rfl ?_
 refine RW.v rfl (V.indexS rfl rfl rfl rfl rfl rfl Entry.len hei) ?_
 refine RW.g XK 27 [.o 2] rfl rfl rfl ?_
 refine RW.call rfl (laws_szEntry_fn ei l) rfl (.cons (.agg (.cons (.r .r) (.cons (.r .r) (.cons (.r .r) (.nil))))) (.cons (.one (.r .r)) (.nil))) fun g3 => ?_
 refine RW.g XK 27 [.o 1,.p,.e [0,1,5],.n 1,.e [0,1,5,25]] rfl rfl rfl ?_
 refine CW.cond rfl (fun h4 => ?_) (fun h4 => ?_)
 refine CW.g XK 27 [.n 1,.e [4]] rfl rfl rfl ?_
 refine CW.ret ?_
 exact Post.one (RV.i rfl q8) (AOs.r (AOs.r AOs.e))
 refine CW.g XK 27 [.p,.e [0,1,5],.o 1] rfl rfl rfl ?_
 refine RW.v rfl (V.inc rfl rfl rfl hii hl0) ?_
 refine RW.g XK 27 [.o 1,.p] rfl rfl rfl ?_
 exact ⟨(i + 1, _), by simp only []; omega, ⟨by omega, by first | (simp_all [szL, szStr, szI]; done) | grind [szL, szStr, szI]⟩, rfl, Le.c rfl <| Le.c rfl <| Le.c rfl <| Le.e⟩
 have hii : a.length ≤ i := by have := h2; simp at this; first | exact this | omega | (simp; done) | (simp; omega)
 have hdi : a.drop i = [] := List.drop_eq_nil_of_le hii
 refine CW.exit ?_
 refine CW.g XK 27 [.e [1],.n 1,.e [4]] rfl rfl rfl ?_
 refine CW.ret ?_
 exact Post.one (RV.i rfl q8) (AOs.r (AOs.r AOs.e))
set_option maxHeartbeats 4000000 in
theorem laws_szLog_fn (a : Log) (left : Int) : Eng.Fn E.P 98 [.agg ((Log.c a).map .r), .one (.r (.v (.int .i64 left)))] (.one (.one (.w (.v (.int .i64 (szLog a left)))))) [.agg ((Log.c a).map .r), .one (.r (.v (.int .i64 left)))] := by
 refine Eng.Fn.intro (E := E) (rvs := [.tmp 4]) Tryz.func98 rfl rfl rfl (by simp [outSlots, moved, rvSlot, sl]) ?_
 intro B g bo
 refine CW.h XK 12 [.e [0,1],.o 1] rfl ?_;(conv=>whnf);intro b1;(conv=>whnf);refine ⟨rfl,?_⟩
 refine RW.freezeB (ts := (Log.c a)) 2 rfl (DRd.r (DRd.r (DRd.r DRd.e))) ?_
 refine RW.g XK 12 [.o 1,.p,.e [1,2],.o 3] rfl rfl rfl ?_
 refine RW.call rfl (laws_szEntryS_fn a.entries left) rfl (.cons (.one (.r .r)) (.cons (.one (.r .r)) (.nil))) fun g2 => ?_
 refine RW.g XK 12 [.o 1,.p,.e [1],.n 1,.e [1,10]] rfl rfl rfl ?_
 refine CW.cond rfl (fun h3 => ?_) (fun h3 => ?_)
 refine CW.g XK 12 [.n 1,.e [4]] rfl rfl rfl ?_
 refine CW.ret ?_
 exact Post.one (RV.i rfl (by first | (simp_all [szLog]; done) | (simp_all [szLog]; omega) | grind [szLog])) (AOs.a rfl (AOs.r AOs.e))
 refine CW.g XK 12 [.p,.e [1],.n 1,.e [4]] rfl rfl rfl ?_
 refine CW.ret ?_
 exact Post.one (RV.i rfl (by first | (simp_all [szLog]; done) | (simp_all [szLog]; omega) | grind [szLog])) (AOs.a rfl (AOs.r AOs.e))
set_option maxHeartbeats 4000000 in
theorem laws_szPeerS_fn (a : List Peer) (left : Int) : Eng.Fn E.P 134 [.one (.r (sl 4 Peer.c a)), .one (.r (.v (.int .i64 left)))] (.one (.one (.w (.v (.int .i64 (szI a left)))))) [.one (.r (sl 4 Peer.c a)), .one (.r (.v (.int .i64 left)))] := by
 refine Eng.Fn.intro (E := E) (rvs := [.tmp 4]) Tryz.func134 rfl rfl rfl (by simp [outSlots, moved, rvSlot, sl]) ?_
 intro B g bo
 refine CW.bound (x := .tmp 0) (n := a.length) (AsT.r) (fun hl0 => ?_)
 refine CW.g XK 12 [.e [0,1],.n 2,.e [1],.n 1,.e [1,10]] rfl rfl rfl ?_
 refine CW.cond rfl (fun h1 => ?_) (fun h1 => ?_)
 refine CW.g XK 12 [.n 1,.e [4]] rfl rfl rfl ?_
 refine CW.ret ?_
 exact Post.one (RV.i rfl q23) (AOs.r (AOs.r AOs.e))
 refine CW.g XK 12 [.p,.e [1],.n 1,.e [4]] rfl rfl rfl ?_
 refine CW.ret ?_
 exact Post.one (RV.i rfl q23) (AOs.r (AOs.r AOs.e))
set_option maxHeartbeats 4000000 in
theorem laws_szNode_fn (a : Node) (left : Int) : Eng.Fn E.P 92 [.agg ((Node.c a).map .r), .one (.r (.v (.int .i64 left)))] (.one (.one (.w (.v (.int .i64 (szNode a left)))))) [.agg ((Node.c a).map .r), .one (.r (.v (.int .i64 left)))] := by
 refine Eng.Fn.intro (E := E) (rvs := [.tmp 4]) Tryz.func92 rfl rfl rfl (by simp [outSlots, moved, rvSlot, sl]) ?_
 intro B g bo
 refine CW.h XK 30 [.e [0,1],.o 1] rfl ?_;(conv=>whnf);intro b1;(conv=>whnf);refine ⟨rfl,?_⟩
 refine RW.freezeB (ts := (Node.c a)) 2 rfl (DRd.r (DRd.r (DRd.r (DRd.r (DRd.r (DRd.r (DRd.r (DRd.r (DRd.r (DRd.r (DRd.r (DRd.r (DRd.r (DRd.r DRd.e)))))))))))))) ?_
 refine RW.g XK 30 [.o 1,.p,.e [1,2],.o 3] rfl rfl rfl ?_
 refine RW.call rfl (laws_szIntS_fn a.conf left) rfl (.cons (.one (.r .r)) (.cons (.one (.r .r)) (.nil))) fun g2 => ?_
 refine RW.g XK 30 [.o 1,.p,.e [1,2],.n 1,.e [1,2,10]] rfl rfl rfl ?_
 refine CW.cond rfl (fun h3 => ?_) (fun h3 => ?_)
 refine CW.g XK 30 [.n 1,.e [4]] rfl rfl rfl ?_
 refine CW.ret ?_
 exact Post.one (RV.i rfl q26) (AOs.a rfl (AOs.r AOs.e))
 refine CW.g XK 30 [.p,.e [1,2],.o 3] rfl rfl rfl ?_
 refine RW.call rfl (laws_szLog_fn a.log (szI a.conf left)) rfl (.cons (.agg (.cons (.r .r) (.cons (.r .r) (.cons (.r .r) (.nil))))) (.cons (.one (.r .r)) (.nil))) fun g4 => ?_
 refine RW.g XK 30 [.o 1,.p,.e [1,2],.n 1,.e [1,2,16]] rfl rfl rfl ?_
 refine CW.cond rfl (fun h5 => ?_) (fun h5 => ?_)
 refine CW.g XK 30 [.n 1,.e [4]] rfl rfl rfl ?_
 refine CW.ret ?_
 exact Post.one (RV.i rfl q26) (AOs.a rfl (AOs.r AOs.e))
 refine CW.g XK 30 [.p,.e [1,2],.o 3] rfl rfl rfl ?_
 refine RW.call rfl (laws_szIntS_fn a.votes (szLog a.log (szI a.conf left))) rfl (.cons (.one (.r .r)) (.cons (.one (.r .r)) (.nil))) fun g6 => ?_
 refine RW.g XK 30 [.o 1,.p,.e [1,2],.n 1,.e [1,2,22]] rfl rfl rfl ?_
 refine CW.cond rfl (fun h7 => ?_) (fun h7 => ?_)
 refine CW.g XK 30 [.n 1,.e [4]] rfl rfl rfl ?_
 refine CW.ret ?_
 exact Post.one (RV.i rfl q26) (AOs.a rfl (AOs.r AOs.e))
 refine CW.g XK 30 [.p,.e [1,2],.o 3] rfl rfl rfl ?_
 refine RW.call rfl (laws_szPeerS_fn a.peers (szI a.votes (szLog a.log (szI a.conf left)))) rfl (.cons (.one (.r .r)) (.cons (.one (.r .r)) (.nil))) fun g8 => ?_
 refine RW.g XK 30 [.o 1,.p,.e [1],.n 1,.e [1,28]] rfl rfl rfl ?_
 refine CW.cond rfl (fun h9 => ?_) (fun h9 => ?_)
 refine CW.g XK 30 [.n 1,.e [4]] rfl rfl rfl ?_
 refine CW.ret ?_
 exact Post.one (RV.i rfl q26) (AOs.a rfl (AOs.r AOs.e))
 refine CW.g XK 30 [.p,.e [1],.n 1,.e [4]] rfl rfl rfl ?_
 refine CW.ret ?_
 exact Post.one (RV.i rfl q26) (AOs.a rfl (AOs.r AOs.e))
set_option maxHeartbeats 4000000 in
theorem laws_szFile_fn (a : File) (left : Int) : Eng.Fn E.P 155 [.agg ((File.c a).map .r), .one (.r (.v (.int .i64 left)))] (.one (.one (.w (.v (.int .i64 (szFile a left)))))) [.agg ((File.c a).map .r), .one (.r (.v (.int .i64 left)))] := by
 refine Eng.Fn.intro (E := E) (rvs := [.tmp 4]) Tryz.func155 rfl rfl rfl (by simp [outSlots, moved, rvSlot, sl]) ?_
 intro B g bo
 refine CW.h XK 20 [.e [0,1],.o 1] rfl ?_;(conv=>whnf);intro b1;(conv=>whnf);refine ⟨rfl,?_⟩
 refine RW.freezeB (ts := (File.c a)) 2 rfl (DRd.r (DRd.r (DRd.r DRd.e))) ?_
 refine RW.g XK 20 [.o 1,.p,.e [1,2],.n 1,.e [1,2],.n 1,.e [1,2,11]] rfl rfl rfl ?_
 refine CW.cond rfl (fun h2 => ?_) (fun h2 => ?_)
 refine CW.g XK 20 [.n 1,.e [4]] rfl rfl rfl ?_
 refine CW.ret ?_
 exact Post.one (RV.i rfl q37) (AOs.a rfl (AOs.r AOs.e))
 refine CW.g XK 20 [.p,.e [1,2],.n 1,.e [1],.n 1,.e [1,18]] rfl rfl rfl ?_
 refine CW.cond rfl (fun h3 => ?_) (fun h3 => ?_)
 refine CW.g XK 20 [.n 1,.e [4]] rfl rfl rfl ?_
 refine CW.ret ?_
 exact Post.one (RV.i rfl q37) (AOs.a rfl (AOs.r AOs.e))
 refine CW.g XK 20 [.p,.e [1],.n 1,.e [4]] rfl rfl rfl ?_
 refine CW.ret ?_
 exact Post.one (RV.i rfl q37) (AOs.a rfl (AOs.r AOs.e))
set_option maxHeartbeats 4000000 in
theorem laws_szFileS_fn (a : List File) (left : Int) : Eng.Fn E.P 135 [.one (.r (sl 3 File.c a)), .one (.r (.v (.int .i64 left)))] (.one (.one (.w (.v (.int .i64 (szS szFile a left)))))) [.one (.r (sl 3 File.c a)), .one (.r (.v (.int .i64 left)))] := by
 refine Eng.Fn.intro (E := E) (rvs := [.tmp 4]) Tryz.func135 rfl rfl rfl (by simp [outSlots, moved, rvSlot, sl]) ?_
 intro B g bo
 refine CW.bound (x := .tmp 0) (n := a.length) (AsT.r) (fun hl0 => ?_)
 refine CW.g XK 27 [.e [0,1],.n 2,.e [0,1],.n 1,.e [0,1,11]] rfl rfl rfl ?_
 refine CW.cond rfl (fun h1 => ?_) (fun h1 => ?_)
 refine CW.g XK 27 [.n 1,.e [4]] rfl rfl rfl ?_
 refine CW.ret ?_
 exact Post.one (RV.i rfl q8) (AOs.r (AOs.r AOs.e))
 refine CW.g XK 27 [.p,.e [0,1],.n 1,.e [0,1,5],.p] rfl rfl rfl ?_
 refine CW.loopI 27 (fun (zz : Nat × Int) => match zz with | (i, l) => [(0, .r (sl 3 File.c a)), (1, I l), (5, I (i : Int))]) (fun (zz : Nat × Int) => match zz with | (i, l) => i ≤ a.length ∧ szL szFile (a.drop i) l = szS szFile a left) (fun (zz : Nat × Int) => match zz with | (i, l) => a.length - i) (0, _) rfl (Le.c rfl <| Le.c rfl <| Le.c rfl <| Le.e) ⟨by omega, by first | (simp_all [szS]; done) | grind [szS]⟩ ?_
 rintro ⟨i, l⟩ ⟨hb, hr⟩
 refine CW.g XK 27 [.n 1,.e [0,1,5,15]] rfl rfl rfl ?_
 refine CW.cond rfl (fun h2 => ?_) (fun h2 => ?_)
 have hii : i < a.length := by have := h2; simp at this; first | exact this | omega | (simp; done) | (simp; omega)
 obtain ⟨ei, hei⟩ : ∃ e, a[i]? = some e := ⟨_, List.getElem?_eq_getElem hii⟩
 have hdi := drop_get hei
 refine CW.g XK 27 [.p,.e [0,1,5],.o 2] rfl rfl rfl ?_
 refine RW.v rfl (V.indexS rfl rfl rfl rfl rfl rfl File.len hei) ?_
 refine RW.g XK 27 [.o 2] rfl rfl rfl ?_
 refine RW.call rfl (laws_szFile_fn ei l) rfl (.cons (.agg (.cons (.r .r) (.cons (.r .r) (.cons (.r .r) (.nil))))) (.cons (.one (.r .r)) (.nil))) fun g3 => ?_
 refine RW.g XK 27 [.o 1,.p,.e [0,1,5],.n 1,.e [0,1,5,25]] rfl rfl rfl ?_
 refine CW.cond rfl (fun h4 => ?_) (fun h4 => ?_)
 refine CW.g XK 27 [.n 1,.e [4]] rfl rfl rfl ?_
 refine CW.ret ?_
 exact Post.one (RV.i rfl q8) (AOs.r (AOs.r AOs.e))
 refine CW.g XK 27 [.p,.e [0,1,5],.o 1] rfl rfl rfl ?_
 refine RW.v rfl (V.inc rfl rfl rfl hii hl0) ?_
 refine RW.g XK 27 [.o 1,.p] rfl rfl rfl ?_
 exact ⟨(i + 1, _), by simp only []; omega, ⟨by omega, by first | (simp_all [szL, szStr, szI]; done) | grind [szL, szStr, szI]⟩, rfl, Le.c rfl <| Le.c rfl <| Le.c rfl <| Le.e⟩
 have hii : a.length ≤ i := by have := h2; simp at this; first | exact this | omega | (simp; done) | (simp; omega)
 have hdi : a.drop i = [] := List.drop_eq_nil_of_le hii
 refine CW.exit ?_
 refine CW.g XK 27 [.e [1],.n 1,.e [4]] rfl rfl rfl ?_
 refine CW.ret ?_
 exact Post.one (RV.i rfl q8) (AOs.r (AOs.r AOs.e))
set_option maxHeartbeats 4000000 in
theorem laws_szDisk_fn (a : Disk) (left : Int) : Eng.Fn E.P 93 [.agg ((Disk.c a).map .r), .one (.r (.v (.int .i64 left)))] (.one (.one (.w (.v (.int .i64 (szDisk a left)))))) [.agg ((Disk.c a).map .r), .one (.r (.v (.int .i64 left)))] := by
 refine Eng.Fn.intro (E := E) (rvs := [.tmp 4]) Tryz.func93 rfl rfl rfl (by simp [outSlots, moved, rvSlot, sl]) ?_
 intro B g bo
 refine CW.h XK 12 [.e [0,1],.o 1] rfl ?_;(conv=>whnf);intro b1;(conv=>whnf);refine ⟨rfl,?_⟩
 refine RW.freezeB (ts := (Disk.c a)) 2 rfl (DRd.r DRd.e) ?_
 refine RW.g XK 12 [.o 1,.p,.e [1,2],.o 3] rfl rfl rfl ?_
 refine RW.call rfl (laws_szFileS_fn a.files left) rfl (.cons (.one (.r .r)) (.cons (.one (.r .r)) (.nil))) fun g2 => ?_
 refine RW.g XK 12 [.o 1,.p,.e [1],.n 1,.e [1,10]] rfl rfl rfl ?_
 refine CW.cond rfl (fun h3 => ?_) (fun h3 => ?_)
 refine CW.g XK 12 [.n 1,.e [4]] rfl rfl rfl ?_
 refine CW.ret ?_
 exact Post.one (RV.i rfl (by first | (simp_all [szDisk]; done) | (simp_all [szDisk]; omega) | grind [szDisk])) (AOs.a rfl (AOs.r AOs.e))
 refine CW.g XK 12 [.p,.e [1],.n 1,.e [4]] rfl rfl rfl ?_
 refine CW.ret ?_
 exact Post.one (RV.i rfl (by first | (simp_all [szDisk]; done) | (simp_all [szDisk]; omega) | grind [szDisk])) (AOs.a rfl (AOs.r AOs.e))
set_option maxHeartbeats 4000000 in
theorem laws_szJournal_fn (a : Journal) (left : Int) : Eng.Fn E.P 94 [.agg ((Journal.c a).map .r), .one (.r (.v (.int .i64 left)))] (.one (.one (.w (.v (.int .i64 (szJournal a left)))))) [.agg ((Journal.c a).map .r), .one (.r (.v (.int .i64 left)))] := by
 refine Eng.Fn.intro (E := E) (rvs := [.tmp 4]) Tryz.func94 rfl rfl rfl (by simp [outSlots, moved, rvSlot, sl]) ?_
 intro B g bo
 refine CW.h XK 12 [.e [0,1],.o 1] rfl ?_;(conv=>whnf);intro b1;(conv=>whnf);refine ⟨rfl,?_⟩
 refine RW.freezeB (ts := (Journal.c a)) 2 rfl (DRd.r (DRd.r (DRd.r (DRd.r (DRd.r (DRd.r DRd.e)))))) ?_
 refine RW.g XK 12 [.o 1,.p,.e [1,2],.o 3] rfl rfl rfl ?_
 refine RW.call rfl (laws_szLog_fn a.log left) rfl (.cons (.agg (.cons (.r .r) (.cons (.r .r) (.cons (.r .r) (.nil))))) (.cons (.one (.r .r)) (.nil))) fun g2 => ?_
 refine RW.g XK 12 [.o 1,.p,.e [1],.n 1,.e [1,10]] rfl rfl rfl ?_
 refine CW.cond rfl (fun h3 => ?_) (fun h3 => ?_)
 refine CW.g XK 12 [.n 1,.e [4]] rfl rfl rfl ?_
 refine CW.ret ?_
 exact Post.one (RV.i rfl (by first | (simp_all [szJournal]; done) | (simp_all [szJournal]; omega) | grind [szJournal])) (AOs.a rfl (AOs.r AOs.e))
 refine CW.g XK 12 [.p,.e [1],.n 1,.e [4]] rfl rfl rfl ?_
 refine CW.ret ?_
 exact Post.one (RV.i rfl (by first | (simp_all [szJournal]; done) | (simp_all [szJournal]; omega) | grind [szJournal])) (AOs.a rfl (AOs.r AOs.e))
set_option maxHeartbeats 4000000 in
theorem laws_szSession_fn (a : Session) (left : Int) : Eng.Fn E.P 156 [.agg ((Session.c a).map .r), .one (.r (.v (.int .i64 left)))] (.one (.one (.w (.v (.int .i64 (szSession a left)))))) [.agg ((Session.c a).map .r), .one (.r (.v (.int .i64 left)))] := by
 refine Eng.Fn.intro (E := E) (rvs := [.tmp 4]) Tryz.func156 rfl rfl rfl (by simp [outSlots, moved, rvSlot, sl]) ?_
 intro B g bo
 refine CW.h XK 13 [.e [0,1],.o 1] rfl ?_;(conv=>whnf);intro b1;(conv=>whnf);refine ⟨rfl,?_⟩
 refine RW.freezeB (ts := (Session.c a)) 2 rfl (DRd.r (DRd.r (DRd.r DRd.e))) ?_
 refine RW.g XK 13 [.o 1,.p,.e [1,2],.n 1,.e [1],.n 1,.e [1,11]] rfl rfl rfl ?_
 refine CW.cond rfl (fun h2 => ?_) (fun h2 => ?_)
 refine CW.g XK 13 [.n 1,.e [4]] rfl rfl rfl ?_
 refine CW.ret ?_
 exact Post.one (RV.i rfl (by first | (simp_all [szSession]; done) | (simp_all [szSession]; omega) | grind [szSession])) (AOs.a rfl (AOs.r AOs.e))
 refine CW.g XK 13 [.p,.e [1],.n 1,.e [4]] rfl rfl rfl ?_
 refine CW.ret ?_
 exact Post.one (RV.i rfl (by first | (simp_all [szSession]; done) | (simp_all [szSession]; omega) | grind [szSession])) (AOs.a rfl (AOs.r AOs.e))
set_option maxHeartbeats 4000000 in
theorem laws_szSessionS_fn (a : List Session) (left : Int) : Eng.Fn E.P 136 [.one (.r (sl 3 Session.c a)), .one (.r (.v (.int .i64 left)))] (.one (.one (.w (.v (.int .i64 (szS szSession a left)))))) [.one (.r (sl 3 Session.c a)), .one (.r (.v (.int .i64 left)))] := by
 refine Eng.Fn.intro (E := E) (rvs := [.tmp 4]) Tryz.func136 rfl rfl rfl (by simp [outSlots, moved, rvSlot, sl]) ?_
 intro B g bo
 refine CW.bound (x := .tmp 0) (n := a.length) (AsT.r) (fun hl0 => ?_)
 refine CW.g XK 27 [.e [0,1],.n 2,.e [0,1],.n 1,.e [0,1,11]] rfl rfl rfl ?_
 refine CW.cond rfl (fun h1 => ?_) (fun h1 => ?_)
 refine CW.g XK 27 [.n 1,.e [4]] rfl rfl rfl ?_
 refine CW.ret ?_
 exact Post.one (RV.i rfl q8) (AOs.r (AOs.r AOs.e))
 refine CW.g XK 27 [.p,.e [0,1],.n 1,.e [0,1,5],.p] rfl rfl rfl ?_
 refine CW.loopI 27 (fun (zz : Nat × Int) => match zz with | (i, l) => [(0, .r (sl 3 Session.c a)), (1, I l), (5, I (i : Int))]) (fun (zz : Nat × Int) => match zz with | (i, l) => i ≤ a.length ∧ szL szSession (a.drop i) l = szS szSession a left) (fun (zz : Nat × Int) => match zz with | (i, l) => a.length - i) (0, _) rfl (Le.c rfl <| Le.c rfl <| Le.c rfl <| Le.e) ⟨by omega, by first | (simp_all [szS]; done) | grind [szS]⟩ ?_
 rintro ⟨i, l⟩ ⟨hb, hr⟩
 refine CW.g XK 27 [.n 1,.e [0,1,5,15]] rfl rfl rfl ?_
 refine CW.cond rfl (fun h2 => ?_) (fun h2 => ?_)
 have hii : i < a.length := by have := h2; simp at this; first | exact this | omega | (simp; done) | (simp; omega)
 obtain ⟨ei, hei⟩ : ∃ e, a[i]? = some e := ⟨_, List.getElem?_eq_getElem hii⟩
 have hdi := drop_get hei
 refine CW.g XK 27 [.p,.e [0,1,5],.o 2] rfl rfl rfl ?_
 refine RW.v rfl (V.indexS rfl rfl rfl rfl rfl rfl Session.len hei) ?_
 refine RW.g XK 27 [.o 2] rfl rfl rfl ?_
 refine RW.call rfl (laws_szSession_fn ei l) rfl (.cons (.agg (.cons (.r .r) (.cons (.r .r) (.cons (.r .r) (.nil))))) (.cons (.one (.r .r)) (.nil))) fun g3 => ?_
 refine RW.g XK 27 [.o 1,.p,.e [0,1,5],.n 1,.e [0,1,5,25]] rfl rfl rfl ?_
 refine CW.cond rfl (fun h4 => ?_) (fun h4 => ?_)
 refine CW.g XK 27 [.n 1,.e [4]] rfl rfl rfl ?_
 refine CW.ret ?_
 exact Post.one (RV.i rfl q8) (AOs.r (AOs.r AOs.e))
 refine CW.g XK 27 [.p,.e [0,1,5],.o 1] rfl rfl rfl ?_
 refine RW.v rfl (V.inc rfl rfl rfl hii hl0) ?_
 refine RW.g XK 27 [.o 1,.p] rfl rfl rfl ?_
 exact ⟨(i + 1, _), by simp only []; omega, ⟨by omega, by first | (simp_all [szL, szStr, szI]; done) | grind [szL, szStr, szI]⟩, rfl, Le.c rfl <| Le.c rfl <| Le.c rfl <| Le.e⟩
 have hii : a.length ≤ i := by have := h2; simp at this; first | exact this | omega | (simp; done) | (simp; omega)
 have hdi : a.drop i = [] := List.drop_eq_nil_of_le hii
 refine CW.exit ?_
 refine CW.g XK 27 [.e [1],.n 1,.e [4]] rfl rfl rfl ?_
 refine CW.ret ?_
 exact Post.one (RV.i rfl q8) (AOs.r (AOs.r AOs.e))
set_option maxHeartbeats 4000000 in
theorem laws_szItem_fn (a : Item) (left : Int) : Eng.Fn E.P 157 [.agg ((Item.c a).map .r), .one (.r (.v (.int .i64 left)))] (.one (.one (.w (.v (.int .i64 (szItem a left)))))) [.agg ((Item.c a).map .r), .one (.r (.v (.int .i64 left)))] := by
 refine Eng.Fn.intro (E := E) (rvs := [.tmp 4]) Tryz.func157 rfl rfl rfl (by simp [outSlots, moved, rvSlot, sl]) ?_
 intro B g bo
 refine CW.h XK 20 [.e [0,1],.o 1] rfl ?_;(conv=>whnf);intro b1;(conv=>whnf);refine ⟨rfl,?_⟩
 refine RW.freezeB (ts := (Item.c a)) 2 rfl (DRd.r (DRd.r (DRd.r DRd.e))) ?_
 refine RW.g XK 20 [.o 1,.p,.e [1,2],.n 1,.e [1,2],.n 1,.e [1,2,11]] rfl rfl rfl ?_
 refine CW.cond rfl (fun h2 => ?_) (fun h2 => ?_)
 refine CW.g XK 20 [.n 1,.e [4]] rfl rfl rfl ?_
 refine CW.ret ?_
 exact Post.one (RV.i rfl q38) (AOs.a rfl (AOs.r AOs.e))
 refine CW.g XK 20 [.p,.e [1,2],.n 1,.e [1],.n 1,.e [1,18]] rfl rfl rfl ?_
 refine CW.cond rfl (fun h3 => ?_) (fun h3 => ?_)
 refine CW.g XK 20 [.n 1,.e [4]] rfl rfl rfl ?_
 refine CW.ret ?_
 exact Post.one (RV.i rfl q38) (AOs.a rfl (AOs.r AOs.e))
 refine CW.g XK 20 [.p,.e [1],.n 1,.e [4]] rfl rfl rfl ?_
 refine CW.ret ?_
 exact Post.one (RV.i rfl q38) (AOs.a rfl (AOs.r AOs.e))
set_option maxHeartbeats 4000000 in
theorem laws_szItemS_fn (a : List Item) (left : Int) : Eng.Fn E.P 137 [.one (.r (sl 3 Item.c a)), .one (.r (.v (.int .i64 left)))] (.one (.one (.w (.v (.int .i64 (szS szItem a left)))))) [.one (.r (sl 3 Item.c a)), .one (.r (.v (.int .i64 left)))] := by
 refine Eng.Fn.intro (E := E) (rvs := [.tmp 4]) Tryz.func137 rfl rfl rfl (by simp [outSlots, moved, rvSlot, sl]) ?_
 intro B g bo
 refine CW.bound (x := .tmp 0) (n := a.length) (AsT.r) (fun hl0 => ?_)
 refine CW.g XK 27 [.e [0,1],.n 2,.e [0,1],.n 1,.e [0,1,11]] rfl rfl rfl ?_
 refine CW.cond rfl (fun h1 => ?_) (fun h1 => ?_)
 refine CW.g XK 27 [.n 1,.e [4]] rfl rfl rfl ?_
 refine CW.ret ?_
 exact Post.one (RV.i rfl q8) (AOs.r (AOs.r AOs.e))
 refine CW.g XK 27 [.p,.e [0,1],.n 1,.e [0,1,5],.p] rfl rfl rfl ?_
 refine CW.loopI 27 (fun (zz : Nat × Int) => match zz with | (i, l) => [(0, .r (sl 3 Item.c a)), (1, I l), (5, I (i : Int))]) (fun (zz : Nat × Int) => match zz with | (i, l) => i ≤ a.length ∧ szL szItem (a.drop i) l = szS szItem a left) (fun (zz : Nat × Int) => match zz with | (i, l) => a.length - i) (0, _) rfl (Le.c rfl <| Le.c rfl <| Le.c rfl <| Le.e) ⟨by omega, by first | (simp_all [szS]; done) | grind [szS]⟩ ?_
 rintro ⟨i, l⟩ ⟨hb, hr⟩
 refine CW.g XK 27 [.n 1,.e [0,1,5,15]] rfl rfl rfl ?_
 refine CW.cond rfl (fun h2 => ?_) (fun h2 => ?_)
 have hii : i < a.length := by have := h2; simp at this; first | exact this | omega | (simp; done) | (simp; omega)
 obtain ⟨ei, hei⟩ : ∃ e, a[i]? = some e := ⟨_, List.getElem?_eq_getElem hii⟩
 have hdi := drop_get hei
 refine CW.g XK 27 [.p,.e [0,1,5],.o 2] rfl rfl rfl ?_
 refine RW.v rfl (V.indexS rfl rfl rfl rfl rfl rfl Item.len hei) ?_
 refine RW.g XK 27 [.o 2] rfl rfl rfl ?_
 refine RW.call rfl (laws_szItem_fn ei l) rfl (.cons (.agg (.cons (.r .r) (.cons (.r .r) (.cons (.r .r) (.nil))))) (.cons (.one (.r .r)) (.nil))) fun g3 => ?_
 refine RW.g XK 27 [.o 1,.p,.e [0,1,5],.n 1,.e [0,1,5,25]] rfl rfl rfl ?_
 refine CW.cond rfl (fun h4 => ?_) (fun h4 => ?_)
 refine CW.g XK 27 [.n 1,.e [4]] rfl rfl rfl ?_
 refine CW.ret ?_
 exact Post.one (RV.i rfl q8) (AOs.r (AOs.r AOs.e))
 refine CW.g XK 27 [.p,.e [0,1,5],.o 1] rfl rfl rfl ?_
 refine RW.v rfl (V.inc rfl rfl rfl hii hl0) ?_
 refine RW.g XK 27 [.o 1,.p] rfl rfl rfl ?_
 exact ⟨(i + 1, _), by simp only []; omega, ⟨by omega, by first | (simp_all [szL, szStr, szI]; done) | grind [szL, szStr, szI]⟩, rfl, Le.c rfl <| Le.c rfl <| Le.c rfl <| Le.e⟩
 have hii : a.length ≤ i := by have := h2; simp at this; first | exact this | omega | (simp; done) | (simp; omega)
 have hdi : a.drop i = [] := List.drop_eq_nil_of_le hii
 refine CW.exit ?_
 refine CW.g XK 27 [.e [1],.n 1,.e [4]] rfl rfl rfl ?_
 refine CW.ret ?_
 exact Post.one (RV.i rfl q8) (AOs.r (AOs.r AOs.e))
set_option maxHeartbeats 4000000 in
theorem laws_szKeep_fn (a : Keep) (left : Int) : Eng.Fn E.P 95 [.agg ((Keep.c a).map .r), .one (.r (.v (.int .i64 left)))] (.one (.one (.w (.v (.int .i64 (szKeep a left)))))) [.agg ((Keep.c a).map .r), .one (.r (.v (.int .i64 left)))] := by
 refine Eng.Fn.intro (E := E) (rvs := [.tmp 4]) Tryz.func95 rfl rfl rfl (by simp [outSlots, moved, rvSlot, sl]) ?_
 intro B g bo
 refine CW.h XK 18 [.e [0,1],.o 1] rfl ?_;(conv=>whnf);intro b1;(conv=>whnf);refine ⟨rfl,?_⟩
 refine RW.freezeB (ts := (Keep.c a)) 2 rfl (DRd.r (DRd.r DRd.e)) ?_
 refine RW.g XK 18 [.o 1,.p,.e [1,2],.o 3] rfl rfl rfl ?_
 refine RW.call rfl (laws_szSessionS_fn a.sessions left) rfl (.cons (.one (.r .r)) (.cons (.one (.r .r)) (.nil))) fun g2 => ?_
 refine RW.g XK 18 [.o 1,.p,.e [1,2],.n 1,.e [1,2,10]] rfl rfl rfl ?_
 refine CW.cond rfl (fun h3 => ?_) (fun h3 => ?_)
 refine CW.g XK 18 [.n 1,.e [4]] rfl rfl rfl ?_
 refine CW.ret ?_
 exact Post.one (RV.i rfl q39) (AOs.a rfl (AOs.r AOs.e))
 refine CW.g XK 18 [.p,.e [1,2],.o 3] rfl rfl rfl ?_
 refine RW.call rfl (laws_szItemS_fn a.items (szS szSession a.sessions left)) rfl (.cons (.one (.r .r)) (.cons (.one (.r .r)) (.nil))) fun g4 => ?_
 refine RW.g XK 18 [.o 1,.p,.e [1],.n 1,.e [1,16]] rfl rfl rfl ?_
 refine CW.cond rfl (fun h5 => ?_) (fun h5 => ?_)
 refine CW.g XK 18 [.n 1,.e [4]] rfl rfl rfl ?_
 refine CW.ret ?_
 exact Post.one (RV.i rfl q39) (AOs.a rfl (AOs.r AOs.e))
 refine CW.g XK 18 [.p,.e [1],.n 1,.e [4]] rfl rfl rfl ?_
 refine CW.ret ?_
 exact Post.one (RV.i rfl q39) (AOs.a rfl (AOs.r AOs.e))
end Go.Proofs.YtdipdkfbaehglaaGreatDoor.Y
