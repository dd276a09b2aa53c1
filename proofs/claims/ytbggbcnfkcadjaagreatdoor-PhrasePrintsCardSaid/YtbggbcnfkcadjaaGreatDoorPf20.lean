/-
  THE WALKS of the reference that prints: WordsOf at each kind of node but the atoms.
-/
import Derived.Test.YtbggbcnfkcadjaaGreatDoorPf19
namespace Go.Proofs.YtbggbcnfkcadjaaGreatDoor
set_option maxRecDepth 100000
open Go.RowKit Go.Sort
structure WIn (e : List Nd) (b o c N : Nat) (w0 W : World) (n : Nd) (ps : List (List Nd)) (rest : List Nd) (i j : Nat) : Prop where
 E : EIn e b o w0
 ok : WOk e b o c w0 N
 on : RowKit.Below w0.heap.size w0 W
 at_ : e.drop i = n :: (ps.flatten ++ rest)
 parts : ∀ p ∈ ps, p.length ≤ N ∧ Ex (.one false) p ∧ NumK p
 sh : shapedT n = true
 h7 : n.op ≠ 7
 en : i + 1 + ps.flatten.length = j
theorem part_bound {e p ys : List Nd} {i : Nat} (l : Nat) (h : Ex (.one false) p) (hd : e.drop i = p ++ ys) (hl : e.length ≤ 200) : (partT l p).length ≤ 2002 := by
 have h1 := part_len l p
 have h2 := words_len _ p (Nat.le_refl _) h
 have h3 := ex_len hd
 omega
theorem wo_level {n : Nd} (hs : shapedT n = true) (h7 : n.op ≠ 7) {op : Int} {l : Nat} (ho : n.op = op) (hl : lvlW op = l) (w : World) :
   Calls Tryz.prog 48 #[.int .i64 op] w fun r w' => r = .returned (.int .i64 (l : Nat)) ∧ RowKit.Below w.heap.size w w' := by
 subst ho hl
 exact r2_Level hs h7 w
theorem r2_gluedN {n m : Nat} (a b : List Tk) (A B : Option Addr) (c d : Nat) (w : World) (ha : TkSl w w.heap.size A a) (hb : TkSl w w.heap.size B b) (hl : a.length + b.length ≤ 4194304) (hn : n = a.length) (hm : m = b.length) :
   Calls Tryz.prog 50 #[.slice A n c, .slice B m d] w fun r w' => TBack w r w' (a ++ b) := by
 subst hn hm
 exact r2_glued a b A B c d w ha hb hl
set_option maxHeartbeats 6400000 in
theorem wo_13 {e : List Nd} {b o c N i j : Nat} {w0 W : World} {n : Nd} {p0 p1 p2 rest : List Nd} (h : WIn e b o c N w0 W n [p0, p1, p2] rest i j) (ho : n.op = 13) :
   Calls Tryz.prog 26 #[.slice (some ⟨b, o, none⟩) e.length c, .int .i64 i] W fun r w' => WBack W r w' (nodeT n [p0, p1, p2]) j := by
 obtain ⟨hi, hlt, hd0⟩ := drop_at h.at_
 have hNA := h.E.node h.on hi
 have HL := Lib.hid (fun W' => wo_level h.sh h.h7 ho (l := 0) (by rfl) W')
 obtain ⟨a0, ha0⟩ : ∃ a, i + 1 = a := ⟨_, rfl⟩
 obtain ⟨a1, ha1⟩ : ∃ a, a0 + p0.length = a := ⟨_, rfl⟩
 obtain ⟨a2, ha2⟩ : ∃ a, a1 + p1.length = a := ⟨_, rfl⟩
 obtain ⟨a3, ha3⟩ : ∃ a, a2 + p2.length = a := ⟨_, rfl⟩
 have hd1 : e.drop a0 = p0 ++ (p1 ++ (p2 ++ (rest))) := by rw [← ha0, hd0]; simp
 have hd2 : e.drop a1 = p1 ++ (p2 ++ (rest)) := by rw [← ha1]; exact drop_app hd1
 have hd3 : e.drop a2 = p2 ++ (rest) := by rw [← ha2]; exact drop_app hd2
 have HP0 := Lib.hid (fun W' (hb : RowKit.Below w0.heap.size w0 W') => r2_Part (l := 0) h.E h.ok W' (h.parts p0 (by simp)).1 (h.parts p0 (by simp)).2.1 (h.parts p0 (by simp)).2.2 hd1 ha1 hb)
 have q0 := part_bound (0) (h.parts p0 (by simp)).2.1 hd1 h.E.le
 have HP1 := Lib.hid (fun W' (hb : RowKit.Below w0.heap.size w0 W') => r2_Part (l := 0) h.E h.ok W' (h.parts p1 (by simp)).1 (h.parts p1 (by simp)).2.1 (h.parts p1 (by simp)).2.2 hd2 ha2 hb)
 have q1 := part_bound (0) (h.parts p1 (by simp)).2.1 hd2 h.E.le
 have HP2 := Lib.hid (fun W' (hb : RowKit.Below w0.heap.size w0 W') => r2_Part (l := 0) h.E h.ok W' (h.parts p2 (by simp)).1 (h.parts p2 (by simp)).2.1 (h.parts p2 (by simp)).2.2 hd3 ha3 hb)
 have q2 := part_bound (0) (h.parts p2 (by simp)).2.1 hd3 h.E.le
 obtain rfl : a3 = j := by have := h.en; simp at this; omega
 obtain ⟨ws, hws⟩ : ∃ ws, nodeT n [p0, p1, p2] = ws := ⟨_, rfl⟩
 have hq : tNm wIf :: (partT (0) p0 ++ tNm wThen :: (partT (0) p1 ++ tNm wElse :: partT (0) p2)) = ws := by rw [← hws]; unfold nodeT; simp [ho]
 obtain ⟨t0, ht0⟩ : ∃ t, partT (0) p0 = t := ⟨_, rfl⟩
 rw [ht0] at HP0 q0 hq
 obtain ⟨t1, ht1⟩ : ∃ t, partT (0) p1 = t := ⟨_, rfl⟩
 rw [ht1] at HP1 q1 hq
 obtain ⟨t2, ht2⟩ : ∃ t, partT (0) p2 = t := ⟨_, rfl⟩
 rw [ht2] at HP2 q2 hq
 have HQ := Lib.hid hq
 rw [hws]
 have HO := Lib.hid h.on
 have hle := h.E.le
 have hbw : b < W.heap.size := Nat.lt_of_lt_of_le h.E.hb h.on.size
 have i64 : IntKind.wrap .i64 ((i : Int) + 1) = (a0 : Int) := by rw [IntWalk.i64_in _ (by omega)]; omega
 obtain ⟨d0, d1, d2, d3⟩ := hNA
 obtain ⟨op, nn, s, t⟩ := n
 have ho : op = 13 := ho
 subst ho
 dsimp only at d0 d1 d2 d3
 clear h hi hd0 hws hq ha0 ha1 hd1 ht0 ha2 hd2 ht1 ha3 hd3 ht2
 go_enter Tryz.func26, Tryz.ntmps26
 go_wp2_with fail
 have HXa := Lib.hid (Blk.new W 29 #[.int .i64 13, .int .i64 nn, .string s, .string t])
 have hx : RowKit.Below W.heap.size W (W.alloc (.cells #[.int .i64 13, .int .i64 nn, .string s, .string t] 29)) := by (repeat (first | assumption | exact Below.refl _ _ | apply Below.drew | apply below_drewN | (refine Below.alloc ?_ (by first | exact Nat.le_refl _ | omega | (simp; done) | (simp; omega)) _)))
 generalize (W.alloc (.cells #[.int .i64 13, .int .i64 nn, .string s, .string t] 29)) = wa at HXa hx ⊢
 have HBa := Lib.hid hx
 have HOa := Lib.hid (HO.out.trans (hx.mono HO.out.size))
 clear hx d0 d1 d2 d3 HO
 have k0 : wa.cell? ⟨W.heap.size, 0, none⟩ = some (.int .i64 13) := HXa.out.cell 0
 have k2 : wa.cell? ⟨W.heap.size, 2, none⟩ = some (.string s) := HXa.out.cell 2
 refine (HL.out wa).mono ?_
 rintro r w0 ⟨rfl, b0⟩
 have HB0 := Lib.hid (HBa.out.trans (b0.mono HBa.out.size))
 have HO0 := Lib.hid (HOa.out.trans (b0.mono HOa.out.size))
 have HX0 := Lib.hid (HXa.out.below b0 HXa.out.lt)
 clear b0 HBa HOa HXa k0 k2
 have k0 : w0.cell? ⟨W.heap.size, 0, none⟩ = some (.int .i64 13) := HX0.out.cell 0
 have k2 : w0.cell? ⟨W.heap.size, 2, none⟩ = some (.string s) := HX0.out.cell 2
 go_wp2_with fail
 refine (HP0.out w0 HO0.out).mono ?_
 rintro r w1 ⟨A1, c1, rfl, h1, m1, s1, b1⟩
 have HB1 := Lib.hid (HB0.out.trans (b1.mono HB0.out.size))
 have HO1 := Lib.hid (HO0.out.trans (b1.mono HO0.out.size))
 have HX1 := Lib.hid (HX0.out.below b1 HX0.out.lt)
 clear b1 HB0 HO0 HX0 k0 k2
 have k0 : w1.cell? ⟨W.heap.size, 0, none⟩ = some (.int .i64 13) := HX1.out.cell 0
 have k2 : w1.cell? ⟨W.heap.size, 2, none⟩ = some (.string s) := HX1.out.cell 2
 have HS1 := Lib.hid s1
 clear s1
 go_wp2_with fail
 refine (HP1.out w1 HO1.out).mono ?_
 rintro r w2 ⟨A2, c2, rfl, h2, m2, s2, b2⟩
 have HB2 := Lib.hid (HB1.out.trans (b2.mono HB1.out.size))
 have HO2 := Lib.hid (HO1.out.trans (b2.mono HO1.out.size))
 have HX2 := Lib.hid (HX1.out.below b2 HX1.out.lt)
 have HS1_2 := Lib.hid ((HS1.out.below b2).more b2.size)
 clear b2 HB1 HO1 HX1 HS1 k0 k2
 have k0 : w2.cell? ⟨W.heap.size, 0, none⟩ = some (.int .i64 13) := HX2.out.cell 0
 have k2 : w2.cell? ⟨W.heap.size, 2, none⟩ = some (.string s) := HX2.out.cell 2
 have HS2 := Lib.hid s2
 clear s2
 go_wp2_with fail
 refine (HP2.out w2 HO2.out).mono ?_
 rintro r w3 ⟨A3, c3, rfl, h3, m3, s3, b3⟩
 have HB3 := Lib.hid (HB2.out.trans (b3.mono HB2.out.size))
 have HO3 := Lib.hid (HO2.out.trans (b3.mono HO2.out.size))
 have HX3 := Lib.hid (HX2.out.below b3 HX2.out.lt)
 have HS1_2_3 := Lib.hid ((HS1_2.out.below b3).more b3.size)
 have HS2_3 := Lib.hid ((HS2.out.below b3).more b3.size)
 clear b3 HB2 HO2 HX2 HS1_2 HS2 k0 k2
 have k0 : w3.cell? ⟨W.heap.size, 0, none⟩ = some (.int .i64 13) := HX3.out.cell 0
 have k2 : w3.cell? ⟨W.heap.size, 2, none⟩ = some (.string s) := HX3.out.cell 2
 have HS3 := Lib.hid s3
 clear s3
 go_wp2_with fail
 refine (r2_word 1 ⟨#[105, 102]⟩ (w3)).mono ?_
 rintro r w4 ⟨A4, c4, rfl, h4, m4, s4, b4⟩
 have HB4 := Lib.hid (HB3.out.trans (b4.mono HB3.out.size))
 have HO4 := Lib.hid (HO3.out.trans (b4.mono HO3.out.size))
 have HX4 := Lib.hid (HX3.out.below b4 HX3.out.lt)
 have HS1_2_3_4 := Lib.hid ((HS1_2_3.out.below b4).more b4.size)
 have HS2_3_4 := Lib.hid ((HS2_3.out.below b4).more b4.size)
 have HS3_4 := Lib.hid ((HS3.out.below b4).more b4.size)
 clear b4 HB3 HO3 HX3 HS1_2_3 HS2_3 HS3 k0 k2
 have k0 : w4.cell? ⟨W.heap.size, 0, none⟩ = some (.int .i64 13) := HX4.out.cell 0
 have k2 : w4.cell? ⟨W.heap.size, 2, none⟩ = some (.string s) := HX4.out.cell 2
 have HS4 := Lib.hid s4
 clear s4
 go_wp2_with fail
 refine Calls.mono (r2_gluedN ([⟨1, ⟨#[105, 102]⟩, 0⟩]) (t0) A4 A1 c4 c1 w4 HS4.out HS1_2_3_4.out (by first | omega | (simp; done) | (simp; omega)) (by first | omega | (simp; done) | (simp; omega)) (by first | omega | (simp; done) | (simp; omega))) ?_
 rintro r w5 ⟨A5, c5, rfl, h5, m5, s5, b5⟩
 have HB5 := Lib.hid (HB4.out.trans (b5.mono HB4.out.size))
 have HO5 := Lib.hid (HO4.out.trans (b5.mono HO4.out.size))
 have HX5 := Lib.hid (HX4.out.below b5 HX4.out.lt)
 have HS2_3_4_5 := Lib.hid ((HS2_3_4.out.below b5).more b5.size)
 have HS3_4_5 := Lib.hid ((HS3_4.out.below b5).more b5.size)
 clear b5 HB4 HO4 HX4 HS2_3_4 HS3_4 k0 k2
 have k0 : w5.cell? ⟨W.heap.size, 0, none⟩ = some (.int .i64 13) := HX5.out.cell 0
 have k2 : w5.cell? ⟨W.heap.size, 2, none⟩ = some (.string s) := HX5.out.cell 2
 have HS5 := Lib.hid s5
 clear s5
 go_wp2_with fail
 refine (r2_word 1 ⟨#[116, 104, 101, 110]⟩ (w5)).mono ?_
 rintro r w6 ⟨A6, c6, rfl, h6, m6, s6, b6⟩
 have HB6 := Lib.hid (HB5.out.trans (b6.mono HB5.out.size))
 have HO6 := Lib.hid (HO5.out.trans (b6.mono HO5.out.size))
 have HX6 := Lib.hid (HX5.out.below b6 HX5.out.lt)
 have HS2_3_4_5_6 := Lib.hid ((HS2_3_4_5.out.below b6).more b6.size)
 have HS3_4_5_6 := Lib.hid ((HS3_4_5.out.below b6).more b6.size)
 have HS5_6 := Lib.hid ((HS5.out.below b6).more b6.size)
 clear b6 HB5 HO5 HX5 HS2_3_4_5 HS3_4_5 HS5 k0 k2
 have k0 : w6.cell? ⟨W.heap.size, 0, none⟩ = some (.int .i64 13) := HX6.out.cell 0
 have k2 : w6.cell? ⟨W.heap.size, 2, none⟩ = some (.string s) := HX6.out.cell 2
 have HS6 := Lib.hid s6
 clear s6
 go_wp2_with fail
 refine Calls.mono (r2_gluedN ([⟨1, ⟨#[116, 104, 101, 110]⟩, 0⟩]) (t1) A6 A2 c6 c2 w6 HS6.out HS2_3_4_5_6.out (by first | omega | (simp; done) | (simp; omega)) (by first | omega | (simp; done) | (simp; omega)) (by first | omega | (simp; done) | (simp; omega))) ?_
 rintro r w7 ⟨A7, c7, rfl, h7, m7, s7, b7⟩
 have HB7 := Lib.hid (HB6.out.trans (b7.mono HB6.out.size))
 have HO7 := Lib.hid (HO6.out.trans (b7.mono HO6.out.size))
 have HX7 := Lib.hid (HX6.out.below b7 HX6.out.lt)
 have HS3_4_5_6_7 := Lib.hid ((HS3_4_5_6.out.below b7).more b7.size)
 have HS5_6_7 := Lib.hid ((HS5_6.out.below b7).more b7.size)
 clear b7 HB6 HO6 HX6 HS3_4_5_6 HS5_6 k0 k2
 have k0 : w7.cell? ⟨W.heap.size, 0, none⟩ = some (.int .i64 13) := HX7.out.cell 0
 have k2 : w7.cell? ⟨W.heap.size, 2, none⟩ = some (.string s) := HX7.out.cell 2
 have HS7 := Lib.hid s7
 clear s7
 go_wp2_with fail
 refine Calls.mono (r2_gluedN (([⟨1, ⟨#[105, 102]⟩, 0⟩]) ++ (t0)) (([⟨1, ⟨#[116, 104, 101, 110]⟩, 0⟩]) ++ (t1)) A5 A7 c5 c7 w7 HS5_6_7.out HS7.out (by first | omega | (simp; done) | (simp; omega)) (by first | omega | (simp; done) | (simp; omega)) (by first | omega | (simp; done) | (simp; omega))) ?_
 rintro r w8 ⟨A8, c8, rfl, h8, m8, s8, b8⟩
 have HB8 := Lib.hid (HB7.out.trans (b8.mono HB7.out.size))
 have HO8 := Lib.hid (HO7.out.trans (b8.mono HO7.out.size))
 have HX8 := Lib.hid (HX7.out.below b8 HX7.out.lt)
 have HS3_4_5_6_7_8 := Lib.hid ((HS3_4_5_6_7.out.below b8).more b8.size)
 clear b8 HB7 HO7 HX7 HS3_4_5_6_7 k0 k2
 have k0 : w8.cell? ⟨W.heap.size, 0, none⟩ = some (.int .i64 13) := HX8.out.cell 0
 have k2 : w8.cell? ⟨W.heap.size, 2, none⟩ = some (.string s) := HX8.out.cell 2
 have HS8 := Lib.hid s8
 clear s8
 go_wp2_with fail
 refine (r2_word 1 ⟨#[101, 108, 115, 101]⟩ (w8)).mono ?_
 rintro r w9 ⟨A9, c9, rfl, h9, m9, s9, b9⟩
 have HB9 := Lib.hid (HB8.out.trans (b9.mono HB8.out.size))
 have HO9 := Lib.hid (HO8.out.trans (b9.mono HO8.out.size))
 have HX9 := Lib.hid (HX8.out.below b9 HX8.out.lt)
 have HS3_4_5_6_7_8_9 := Lib.hid ((HS3_4_5_6_7_8.out.below b9).more b9.size)
 have HS8_9 := Lib.hid ((HS8.out.below b9).more b9.size)
 clear b9 HB8 HO8 HX8 HS3_4_5_6_7_8 HS8 k0 k2
 have k0 : w9.cell? ⟨W.heap.size, 0, none⟩ = some (.int .i64 13) := HX9.out.cell 0
 have k2 : w9.cell? ⟨W.heap.size, 2, none⟩ = some (.string s) := HX9.out.cell 2
 have HS9 := Lib.hid s9
 clear s9
 go_wp2_with fail
 refine Calls.mono (r2_gluedN ([⟨1, ⟨#[101, 108, 115, 101]⟩, 0⟩]) (t2) A9 A3 c9 c3 w9 HS9.out HS3_4_5_6_7_8_9.out (by first | omega | (simp; done) | (simp; omega)) (by first | omega | (simp; done) | (simp; omega)) (by first | omega | (simp; done) | (simp; omega))) ?_
 rintro r w10 ⟨A10, c10, rfl, h10, m10, s10, b10⟩
 have HB10 := Lib.hid (HB9.out.trans (b10.mono HB9.out.size))
 have HO10 := Lib.hid (HO9.out.trans (b10.mono HO9.out.size))
 have HX10 := Lib.hid (HX9.out.below b10 HX9.out.lt)
 have HS8_9_10 := Lib.hid ((HS8_9.out.below b10).more b10.size)
 clear b10 HB9 HO9 HX9 HS8_9 k0 k2
 have k0 : w10.cell? ⟨W.heap.size, 0, none⟩ = some (.int .i64 13) := HX10.out.cell 0
 have k2 : w10.cell? ⟨W.heap.size, 2, none⟩ = some (.string s) := HX10.out.cell 2
 have HS10 := Lib.hid s10
 clear s10
 go_wp2_with fail
 refine Calls.mono (r2_gluedN ((([⟨1, ⟨#[105, 102]⟩, 0⟩]) ++ (t0)) ++ (([⟨1, ⟨#[116, 104, 101, 110]⟩, 0⟩]) ++ (t1))) (([⟨1, ⟨#[101, 108, 115, 101]⟩, 0⟩]) ++ (t2)) A8 A10 c8 c10 w10 HS8_9_10.out HS10.out (by first | omega | (simp; done) | (simp; omega)) (by first | omega | (simp; done) | (simp; omega)) (by first | omega | (simp; done) | (simp; omega))) ?_
 rintro r w11 ⟨A11, c11, rfl, h11, m11, s11, b11⟩
 have HB11 := Lib.hid (HB10.out.trans (b11.mono HB10.out.size))
 have HO11 := Lib.hid (HO10.out.trans (b11.mono HO10.out.size))
 have HX11 := Lib.hid (HX10.out.below b11 HX10.out.lt)
 clear b11 HB10 HO10 HX10 k0 k2
 have k0 : w11.cell? ⟨W.heap.size, 0, none⟩ = some (.int .i64 13) := HX11.out.cell 0
 have k2 : w11.cell? ⟨W.heap.size, 2, none⟩ = some (.string s) := HX11.out.cell 2
 have HS11 := Lib.hid s11
 clear s11
 go_wp2_with fail
 refine bodyPost_ret (results_tmp2 rfl _ _ _) rfl ?_
 exact WBack.of (us := ((([⟨1, ⟨#[105, 102]⟩, 0⟩]) ++ (t0)) ++ (([⟨1, ⟨#[116, 104, 101, 110]⟩, 0⟩]) ++ (t1))) ++ (([⟨1, ⟨#[101, 108, 115, 101]⟩, 0⟩]) ++ (t2))) (by first | (rw [← HQ.out]; done) | (rw [← HQ.out]; simp only [List.append_assoc, List.cons_append, List.nil_append] <;> rfl)) (by first | omega | (simp; done) | (simp; omega)) rfl h11 m11 HS11.out HB11.out
set_option maxHeartbeats 6400000 in
theorem wo_12 {e : List Nd} {b o c N i j : Nat} {w0 W : World} {n : Nd} {p0 p1 rest : List Nd} (h : WIn e b o c N w0 W n [p0, p1] rest i j) (ho : n.op = 12) :
   Calls Tryz.prog 26 #[.slice (some ⟨b, o, none⟩) e.length c, .int .i64 i] W fun r w' => WBack W r w' (nodeT n [p0, p1]) j := by
 obtain ⟨hi, hlt, hd0⟩ := drop_at h.at_
 have hNA := h.E.node h.on hi
 have HL := Lib.hid (fun W' => wo_level h.sh h.h7 ho (l := 1) (by rfl) W')
 obtain ⟨a0, ha0⟩ : ∃ a, i + 1 = a := ⟨_, rfl⟩
 obtain ⟨a1, ha1⟩ : ∃ a, a0 + p0.length = a := ⟨_, rfl⟩
 obtain ⟨a2, ha2⟩ : ∃ a, a1 + p1.length = a := ⟨_, rfl⟩
 have hd1 : e.drop a0 = p0 ++ (p1 ++ (rest)) := by rw [← ha0, hd0]; simp
 have hd2 : e.drop a1 = p1 ++ (rest) := by rw [← ha1]; exact drop_app hd1
 have HP0 := Lib.hid (fun W' (hb : RowKit.Below w0.heap.size w0 W') => r2_Part (l := 1) h.E h.ok W' (h.parts p0 (by simp)).1 (h.parts p0 (by simp)).2.1 (h.parts p0 (by simp)).2.2 hd1 ha1 hb)
 have q0 := part_bound (1) (h.parts p0 (by simp)).2.1 hd1 h.E.le
 have HP1 := Lib.hid (fun W' (hb : RowKit.Below w0.heap.size w0 W') => r2_Part (l := 2) h.E h.ok W' (h.parts p1 (by simp)).1 (h.parts p1 (by simp)).2.1 (h.parts p1 (by simp)).2.2 hd2 ha2 hb)
 have q1 := part_bound (2) (h.parts p1 (by simp)).2.1 hd2 h.E.le
 obtain rfl : a2 = j := by have := h.en; simp at this; omega
 obtain ⟨ws, hws⟩ : ∃ ws, nodeT n [p0, p1] = ws := ⟨_, rfl⟩
 have hq : partT (1) p0 ++ tSg (btwW 12) :: partT (2) p1 = ws := by rw [← hws]; unfold nodeT; simp [ho, lvlW]
 obtain ⟨t0, ht0⟩ : ∃ t, partT (1) p0 = t := ⟨_, rfl⟩
 rw [ht0] at HP0 q0 hq
 obtain ⟨t1, ht1⟩ : ∃ t, partT (2) p1 = t := ⟨_, rfl⟩
 rw [ht1] at HP1 q1 hq
 have HQ := Lib.hid hq
 rw [hws]
 have HO := Lib.hid h.on
 have hle := h.E.le
 have hbw : b < W.heap.size := Nat.lt_of_lt_of_le h.E.hb h.on.size
 have i64 : IntKind.wrap .i64 ((i : Int) + 1) = (a0 : Int) := by rw [IntWalk.i64_in _ (by omega)]; omega
 obtain ⟨d0, d1, d2, d3⟩ := hNA
 obtain ⟨op, nn, s, t⟩ := n
 have ho : op = 12 := ho
 subst ho
 dsimp only at d0 d1 d2 d3
 clear h hi hd0 hws hq ha0 ha1 hd1 ht0 ha2 hd2 ht1
 go_enter Tryz.func26, Tryz.ntmps26
 go_wp2_with fail
 have HXa := Lib.hid (Blk.new W 29 #[.int .i64 12, .int .i64 nn, .string s, .string t])
 have hx : RowKit.Below W.heap.size W (W.alloc (.cells #[.int .i64 12, .int .i64 nn, .string s, .string t] 29)) := by (repeat (first | assumption | exact Below.refl _ _ | apply Below.drew | apply below_drewN | (refine Below.alloc ?_ (by first | exact Nat.le_refl _ | omega | (simp; done) | (simp; omega)) _)))
 generalize (W.alloc (.cells #[.int .i64 12, .int .i64 nn, .string s, .string t] 29)) = wa at HXa hx ⊢
 have HBa := Lib.hid hx
 have HOa := Lib.hid (HO.out.trans (hx.mono HO.out.size))
 clear hx d0 d1 d2 d3 HO
 have k0 : wa.cell? ⟨W.heap.size, 0, none⟩ = some (.int .i64 12) := HXa.out.cell 0
 have k2 : wa.cell? ⟨W.heap.size, 2, none⟩ = some (.string s) := HXa.out.cell 2
 refine (HL.out wa).mono ?_
 rintro r w0 ⟨rfl, b0⟩
 have HB0 := Lib.hid (HBa.out.trans (b0.mono HBa.out.size))
 have HO0 := Lib.hid (HOa.out.trans (b0.mono HOa.out.size))
 have HX0 := Lib.hid (HXa.out.below b0 HXa.out.lt)
 clear b0 HBa HOa HXa k0 k2
 have k0 : w0.cell? ⟨W.heap.size, 0, none⟩ = some (.int .i64 12) := HX0.out.cell 0
 have k2 : w0.cell? ⟨W.heap.size, 2, none⟩ = some (.string s) := HX0.out.cell 2
 go_wp2_with fail
 refine (HP0.out w0 HO0.out).mono ?_
 rintro r w1 ⟨A1, c1, rfl, h1, m1, s1, b1⟩
 have HB1 := Lib.hid (HB0.out.trans (b1.mono HB0.out.size))
 have HO1 := Lib.hid (HO0.out.trans (b1.mono HO0.out.size))
 have HX1 := Lib.hid (HX0.out.below b1 HX0.out.lt)
 clear b1 HB0 HO0 HX0 k0 k2
 have k0 : w1.cell? ⟨W.heap.size, 0, none⟩ = some (.int .i64 12) := HX1.out.cell 0
 have k2 : w1.cell? ⟨W.heap.size, 2, none⟩ = some (.string s) := HX1.out.cell 2
 have HS1 := Lib.hid s1
 clear s1
 go_wp2_with fail
 refine (HP1.out w1 HO1.out).mono ?_
 rintro r w2 ⟨A2, c2, rfl, h2, m2, s2, b2⟩
 have HB2 := Lib.hid (HB1.out.trans (b2.mono HB1.out.size))
 have HO2 := Lib.hid (HO1.out.trans (b2.mono HO1.out.size))
 have HX2 := Lib.hid (HX1.out.below b2 HX1.out.lt)
 have HS1_2 := Lib.hid ((HS1.out.below b2).more b2.size)
 clear b2 HB1 HO1 HX1 HS1 k0 k2
 have k0 : w2.cell? ⟨W.heap.size, 0, none⟩ = some (.int .i64 12) := HX2.out.cell 0
 have k2 : w2.cell? ⟨W.heap.size, 2, none⟩ = some (.string s) := HX2.out.cell 2
 have HS2 := Lib.hid s2
 clear s2
 go_wp2_with fail
 refine (r2_signOf 0 (by decide) w2).mono ?_
 rintro r w3 ⟨A3, c3, rfl, h3, m3, s3, b3⟩
 have HB3 := Lib.hid (HB2.out.trans (b3.mono HB2.out.size))
 have HO3 := Lib.hid (HO2.out.trans (b3.mono HO2.out.size))
 have HX3 := Lib.hid (HX2.out.below b3 HX2.out.lt)
 have HS1_2_3 := Lib.hid ((HS1_2.out.below b3).more b3.size)
 have HS2_3 := Lib.hid ((HS2.out.below b3).more b3.size)
 clear b3 HB2 HO2 HX2 HS1_2 HS2 k0 k2
 have k0 : w3.cell? ⟨W.heap.size, 0, none⟩ = some (.int .i64 12) := HX3.out.cell 0
 have k2 : w3.cell? ⟨W.heap.size, 2, none⟩ = some (.string s) := HX3.out.cell 2
 have HS3 := Lib.hid s3
 clear s3
 go_wp2_with fail
 refine Calls.mono (r2_gluedN ([nmdW (btwW (opV 0))]) (t1) A3 A2 c3 c2 w3 HS3.out HS2_3.out (by first | omega | (simp; done) | (simp; omega)) (by first | omega | (simp; done) | (simp; omega)) (by first | omega | (simp; done) | (simp; omega))) ?_
 rintro r w4 ⟨A4, c4, rfl, h4, m4, s4, b4⟩
 have HB4 := Lib.hid (HB3.out.trans (b4.mono HB3.out.size))
 have HO4 := Lib.hid (HO3.out.trans (b4.mono HO3.out.size))
 have HX4 := Lib.hid (HX3.out.below b4 HX3.out.lt)
 have HS1_2_3_4 := Lib.hid ((HS1_2_3.out.below b4).more b4.size)
 clear b4 HB3 HO3 HX3 HS1_2_3 k0 k2
 have k0 : w4.cell? ⟨W.heap.size, 0, none⟩ = some (.int .i64 12) := HX4.out.cell 0
 have k2 : w4.cell? ⟨W.heap.size, 2, none⟩ = some (.string s) := HX4.out.cell 2
 have HS4 := Lib.hid s4
 clear s4
 go_wp2_with fail
 refine Calls.mono (r2_gluedN (t0) (([nmdW (btwW (opV 0))]) ++ (t1)) A1 A4 c1 c4 w4 HS1_2_3_4.out HS4.out (by first | omega | (simp; done) | (simp; omega)) (by first | omega | (simp; done) | (simp; omega)) (by first | omega | (simp; done) | (simp; omega))) ?_
 rintro r w5 ⟨A5, c5, rfl, h5, m5, s5, b5⟩
 have HB5 := Lib.hid (HB4.out.trans (b5.mono HB4.out.size))
 have HO5 := Lib.hid (HO4.out.trans (b5.mono HO4.out.size))
 have HX5 := Lib.hid (HX4.out.below b5 HX4.out.lt)
 clear b5 HB4 HO4 HX4 k0 k2
 have k0 : w5.cell? ⟨W.heap.size, 0, none⟩ = some (.int .i64 12) := HX5.out.cell 0
 have k2 : w5.cell? ⟨W.heap.size, 2, none⟩ = some (.string s) := HX5.out.cell 2
 have HS5 := Lib.hid s5
 clear s5
 go_wp2_with fail
 refine bodyPost_ret (results_tmp2 rfl _ _ _) rfl ?_
 exact WBack.of (us := (t0) ++ (([nmdW (btwW (opV 0))]) ++ (t1))) (by first | (rw [← HQ.out]; done) | (rw [← HQ.out]; simp only [List.cons_append, List.nil_append] <;> rfl)) (by first | omega | (simp; done) | (simp; omega)) rfl h5 m5 HS5.out HB5.out
set_option maxHeartbeats 6400000 in
theorem wo_11 {e : List Nd} {b o c N i j : Nat} {w0 W : World} {n : Nd} {p0 p1 rest : List Nd} (h : WIn e b o c N w0 W n [p0, p1] rest i j) (ho : n.op = 11) :
   Calls Tryz.prog 26 #[.slice (some ⟨b, o, none⟩) e.length c, .int .i64 i] W fun r w' => WBack W r w' (nodeT n [p0, p1]) j := by
 obtain ⟨hi, hlt, hd0⟩ := drop_at h.at_
 have hNA := h.E.node h.on hi
 have HL := Lib.hid (fun W' => wo_level h.sh h.h7 ho (l := 2) (by rfl) W')
 obtain ⟨a0, ha0⟩ : ∃ a, i + 1 = a := ⟨_, rfl⟩
 obtain ⟨a1, ha1⟩ : ∃ a, a0 + p0.length = a := ⟨_, rfl⟩
 obtain ⟨a2, ha2⟩ : ∃ a, a1 + p1.length = a := ⟨_, rfl⟩
 have hd1 : e.drop a0 = p0 ++ (p1 ++ (rest)) := by rw [← ha0, hd0]; simp
 have hd2 : e.drop a1 = p1 ++ (rest) := by rw [← ha1]; exact drop_app hd1
 have HP0 := Lib.hid (fun W' (hb : RowKit.Below w0.heap.size w0 W') => r2_Part (l := 2) h.E h.ok W' (h.parts p0 (by simp)).1 (h.parts p0 (by simp)).2.1 (h.parts p0 (by simp)).2.2 hd1 ha1 hb)
 have q0 := part_bound (2) (h.parts p0 (by simp)).2.1 hd1 h.E.le
 have HP1 := Lib.hid (fun W' (hb : RowKit.Below w0.heap.size w0 W') => r2_Part (l := 3) h.E h.ok W' (h.parts p1 (by simp)).1 (h.parts p1 (by simp)).2.1 (h.parts p1 (by simp)).2.2 hd2 ha2 hb)
 have q1 := part_bound (3) (h.parts p1 (by simp)).2.1 hd2 h.E.le
 obtain rfl : a2 = j := by have := h.en; simp at this; omega
 obtain ⟨ws, hws⟩ : ∃ ws, nodeT n [p0, p1] = ws := ⟨_, rfl⟩
 have hq : partT (2) p0 ++ tSg (btwW 11) :: partT (3) p1 = ws := by rw [← hws]; unfold nodeT; simp [ho, lvlW]
 obtain ⟨t0, ht0⟩ : ∃ t, partT (2) p0 = t := ⟨_, rfl⟩
 rw [ht0] at HP0 q0 hq
 obtain ⟨t1, ht1⟩ : ∃ t, partT (3) p1 = t := ⟨_, rfl⟩
 rw [ht1] at HP1 q1 hq
 have HQ := Lib.hid hq
 rw [hws]
 have HO := Lib.hid h.on
 have hle := h.E.le
 have hbw : b < W.heap.size := Nat.lt_of_lt_of_le h.E.hb h.on.size
 have i64 : IntKind.wrap .i64 ((i : Int) + 1) = (a0 : Int) := by rw [IntWalk.i64_in _ (by omega)]; omega
 obtain ⟨d0, d1, d2, d3⟩ := hNA
 obtain ⟨op, nn, s, t⟩ := n
 have ho : op = 11 := ho
 subst ho
 dsimp only at d0 d1 d2 d3
 clear h hi hd0 hws hq ha0 ha1 hd1 ht0 ha2 hd2 ht1
 go_enter Tryz.func26, Tryz.ntmps26
 go_wp2_with fail
 have HXa := Lib.hid (Blk.new W 29 #[.int .i64 11, .int .i64 nn, .string s, .string t])
 have hx : RowKit.Below W.heap.size W (W.alloc (.cells #[.int .i64 11, .int .i64 nn, .string s, .string t] 29)) := by (repeat (first | assumption | exact Below.refl _ _ | apply Below.drew | apply below_drewN | (refine Below.alloc ?_ (by first | exact Nat.le_refl _ | omega | (simp; done) | (simp; omega)) _)))
 generalize (W.alloc (.cells #[.int .i64 11, .int .i64 nn, .string s, .string t] 29)) = wa at HXa hx ⊢
 have HBa := Lib.hid hx
 have HOa := Lib.hid (HO.out.trans (hx.mono HO.out.size))
 clear hx d0 d1 d2 d3 HO
 have k0 : wa.cell? ⟨W.heap.size, 0, none⟩ = some (.int .i64 11) := HXa.out.cell 0
 have k2 : wa.cell? ⟨W.heap.size, 2, none⟩ = some (.string s) := HXa.out.cell 2
 refine (HL.out wa).mono ?_
 rintro r w0 ⟨rfl, b0⟩
 have HB0 := Lib.hid (HBa.out.trans (b0.mono HBa.out.size))
 have HO0 := Lib.hid (HOa.out.trans (b0.mono HOa.out.size))
 have HX0 := Lib.hid (HXa.out.below b0 HXa.out.lt)
 clear b0 HBa HOa HXa k0 k2
 have k0 : w0.cell? ⟨W.heap.size, 0, none⟩ = some (.int .i64 11) := HX0.out.cell 0
 have k2 : w0.cell? ⟨W.heap.size, 2, none⟩ = some (.string s) := HX0.out.cell 2
 go_wp2_with fail
 refine (HP0.out w0 HO0.out).mono ?_
 rintro r w1 ⟨A1, c1, rfl, h1, m1, s1, b1⟩
 have HB1 := Lib.hid (HB0.out.trans (b1.mono HB0.out.size))
 have HO1 := Lib.hid (HO0.out.trans (b1.mono HO0.out.size))
 have HX1 := Lib.hid (HX0.out.below b1 HX0.out.lt)
 clear b1 HB0 HO0 HX0 k0 k2
 have k0 : w1.cell? ⟨W.heap.size, 0, none⟩ = some (.int .i64 11) := HX1.out.cell 0
 have k2 : w1.cell? ⟨W.heap.size, 2, none⟩ = some (.string s) := HX1.out.cell 2
 have HS1 := Lib.hid s1
 clear s1
 go_wp2_with fail
 refine (HP1.out w1 HO1.out).mono ?_
 rintro r w2 ⟨A2, c2, rfl, h2, m2, s2, b2⟩
 have HB2 := Lib.hid (HB1.out.trans (b2.mono HB1.out.size))
 have HO2 := Lib.hid (HO1.out.trans (b2.mono HO1.out.size))
 have HX2 := Lib.hid (HX1.out.below b2 HX1.out.lt)
 have HS1_2 := Lib.hid ((HS1.out.below b2).more b2.size)
 clear b2 HB1 HO1 HX1 HS1 k0 k2
 have k0 : w2.cell? ⟨W.heap.size, 0, none⟩ = some (.int .i64 11) := HX2.out.cell 0
 have k2 : w2.cell? ⟨W.heap.size, 2, none⟩ = some (.string s) := HX2.out.cell 2
 have HS2 := Lib.hid s2
 clear s2
 go_wp2_with fail
 refine (r2_signOf 1 (by decide) w2).mono ?_
 rintro r w3 ⟨A3, c3, rfl, h3, m3, s3, b3⟩
 have HB3 := Lib.hid (HB2.out.trans (b3.mono HB2.out.size))
 have HO3 := Lib.hid (HO2.out.trans (b3.mono HO2.out.size))
 have HX3 := Lib.hid (HX2.out.below b3 HX2.out.lt)
 have HS1_2_3 := Lib.hid ((HS1_2.out.below b3).more b3.size)
 have HS2_3 := Lib.hid ((HS2.out.below b3).more b3.size)
 clear b3 HB2 HO2 HX2 HS1_2 HS2 k0 k2
 have k0 : w3.cell? ⟨W.heap.size, 0, none⟩ = some (.int .i64 11) := HX3.out.cell 0
 have k2 : w3.cell? ⟨W.heap.size, 2, none⟩ = some (.string s) := HX3.out.cell 2
 have HS3 := Lib.hid s3
 clear s3
 go_wp2_with fail
 refine Calls.mono (r2_gluedN ([nmdW (btwW (opV 1))]) (t1) A3 A2 c3 c2 w3 HS3.out HS2_3.out (by first | omega | (simp; done) | (simp; omega)) (by first | omega | (simp; done) | (simp; omega)) (by first | omega | (simp; done) | (simp; omega))) ?_
 rintro r w4 ⟨A4, c4, rfl, h4, m4, s4, b4⟩
 have HB4 := Lib.hid (HB3.out.trans (b4.mono HB3.out.size))
 have HO4 := Lib.hid (HO3.out.trans (b4.mono HO3.out.size))
 have HX4 := Lib.hid (HX3.out.below b4 HX3.out.lt)
 have HS1_2_3_4 := Lib.hid ((HS1_2_3.out.below b4).more b4.size)
 clear b4 HB3 HO3 HX3 HS1_2_3 k0 k2
 have k0 : w4.cell? ⟨W.heap.size, 0, none⟩ = some (.int .i64 11) := HX4.out.cell 0
 have k2 : w4.cell? ⟨W.heap.size, 2, none⟩ = some (.string s) := HX4.out.cell 2
 have HS4 := Lib.hid s4
 clear s4
 go_wp2_with fail
 refine Calls.mono (r2_gluedN (t0) (([nmdW (btwW (opV 1))]) ++ (t1)) A1 A4 c1 c4 w4 HS1_2_3_4.out HS4.out (by first | omega | (simp; done) | (simp; omega)) (by first | omega | (simp; done) | (simp; omega)) (by first | omega | (simp; done) | (simp; omega))) ?_
 rintro r w5 ⟨A5, c5, rfl, h5, m5, s5, b5⟩
 have HB5 := Lib.hid (HB4.out.trans (b5.mono HB4.out.size))
 have HO5 := Lib.hid (HO4.out.trans (b5.mono HO4.out.size))
 have HX5 := Lib.hid (HX4.out.below b5 HX4.out.lt)
 clear b5 HB4 HO4 HX4 k0 k2
 have k0 : w5.cell? ⟨W.heap.size, 0, none⟩ = some (.int .i64 11) := HX5.out.cell 0
 have k2 : w5.cell? ⟨W.heap.size, 2, none⟩ = some (.string s) := HX5.out.cell 2
 have HS5 := Lib.hid s5
 clear s5
 go_wp2_with fail
 refine bodyPost_ret (results_tmp2 rfl _ _ _) rfl ?_
 exact WBack.of (us := (t0) ++ (([nmdW (btwW (opV 1))]) ++ (t1))) (by first | (rw [← HQ.out]; done) | (rw [← HQ.out]; simp only [List.cons_append, List.nil_append] <;> rfl)) (by first | omega | (simp; done) | (simp; omega)) rfl h5 m5 HS5.out HB5.out
set_option maxHeartbeats 6400000 in
theorem wo_17 {e : List Nd} {b o c N i j : Nat} {w0 W : World} {n : Nd} {p0 p1 rest : List Nd} (h : WIn e b o c N w0 W n [p0, p1] rest i j) (ho : n.op = 17) :
   Calls Tryz.prog 26 #[.slice (some ⟨b, o, none⟩) e.length c, .int .i64 i] W fun r w' => WBack W r w' (nodeT n [p0, p1]) j := by
 obtain ⟨hi, hlt, hd0⟩ := drop_at h.at_
 have hNA := h.E.node h.on hi
 have HL := Lib.hid (fun W' => wo_level h.sh h.h7 ho (l := 4) (by rfl) W')
 obtain ⟨a0, ha0⟩ : ∃ a, i + 1 = a := ⟨_, rfl⟩
 obtain ⟨a1, ha1⟩ : ∃ a, a0 + p0.length = a := ⟨_, rfl⟩
 obtain ⟨a2, ha2⟩ : ∃ a, a1 + p1.length = a := ⟨_, rfl⟩
 have hd1 : e.drop a0 = p0 ++ (p1 ++ (rest)) := by rw [← ha0, hd0]; simp
 have hd2 : e.drop a1 = p1 ++ (rest) := by rw [← ha1]; exact drop_app hd1
 have HP0 := Lib.hid (fun W' (hb : RowKit.Below w0.heap.size w0 W') => r2_Part (l := 4) h.E h.ok W' (h.parts p0 (by simp)).1 (h.parts p0 (by simp)).2.1 (h.parts p0 (by simp)).2.2 hd1 ha1 hb)
 have q0 := part_bound (4) (h.parts p0 (by simp)).2.1 hd1 h.E.le
 have HP1 := Lib.hid (fun W' (hb : RowKit.Below w0.heap.size w0 W') => r2_Part (l := 5) h.E h.ok W' (h.parts p1 (by simp)).1 (h.parts p1 (by simp)).2.1 (h.parts p1 (by simp)).2.2 hd2 ha2 hb)
 have q1 := part_bound (5) (h.parts p1 (by simp)).2.1 hd2 h.E.le
 obtain rfl : a2 = j := by have := h.en; simp at this; omega
 obtain ⟨ws, hws⟩ : ∃ ws, nodeT n [p0, p1] = ws := ⟨_, rfl⟩
 have hq : partT (4) p0 ++ tSg (btwW 17) :: partT (5) p1 = ws := by rw [← hws]; unfold nodeT; simp [ho, lvlW]
 obtain ⟨t0, ht0⟩ : ∃ t, partT (4) p0 = t := ⟨_, rfl⟩
 rw [ht0] at HP0 q0 hq
 obtain ⟨t1, ht1⟩ : ∃ t, partT (5) p1 = t := ⟨_, rfl⟩
 rw [ht1] at HP1 q1 hq
 have HQ := Lib.hid hq
 rw [hws]
 have HO := Lib.hid h.on
 have hle := h.E.le
 have hbw : b < W.heap.size := Nat.lt_of_lt_of_le h.E.hb h.on.size
 have i64 : IntKind.wrap .i64 ((i : Int) + 1) = (a0 : Int) := by rw [IntWalk.i64_in _ (by omega)]; omega
 obtain ⟨d0, d1, d2, d3⟩ := hNA
 obtain ⟨op, nn, s, t⟩ := n
 have ho : op = 17 := ho
 subst ho
 dsimp only at d0 d1 d2 d3
 clear h hi hd0 hws hq ha0 ha1 hd1 ht0 ha2 hd2 ht1
 go_enter Tryz.func26, Tryz.ntmps26
 go_wp2_with fail
 have HXa := Lib.hid (Blk.new W 29 #[.int .i64 17, .int .i64 nn, .string s, .string t])
 have hx : RowKit.Below W.heap.size W (W.alloc (.cells #[.int .i64 17, .int .i64 nn, .string s, .string t] 29)) := by (repeat (first | assumption | exact Below.refl _ _ | apply Below.drew | apply below_drewN | (refine Below.alloc ?_ (by first | exact Nat.le_refl _ | omega | (simp; done) | (simp; omega)) _)))
 generalize (W.alloc (.cells #[.int .i64 17, .int .i64 nn, .string s, .string t] 29)) = wa at HXa hx ⊢
 have HBa := Lib.hid hx
 have HOa := Lib.hid (HO.out.trans (hx.mono HO.out.size))
 clear hx d0 d1 d2 d3 HO
 have k0 : wa.cell? ⟨W.heap.size, 0, none⟩ = some (.int .i64 17) := HXa.out.cell 0
 have k2 : wa.cell? ⟨W.heap.size, 2, none⟩ = some (.string s) := HXa.out.cell 2
 refine (HL.out wa).mono ?_
 rintro r w0 ⟨rfl, b0⟩
 have HB0 := Lib.hid (HBa.out.trans (b0.mono HBa.out.size))
 have HO0 := Lib.hid (HOa.out.trans (b0.mono HOa.out.size))
 have HX0 := Lib.hid (HXa.out.below b0 HXa.out.lt)
 clear b0 HBa HOa HXa k0 k2
 have k0 : w0.cell? ⟨W.heap.size, 0, none⟩ = some (.int .i64 17) := HX0.out.cell 0
 have k2 : w0.cell? ⟨W.heap.size, 2, none⟩ = some (.string s) := HX0.out.cell 2
 go_wp2_with fail
 refine (HP0.out w0 HO0.out).mono ?_
 rintro r w1 ⟨A1, c1, rfl, h1, m1, s1, b1⟩
 have HB1 := Lib.hid (HB0.out.trans (b1.mono HB0.out.size))
 have HO1 := Lib.hid (HO0.out.trans (b1.mono HO0.out.size))
 have HX1 := Lib.hid (HX0.out.below b1 HX0.out.lt)
 clear b1 HB0 HO0 HX0 k0 k2
 have k0 : w1.cell? ⟨W.heap.size, 0, none⟩ = some (.int .i64 17) := HX1.out.cell 0
 have k2 : w1.cell? ⟨W.heap.size, 2, none⟩ = some (.string s) := HX1.out.cell 2
 have HS1 := Lib.hid s1
 clear s1
 go_wp2_with fail
 refine (HP1.out w1 HO1.out).mono ?_
 rintro r w2 ⟨A2, c2, rfl, h2, m2, s2, b2⟩
 have HB2 := Lib.hid (HB1.out.trans (b2.mono HB1.out.size))
 have HO2 := Lib.hid (HO1.out.trans (b2.mono HO1.out.size))
 have HX2 := Lib.hid (HX1.out.below b2 HX1.out.lt)
 have HS1_2 := Lib.hid ((HS1.out.below b2).more b2.size)
 clear b2 HB1 HO1 HX1 HS1 k0 k2
 have k0 : w2.cell? ⟨W.heap.size, 0, none⟩ = some (.int .i64 17) := HX2.out.cell 0
 have k2 : w2.cell? ⟨W.heap.size, 2, none⟩ = some (.string s) := HX2.out.cell 2
 have HS2 := Lib.hid s2
 clear s2
 go_wp2_with fail
 refine (r2_signOf 6 (by decide) w2).mono ?_
 rintro r w3 ⟨A3, c3, rfl, h3, m3, s3, b3⟩
 have HB3 := Lib.hid (HB2.out.trans (b3.mono HB2.out.size))
 have HO3 := Lib.hid (HO2.out.trans (b3.mono HO2.out.size))
 have HX3 := Lib.hid (HX2.out.below b3 HX2.out.lt)
 have HS1_2_3 := Lib.hid ((HS1_2.out.below b3).more b3.size)
 have HS2_3 := Lib.hid ((HS2.out.below b3).more b3.size)
 clear b3 HB2 HO2 HX2 HS1_2 HS2 k0 k2
 have k0 : w3.cell? ⟨W.heap.size, 0, none⟩ = some (.int .i64 17) := HX3.out.cell 0
 have k2 : w3.cell? ⟨W.heap.size, 2, none⟩ = some (.string s) := HX3.out.cell 2
 have HS3 := Lib.hid s3
 clear s3
 go_wp2_with fail
 refine Calls.mono (r2_gluedN ([nmdW (btwW (opV 6))]) (t1) A3 A2 c3 c2 w3 HS3.out HS2_3.out (by first | omega | (simp; done) | (simp; omega)) (by first | omega | (simp; done) | (simp; omega)) (by first | omega | (simp; done) | (simp; omega))) ?_
 rintro r w4 ⟨A4, c4, rfl, h4, m4, s4, b4⟩
 have HB4 := Lib.hid (HB3.out.trans (b4.mono HB3.out.size))
 have HO4 := Lib.hid (HO3.out.trans (b4.mono HO3.out.size))
 have HX4 := Lib.hid (HX3.out.below b4 HX3.out.lt)
 have HS1_2_3_4 := Lib.hid ((HS1_2_3.out.below b4).more b4.size)
 clear b4 HB3 HO3 HX3 HS1_2_3 k0 k2
 have k0 : w4.cell? ⟨W.heap.size, 0, none⟩ = some (.int .i64 17) := HX4.out.cell 0
 have k2 : w4.cell? ⟨W.heap.size, 2, none⟩ = some (.string s) := HX4.out.cell 2
 have HS4 := Lib.hid s4
 clear s4
 go_wp2_with fail
 refine Calls.mono (r2_gluedN (t0) (([nmdW (btwW (opV 6))]) ++ (t1)) A1 A4 c1 c4 w4 HS1_2_3_4.out HS4.out (by first | omega | (simp; done) | (simp; omega)) (by first | omega | (simp; done) | (simp; omega)) (by first | omega | (simp; done) | (simp; omega))) ?_
 rintro r w5 ⟨A5, c5, rfl, h5, m5, s5, b5⟩
 have HB5 := Lib.hid (HB4.out.trans (b5.mono HB4.out.size))
 have HO5 := Lib.hid (HO4.out.trans (b5.mono HO4.out.size))
 have HX5 := Lib.hid (HX4.out.below b5 HX4.out.lt)
 clear b5 HB4 HO4 HX4 k0 k2
 have k0 : w5.cell? ⟨W.heap.size, 0, none⟩ = some (.int .i64 17) := HX5.out.cell 0
 have k2 : w5.cell? ⟨W.heap.size, 2, none⟩ = some (.string s) := HX5.out.cell 2
 have HS5 := Lib.hid s5
 clear s5
 go_wp2_with fail
 refine bodyPost_ret (results_tmp2 rfl _ _ _) rfl ?_
 exact WBack.of (us := (t0) ++ (([nmdW (btwW (opV 6))]) ++ (t1))) (by first | (rw [← HQ.out]; done) | (rw [← HQ.out]; simp only [List.cons_append, List.nil_append] <;> rfl)) (by first | omega | (simp; done) | (simp; omega)) rfl h5 m5 HS5.out HB5.out
set_option maxHeartbeats 6400000 in
theorem wo_18 {e : List Nd} {b o c N i j : Nat} {w0 W : World} {n : Nd} {p0 p1 rest : List Nd} (h : WIn e b o c N w0 W n [p0, p1] rest i j) (ho : n.op = 18) :
   Calls Tryz.prog 26 #[.slice (some ⟨b, o, none⟩) e.length c, .int .i64 i] W fun r w' => WBack W r w' (nodeT n [p0, p1]) j := by
 obtain ⟨hi, hlt, hd0⟩ := drop_at h.at_
 have hNA := h.E.node h.on hi
 have HL := Lib.hid (fun W' => wo_level h.sh h.h7 ho (l := 4) (by rfl) W')
 obtain ⟨a0, ha0⟩ : ∃ a, i + 1 = a := ⟨_, rfl⟩
 obtain ⟨a1, ha1⟩ : ∃ a, a0 + p0.length = a := ⟨_, rfl⟩
 obtain ⟨a2, ha2⟩ : ∃ a, a1 + p1.length = a := ⟨_, rfl⟩
 have hd1 : e.drop a0 = p0 ++ (p1 ++ (rest)) := by rw [← ha0, hd0]; simp
 have hd2 : e.drop a1 = p1 ++ (rest) := by rw [← ha1]; exact drop_app hd1
 have HP0 := Lib.hid (fun W' (hb : RowKit.Below w0.heap.size w0 W') => r2_Part (l := 4) h.E h.ok W' (h.parts p0 (by simp)).1 (h.parts p0 (by simp)).2.1 (h.parts p0 (by simp)).2.2 hd1 ha1 hb)
 have q0 := part_bound (4) (h.parts p0 (by simp)).2.1 hd1 h.E.le
 have HP1 := Lib.hid (fun W' (hb : RowKit.Below w0.heap.size w0 W') => r2_Part (l := 5) h.E h.ok W' (h.parts p1 (by simp)).1 (h.parts p1 (by simp)).2.1 (h.parts p1 (by simp)).2.2 hd2 ha2 hb)
 have q1 := part_bound (5) (h.parts p1 (by simp)).2.1 hd2 h.E.le
 obtain rfl : a2 = j := by have := h.en; simp at this; omega
 obtain ⟨ws, hws⟩ : ∃ ws, nodeT n [p0, p1] = ws := ⟨_, rfl⟩
 have hq : partT (4) p0 ++ tSg (btwW 18) :: partT (5) p1 = ws := by rw [← hws]; unfold nodeT; simp [ho, lvlW]
 obtain ⟨t0, ht0⟩ : ∃ t, partT (4) p0 = t := ⟨_, rfl⟩
 rw [ht0] at HP0 q0 hq
 obtain ⟨t1, ht1⟩ : ∃ t, partT (5) p1 = t := ⟨_, rfl⟩
 rw [ht1] at HP1 q1 hq
 have HQ := Lib.hid hq
 rw [hws]
 have HO := Lib.hid h.on
 have hle := h.E.le
 have hbw : b < W.heap.size := Nat.lt_of_lt_of_le h.E.hb h.on.size
 have i64 : IntKind.wrap .i64 ((i : Int) + 1) = (a0 : Int) := by rw [IntWalk.i64_in _ (by omega)]; omega
 obtain ⟨d0, d1, d2, d3⟩ := hNA
 obtain ⟨op, nn, s, t⟩ := n
 have ho : op = 18 := ho
 subst ho
 dsimp only at d0 d1 d2 d3
 clear h hi hd0 hws hq ha0 ha1 hd1 ht0 ha2 hd2 ht1
 go_enter Tryz.func26, Tryz.ntmps26
 go_wp2_with fail
 have HXa := Lib.hid (Blk.new W 29 #[.int .i64 18, .int .i64 nn, .string s, .string t])
 have hx : RowKit.Below W.heap.size W (W.alloc (.cells #[.int .i64 18, .int .i64 nn, .string s, .string t] 29)) := by (repeat (first | assumption | exact Below.refl _ _ | apply Below.drew | apply below_drewN | (refine Below.alloc ?_ (by first | exact Nat.le_refl _ | omega | (simp; done) | (simp; omega)) _)))
 generalize (W.alloc (.cells #[.int .i64 18, .int .i64 nn, .string s, .string t] 29)) = wa at HXa hx ⊢
 have HBa := Lib.hid hx
 have HOa := Lib.hid (HO.out.trans (hx.mono HO.out.size))
 clear hx d0 d1 d2 d3 HO
 have k0 : wa.cell? ⟨W.heap.size, 0, none⟩ = some (.int .i64 18) := HXa.out.cell 0
 have k2 : wa.cell? ⟨W.heap.size, 2, none⟩ = some (.string s) := HXa.out.cell 2
 refine (HL.out wa).mono ?_
 rintro r w0 ⟨rfl, b0⟩
 have HB0 := Lib.hid (HBa.out.trans (b0.mono HBa.out.size))
 have HO0 := Lib.hid (HOa.out.trans (b0.mono HOa.out.size))
 have HX0 := Lib.hid (HXa.out.below b0 HXa.out.lt)
 clear b0 HBa HOa HXa k0 k2
 have k0 : w0.cell? ⟨W.heap.size, 0, none⟩ = some (.int .i64 18) := HX0.out.cell 0
 have k2 : w0.cell? ⟨W.heap.size, 2, none⟩ = some (.string s) := HX0.out.cell 2
 go_wp2_with fail
 refine (HP0.out w0 HO0.out).mono ?_
 rintro r w1 ⟨A1, c1, rfl, h1, m1, s1, b1⟩
 have HB1 := Lib.hid (HB0.out.trans (b1.mono HB0.out.size))
 have HO1 := Lib.hid (HO0.out.trans (b1.mono HO0.out.size))
 have HX1 := Lib.hid (HX0.out.below b1 HX0.out.lt)
 clear b1 HB0 HO0 HX0 k0 k2
 have k0 : w1.cell? ⟨W.heap.size, 0, none⟩ = some (.int .i64 18) := HX1.out.cell 0
 have k2 : w1.cell? ⟨W.heap.size, 2, none⟩ = some (.string s) := HX1.out.cell 2
 have HS1 := Lib.hid s1
 clear s1
 go_wp2_with fail
 refine (HP1.out w1 HO1.out).mono ?_
 rintro r w2 ⟨A2, c2, rfl, h2, m2, s2, b2⟩
 have HB2 := Lib.hid (HB1.out.trans (b2.mono HB1.out.size))
 have HO2 := Lib.hid (HO1.out.trans (b2.mono HO1.out.size))
 have HX2 := Lib.hid (HX1.out.below b2 HX1.out.lt)
 have HS1_2 := Lib.hid ((HS1.out.below b2).more b2.size)
 clear b2 HB1 HO1 HX1 HS1 k0 k2
 have k0 : w2.cell? ⟨W.heap.size, 0, none⟩ = some (.int .i64 18) := HX2.out.cell 0
 have k2 : w2.cell? ⟨W.heap.size, 2, none⟩ = some (.string s) := HX2.out.cell 2
 have HS2 := Lib.hid s2
 clear s2
 go_wp2_with fail
 refine (r2_signOf 7 (by decide) w2).mono ?_
 rintro r w3 ⟨A3, c3, rfl, h3, m3, s3, b3⟩
 have HB3 := Lib.hid (HB2.out.trans (b3.mono HB2.out.size))
 have HO3 := Lib.hid (HO2.out.trans (b3.mono HO2.out.size))
 have HX3 := Lib.hid (HX2.out.below b3 HX2.out.lt)
 have HS1_2_3 := Lib.hid ((HS1_2.out.below b3).more b3.size)
 have HS2_3 := Lib.hid ((HS2.out.below b3).more b3.size)
 clear b3 HB2 HO2 HX2 HS1_2 HS2 k0 k2
 have k0 : w3.cell? ⟨W.heap.size, 0, none⟩ = some (.int .i64 18) := HX3.out.cell 0
 have k2 : w3.cell? ⟨W.heap.size, 2, none⟩ = some (.string s) := HX3.out.cell 2
 have HS3 := Lib.hid s3
 clear s3
 go_wp2_with fail
 refine Calls.mono (r2_gluedN ([nmdW (btwW (opV 7))]) (t1) A3 A2 c3 c2 w3 HS3.out HS2_3.out (by first | omega | (simp; done) | (simp; omega)) (by first | omega | (simp; done) | (simp; omega)) (by first | omega | (simp; done) | (simp; omega))) ?_
 rintro r w4 ⟨A4, c4, rfl, h4, m4, s4, b4⟩
 have HB4 := Lib.hid (HB3.out.trans (b4.mono HB3.out.size))
 have HO4 := Lib.hid (HO3.out.trans (b4.mono HO3.out.size))
 have HX4 := Lib.hid (HX3.out.below b4 HX3.out.lt)
 have HS1_2_3_4 := Lib.hid ((HS1_2_3.out.below b4).more b4.size)
 clear b4 HB3 HO3 HX3 HS1_2_3 k0 k2
 have k0 : w4.cell? ⟨W.heap.size, 0, none⟩ = some (.int .i64 18) := HX4.out.cell 0
 have k2 : w4.cell? ⟨W.heap.size, 2, none⟩ = some (.string s) := HX4.out.cell 2
 have HS4 := Lib.hid s4
 clear s4
 go_wp2_with fail
 refine Calls.mono (r2_gluedN (t0) (([nmdW (btwW (opV 7))]) ++ (t1)) A1 A4 c1 c4 w4 HS1_2_3_4.out HS4.out (by first | omega | (simp; done) | (simp; omega)) (by first | omega | (simp; done) | (simp; omega)) (by first | omega | (simp; done) | (simp; omega))) ?_
 rintro r w5 ⟨A5, c5, rfl, h5, m5, s5, b5⟩
 have HB5 := Lib.hid (HB4.out.trans (b5.mono HB4.out.size))
 have HO5 := Lib.hid (HO4.out.trans (b5.mono HO4.out.size))
 have HX5 := Lib.hid (HX4.out.below b5 HX4.out.lt)
 clear b5 HB4 HO4 HX4 k0 k2
 have k0 : w5.cell? ⟨W.heap.size, 0, none⟩ = some (.int .i64 18) := HX5.out.cell 0
 have k2 : w5.cell? ⟨W.heap.size, 2, none⟩ = some (.string s) := HX5.out.cell 2
 have HS5 := Lib.hid s5
 clear s5
 go_wp2_with fail
 refine bodyPost_ret (results_tmp2 rfl _ _ _) rfl ?_
 exact WBack.of (us := (t0) ++ (([nmdW (btwW (opV 7))]) ++ (t1))) (by first | (rw [← HQ.out]; done) | (rw [← HQ.out]; simp only [List.cons_append, List.nil_append] <;> rfl)) (by first | omega | (simp; done) | (simp; omega)) rfl h5 m5 HS5.out HB5.out
set_option maxHeartbeats 6400000 in
theorem wo_19 {e : List Nd} {b o c N i j : Nat} {w0 W : World} {n : Nd} {p0 p1 rest : List Nd} (h : WIn e b o c N w0 W n [p0, p1] rest i j) (ho : n.op = 19) :
   Calls Tryz.prog 26 #[.slice (some ⟨b, o, none⟩) e.length c, .int .i64 i] W fun r w' => WBack W r w' (nodeT n [p0, p1]) j := by
 obtain ⟨hi, hlt, hd0⟩ := drop_at h.at_
 have hNA := h.E.node h.on hi
 have HL := Lib.hid (fun W' => wo_level h.sh h.h7 ho (l := 5) (by rfl) W')
 obtain ⟨a0, ha0⟩ : ∃ a, i + 1 = a := ⟨_, rfl⟩
 obtain ⟨a1, ha1⟩ : ∃ a, a0 + p0.length = a := ⟨_, rfl⟩
 obtain ⟨a2, ha2⟩ : ∃ a, a1 + p1.length = a := ⟨_, rfl⟩
 have hd1 : e.drop a0 = p0 ++ (p1 ++ (rest)) := by rw [← ha0, hd0]; simp
 have hd2 : e.drop a1 = p1 ++ (rest) := by rw [← ha1]; exact drop_app hd1
 have HP0 := Lib.hid (fun W' (hb : RowKit.Below w0.heap.size w0 W') => r2_Part (l := 5) h.E h.ok W' (h.parts p0 (by simp)).1 (h.parts p0 (by simp)).2.1 (h.parts p0 (by simp)).2.2 hd1 ha1 hb)
 have q0 := part_bound (5) (h.parts p0 (by simp)).2.1 hd1 h.E.le
 have HP1 := Lib.hid (fun W' (hb : RowKit.Below w0.heap.size w0 W') => r2_Part (l := 6) h.E h.ok W' (h.parts p1 (by simp)).1 (h.parts p1 (by simp)).2.1 (h.parts p1 (by simp)).2.2 hd2 ha2 hb)
 have q1 := part_bound (6) (h.parts p1 (by simp)).2.1 hd2 h.E.le
 obtain rfl : a2 = j := by have := h.en; simp at this; omega
 obtain ⟨ws, hws⟩ : ∃ ws, nodeT n [p0, p1] = ws := ⟨_, rfl⟩
 have hq : partT (5) p0 ++ tSg (btwW 19) :: partT (6) p1 = ws := by rw [← hws]; unfold nodeT; simp [ho, lvlW]
 obtain ⟨t0, ht0⟩ : ∃ t, partT (5) p0 = t := ⟨_, rfl⟩
 rw [ht0] at HP0 q0 hq
 obtain ⟨t1, ht1⟩ : ∃ t, partT (6) p1 = t := ⟨_, rfl⟩
 rw [ht1] at HP1 q1 hq
 have HQ := Lib.hid hq
 rw [hws]
 have HO := Lib.hid h.on
 have hle := h.E.le
 have hbw : b < W.heap.size := Nat.lt_of_lt_of_le h.E.hb h.on.size
 have i64 : IntKind.wrap .i64 ((i : Int) + 1) = (a0 : Int) := by rw [IntWalk.i64_in _ (by omega)]; omega
 obtain ⟨d0, d1, d2, d3⟩ := hNA
 obtain ⟨op, nn, s, t⟩ := n
 have ho : op = 19 := ho
 subst ho
 dsimp only at d0 d1 d2 d3
 clear h hi hd0 hws hq ha0 ha1 hd1 ht0 ha2 hd2 ht1
 go_enter Tryz.func26, Tryz.ntmps26
 go_wp2_with fail
 have HXa := Lib.hid (Blk.new W 29 #[.int .i64 19, .int .i64 nn, .string s, .string t])
 have hx : RowKit.Below W.heap.size W (W.alloc (.cells #[.int .i64 19, .int .i64 nn, .string s, .string t] 29)) := by (repeat (first | assumption | exact Below.refl _ _ | apply Below.drew | apply below_drewN | (refine Below.alloc ?_ (by first | exact Nat.le_refl _ | omega | (simp; done) | (simp; omega)) _)))
 generalize (W.alloc (.cells #[.int .i64 19, .int .i64 nn, .string s, .string t] 29)) = wa at HXa hx ⊢
 have HBa := Lib.hid hx
 have HOa := Lib.hid (HO.out.trans (hx.mono HO.out.size))
 clear hx d0 d1 d2 d3 HO
 have k0 : wa.cell? ⟨W.heap.size, 0, none⟩ = some (.int .i64 19) := HXa.out.cell 0
 have k2 : wa.cell? ⟨W.heap.size, 2, none⟩ = some (.string s) := HXa.out.cell 2
 refine (HL.out wa).mono ?_
 rintro r w0 ⟨rfl, b0⟩
 have HB0 := Lib.hid (HBa.out.trans (b0.mono HBa.out.size))
 have HO0 := Lib.hid (HOa.out.trans (b0.mono HOa.out.size))
 have HX0 := Lib.hid (HXa.out.below b0 HXa.out.lt)
 clear b0 HBa HOa HXa k0 k2
 have k0 : w0.cell? ⟨W.heap.size, 0, none⟩ = some (.int .i64 19) := HX0.out.cell 0
 have k2 : w0.cell? ⟨W.heap.size, 2, none⟩ = some (.string s) := HX0.out.cell 2
 go_wp2_with fail
 refine (HP0.out w0 HO0.out).mono ?_
 rintro r w1 ⟨A1, c1, rfl, h1, m1, s1, b1⟩
 have HB1 := Lib.hid (HB0.out.trans (b1.mono HB0.out.size))
 have HO1 := Lib.hid (HO0.out.trans (b1.mono HO0.out.size))
 have HX1 := Lib.hid (HX0.out.below b1 HX0.out.lt)
 clear b1 HB0 HO0 HX0 k0 k2
 have k0 : w1.cell? ⟨W.heap.size, 0, none⟩ = some (.int .i64 19) := HX1.out.cell 0
 have k2 : w1.cell? ⟨W.heap.size, 2, none⟩ = some (.string s) := HX1.out.cell 2
 have HS1 := Lib.hid s1
 clear s1
 go_wp2_with fail
 refine (HP1.out w1 HO1.out).mono ?_
 rintro r w2 ⟨A2, c2, rfl, h2, m2, s2, b2⟩
 have HB2 := Lib.hid (HB1.out.trans (b2.mono HB1.out.size))
 have HO2 := Lib.hid (HO1.out.trans (b2.mono HO1.out.size))
 have HX2 := Lib.hid (HX1.out.below b2 HX1.out.lt)
 have HS1_2 := Lib.hid ((HS1.out.below b2).more b2.size)
 clear b2 HB1 HO1 HX1 HS1 k0 k2
 have k0 : w2.cell? ⟨W.heap.size, 0, none⟩ = some (.int .i64 19) := HX2.out.cell 0
 have k2 : w2.cell? ⟨W.heap.size, 2, none⟩ = some (.string s) := HX2.out.cell 2
 have HS2 := Lib.hid s2
 clear s2
 go_wp2_with fail
 refine (r2_signOf 8 (by decide) w2).mono ?_
 rintro r w3 ⟨A3, c3, rfl, h3, m3, s3, b3⟩
 have HB3 := Lib.hid (HB2.out.trans (b3.mono HB2.out.size))
 have HO3 := Lib.hid (HO2.out.trans (b3.mono HO2.out.size))
 have HX3 := Lib.hid (HX2.out.below b3 HX2.out.lt)
 have HS1_2_3 := Lib.hid ((HS1_2.out.below b3).more b3.size)
 have HS2_3 := Lib.hid ((HS2.out.below b3).more b3.size)
 clear b3 HB2 HO2 HX2 HS1_2 HS2 k0 k2
 have k0 : w3.cell? ⟨W.heap.size, 0, none⟩ = some (.int .i64 19) := HX3.out.cell 0
 have k2 : w3.cell? ⟨W.heap.size, 2, none⟩ = some (.string s) := HX3.out.cell 2
 have HS3 := Lib.hid s3
 clear s3
 go_wp2_with fail
 refine Calls.mono (r2_gluedN ([nmdW (btwW (opV 8))]) (t1) A3 A2 c3 c2 w3 HS3.out HS2_3.out (by first | omega | (simp; done) | (simp; omega)) (by first | omega | (simp; done) | (simp; omega)) (by first | omega | (simp; done) | (simp; omega))) ?_
 rintro r w4 ⟨A4, c4, rfl, h4, m4, s4, b4⟩
 have HB4 := Lib.hid (HB3.out.trans (b4.mono HB3.out.size))
 have HO4 := Lib.hid (HO3.out.trans (b4.mono HO3.out.size))
 have HX4 := Lib.hid (HX3.out.below b4 HX3.out.lt)
 have HS1_2_3_4 := Lib.hid ((HS1_2_3.out.below b4).more b4.size)
 clear b4 HB3 HO3 HX3 HS1_2_3 k0 k2
 have k0 : w4.cell? ⟨W.heap.size, 0, none⟩ = some (.int .i64 19) := HX4.out.cell 0
 have k2 : w4.cell? ⟨W.heap.size, 2, none⟩ = some (.string s) := HX4.out.cell 2
 have HS4 := Lib.hid s4
 clear s4
 go_wp2_with fail
 refine Calls.mono (r2_gluedN (t0) (([nmdW (btwW (opV 8))]) ++ (t1)) A1 A4 c1 c4 w4 HS1_2_3_4.out HS4.out (by first | omega | (simp; done) | (simp; omega)) (by first | omega | (simp; done) | (simp; omega)) (by first | omega | (simp; done) | (simp; omega))) ?_
 rintro r w5 ⟨A5, c5, rfl, h5, m5, s5, b5⟩
 have HB5 := Lib.hid (HB4.out.trans (b5.mono HB4.out.size))
 have HO5 := Lib.hid (HO4.out.trans (b5.mono HO4.out.size))
 have HX5 := Lib.hid (HX4.out.below b5 HX4.out.lt)
 clear b5 HB4 HO4 HX4 k0 k2
 have k0 : w5.cell? ⟨W.heap.size, 0, none⟩ = some (.int .i64 19) := HX5.out.cell 0
 have k2 : w5.cell? ⟨W.heap.size, 2, none⟩ = some (.string s) := HX5.out.cell 2
 have HS5 := Lib.hid s5
 clear s5
 go_wp2_with fail
 refine bodyPost_ret (results_tmp2 rfl _ _ _) rfl ?_
 exact WBack.of (us := (t0) ++ (([nmdW (btwW (opV 8))]) ++ (t1))) (by first | (rw [← HQ.out]; done) | (rw [← HQ.out]; simp only [List.cons_append, List.nil_append] <;> rfl)) (by first | omega | (simp; done) | (simp; omega)) rfl h5 m5 HS5.out HB5.out
set_option maxHeartbeats 6400000 in
theorem wo_14 {e : List Nd} {b o c N i j : Nat} {w0 W : World} {n : Nd} {p0 p1 rest : List Nd} (h : WIn e b o c N w0 W n [p0, p1] rest i j) (ho : n.op = 14) :
   Calls Tryz.prog 26 #[.slice (some ⟨b, o, none⟩) e.length c, .int .i64 i] W fun r w' => WBack W r w' (nodeT n [p0, p1]) j := by
 obtain ⟨hi, hlt, hd0⟩ := drop_at h.at_
 have hNA := h.E.node h.on hi
 have HL := Lib.hid (fun W' => wo_level h.sh h.h7 ho (l := 3) (by rfl) W')
 obtain ⟨a0, ha0⟩ : ∃ a, i + 1 = a := ⟨_, rfl⟩
 obtain ⟨a1, ha1⟩ : ∃ a, a0 + p0.length = a := ⟨_, rfl⟩
 obtain ⟨a2, ha2⟩ : ∃ a, a1 + p1.length = a := ⟨_, rfl⟩
 have hd1 : e.drop a0 = p0 ++ (p1 ++ (rest)) := by rw [← ha0, hd0]; simp
 have hd2 : e.drop a1 = p1 ++ (rest) := by rw [← ha1]; exact drop_app hd1
 have HP0 := Lib.hid (fun W' (hb : RowKit.Below w0.heap.size w0 W') => r2_Part (l := 4) h.E h.ok W' (h.parts p0 (by simp)).1 (h.parts p0 (by simp)).2.1 (h.parts p0 (by simp)).2.2 hd1 ha1 hb)
 have q0 := part_bound (4) (h.parts p0 (by simp)).2.1 hd1 h.E.le
 have HP1 := Lib.hid (fun W' (hb : RowKit.Below w0.heap.size w0 W') => r2_Part (l := 4) h.E h.ok W' (h.parts p1 (by simp)).1 (h.parts p1 (by simp)).2.1 (h.parts p1 (by simp)).2.2 hd2 ha2 hb)
 have q1 := part_bound (4) (h.parts p1 (by simp)).2.1 hd2 h.E.le
 obtain rfl : a2 = j := by have := h.en; simp at this; omega
 obtain ⟨ws, hws⟩ : ∃ ws, nodeT n [p0, p1] = ws := ⟨_, rfl⟩
 have hq : partT (4) p0 ++ nmdW (btwW 14) :: partT (4) p1 = ws := by rw [← hws]; unfold nodeT; simp [ho]
 obtain ⟨t0, ht0⟩ : ∃ t, partT (4) p0 = t := ⟨_, rfl⟩
 rw [ht0] at HP0 q0 hq
 obtain ⟨t1, ht1⟩ : ∃ t, partT (4) p1 = t := ⟨_, rfl⟩
 rw [ht1] at HP1 q1 hq
 have HQ := Lib.hid hq
 rw [hws]
 have HO := Lib.hid h.on
 have hle := h.E.le
 have hbw : b < W.heap.size := Nat.lt_of_lt_of_le h.E.hb h.on.size
 have i64 : IntKind.wrap .i64 ((i : Int) + 1) = (a0 : Int) := by rw [IntWalk.i64_in _ (by omega)]; omega
 obtain ⟨d0, d1, d2, d3⟩ := hNA
 obtain ⟨op, nn, s, t⟩ := n
 have ho : op = 14 := ho
 subst ho
 dsimp only at d0 d1 d2 d3
 clear h hi hd0 hws hq ha0 ha1 hd1 ht0 ha2 hd2 ht1
 go_enter Tryz.func26, Tryz.ntmps26
 go_wp2_with fail
 have HXa := Lib.hid (Blk.new W 29 #[.int .i64 14, .int .i64 nn, .string s, .string t])
 have hx : RowKit.Below W.heap.size W (W.alloc (.cells #[.int .i64 14, .int .i64 nn, .string s, .string t] 29)) := by (repeat (first | assumption | exact Below.refl _ _ | apply Below.drew | apply below_drewN | (refine Below.alloc ?_ (by first | exact Nat.le_refl _ | omega | (simp; done) | (simp; omega)) _)))
 generalize (W.alloc (.cells #[.int .i64 14, .int .i64 nn, .string s, .string t] 29)) = wa at HXa hx ⊢
 have HBa := Lib.hid hx
 have HOa := Lib.hid (HO.out.trans (hx.mono HO.out.size))
 clear hx d0 d1 d2 d3 HO
 have k0 : wa.cell? ⟨W.heap.size, 0, none⟩ = some (.int .i64 14) := HXa.out.cell 0
 have k2 : wa.cell? ⟨W.heap.size, 2, none⟩ = some (.string s) := HXa.out.cell 2
 refine (HL.out wa).mono ?_
 rintro r w0 ⟨rfl, b0⟩
 have HB0 := Lib.hid (HBa.out.trans (b0.mono HBa.out.size))
 have HO0 := Lib.hid (HOa.out.trans (b0.mono HOa.out.size))
 have HX0 := Lib.hid (HXa.out.below b0 HXa.out.lt)
 clear b0 HBa HOa HXa k0 k2
 have k0 : w0.cell? ⟨W.heap.size, 0, none⟩ = some (.int .i64 14) := HX0.out.cell 0
 have k2 : w0.cell? ⟨W.heap.size, 2, none⟩ = some (.string s) := HX0.out.cell 2
 go_wp2_with fail
 refine (HP0.out w0 HO0.out).mono ?_
 rintro r w1 ⟨A1, c1, rfl, h1, m1, s1, b1⟩
 have HB1 := Lib.hid (HB0.out.trans (b1.mono HB0.out.size))
 have HO1 := Lib.hid (HO0.out.trans (b1.mono HO0.out.size))
 have HX1 := Lib.hid (HX0.out.below b1 HX0.out.lt)
 clear b1 HB0 HO0 HX0 k0 k2
 have k0 : w1.cell? ⟨W.heap.size, 0, none⟩ = some (.int .i64 14) := HX1.out.cell 0
 have k2 : w1.cell? ⟨W.heap.size, 2, none⟩ = some (.string s) := HX1.out.cell 2
 have HS1 := Lib.hid s1
 clear s1
 go_wp2_with fail
 refine (HP1.out w1 HO1.out).mono ?_
 rintro r w2 ⟨A2, c2, rfl, h2, m2, s2, b2⟩
 have HB2 := Lib.hid (HB1.out.trans (b2.mono HB1.out.size))
 have HO2 := Lib.hid (HO1.out.trans (b2.mono HO1.out.size))
 have HX2 := Lib.hid (HX1.out.below b2 HX1.out.lt)
 have HS1_2 := Lib.hid ((HS1.out.below b2).more b2.size)
 clear b2 HB1 HO1 HX1 HS1 k0 k2
 have k0 : w2.cell? ⟨W.heap.size, 0, none⟩ = some (.int .i64 14) := HX2.out.cell 0
 have k2 : w2.cell? ⟨W.heap.size, 2, none⟩ = some (.string s) := HX2.out.cell 2
 have HS2 := Lib.hid s2
 clear s2
 go_wp2_with fail
 refine (r2_signOf 2 (by decide) w2).mono ?_
 rintro r w3 ⟨A3, c3, rfl, h3, m3, s3, b3⟩
 have HB3 := Lib.hid (HB2.out.trans (b3.mono HB2.out.size))
 have HO3 := Lib.hid (HO2.out.trans (b3.mono HO2.out.size))
 have HX3 := Lib.hid (HX2.out.below b3 HX2.out.lt)
 have HS1_2_3 := Lib.hid ((HS1_2.out.below b3).more b3.size)
 have HS2_3 := Lib.hid ((HS2.out.below b3).more b3.size)
 clear b3 HB2 HO2 HX2 HS1_2 HS2 k0 k2
 have k0 : w3.cell? ⟨W.heap.size, 0, none⟩ = some (.int .i64 14) := HX3.out.cell 0
 have k2 : w3.cell? ⟨W.heap.size, 2, none⟩ = some (.string s) := HX3.out.cell 2
 have HS3 := Lib.hid s3
 clear s3
 go_wp2_with fail
 refine Calls.mono (r2_gluedN ([nmdW (btwW (opV 2))]) (t1) A3 A2 c3 c2 w3 HS3.out HS2_3.out (by first | omega | (simp; done) | (simp; omega)) (by first | omega | (simp; done) | (simp; omega)) (by first | omega | (simp; done) | (simp; omega))) ?_
 rintro r w4 ⟨A4, c4, rfl, h4, m4, s4, b4⟩
 have HB4 := Lib.hid (HB3.out.trans (b4.mono HB3.out.size))
 have HO4 := Lib.hid (HO3.out.trans (b4.mono HO3.out.size))
 have HX4 := Lib.hid (HX3.out.below b4 HX3.out.lt)
 have HS1_2_3_4 := Lib.hid ((HS1_2_3.out.below b4).more b4.size)
 clear b4 HB3 HO3 HX3 HS1_2_3 k0 k2
 have k0 : w4.cell? ⟨W.heap.size, 0, none⟩ = some (.int .i64 14) := HX4.out.cell 0
 have k2 : w4.cell? ⟨W.heap.size, 2, none⟩ = some (.string s) := HX4.out.cell 2
 have HS4 := Lib.hid s4
 clear s4
 go_wp2_with fail
 refine Calls.mono (r2_gluedN (t0) (([nmdW (btwW (opV 2))]) ++ (t1)) A1 A4 c1 c4 w4 HS1_2_3_4.out HS4.out (by first | omega | (simp; done) | (simp; omega)) (by first | omega | (simp; done) | (simp; omega)) (by first | omega | (simp; done) | (simp; omega))) ?_
 rintro r w5 ⟨A5, c5, rfl, h5, m5, s5, b5⟩
 have HB5 := Lib.hid (HB4.out.trans (b5.mono HB4.out.size))
 have HO5 := Lib.hid (HO4.out.trans (b5.mono HO4.out.size))
 have HX5 := Lib.hid (HX4.out.below b5 HX4.out.lt)
 clear b5 HB4 HO4 HX4 k0 k2
 have k0 : w5.cell? ⟨W.heap.size, 0, none⟩ = some (.int .i64 14) := HX5.out.cell 0
 have k2 : w5.cell? ⟨W.heap.size, 2, none⟩ = some (.string s) := HX5.out.cell 2
 have HS5 := Lib.hid s5
 clear s5
 go_wp2_with fail
 refine bodyPost_ret (results_tmp2 rfl _ _ _) rfl ?_
 exact WBack.of (us := (t0) ++ (([nmdW (btwW (opV 2))]) ++ (t1))) (by first | (rw [← HQ.out]; done) | (rw [← HQ.out]; simp only [List.cons_append, List.nil_append] <;> rfl)) (by first | omega | (simp; done) | (simp; omega)) rfl h5 m5 HS5.out HB5.out
set_option maxHeartbeats 6400000 in
theorem wo_15 {e : List Nd} {b o c N i j : Nat} {w0 W : World} {n : Nd} {p0 p1 rest : List Nd} (h : WIn e b o c N w0 W n [p0, p1] rest i j) (ho : n.op = 15) :
   Calls Tryz.prog 26 #[.slice (some ⟨b, o, none⟩) e.length c, .int .i64 i] W fun r w' => WBack W r w' (nodeT n [p0, p1]) j := by
 obtain ⟨hi, hlt, hd0⟩ := drop_at h.at_
 have hNA := h.E.node h.on hi
 have HL := Lib.hid (fun W' => wo_level h.sh h.h7 ho (l := 3) (by rfl) W')
 obtain ⟨a0, ha0⟩ : ∃ a, i + 1 = a := ⟨_, rfl⟩
 obtain ⟨a1, ha1⟩ : ∃ a, a0 + p0.length = a := ⟨_, rfl⟩
 obtain ⟨a2, ha2⟩ : ∃ a, a1 + p1.length = a := ⟨_, rfl⟩
 have hd1 : e.drop a0 = p0 ++ (p1 ++ (rest)) := by rw [← ha0, hd0]; simp
 have hd2 : e.drop a1 = p1 ++ (rest) := by rw [← ha1]; exact drop_app hd1
 have HP0 := Lib.hid (fun W' (hb : RowKit.Below w0.heap.size w0 W') => r2_Part (l := 4) h.E h.ok W' (h.parts p0 (by simp)).1 (h.parts p0 (by simp)).2.1 (h.parts p0 (by simp)).2.2 hd1 ha1 hb)
 have q0 := part_bound (4) (h.parts p0 (by simp)).2.1 hd1 h.E.le
 have HP1 := Lib.hid (fun W' (hb : RowKit.Below w0.heap.size w0 W') => r2_Part (l := 4) h.E h.ok W' (h.parts p1 (by simp)).1 (h.parts p1 (by simp)).2.1 (h.parts p1 (by simp)).2.2 hd2 ha2 hb)
 have q1 := part_bound (4) (h.parts p1 (by simp)).2.1 hd2 h.E.le
 obtain rfl : a2 = j := by have := h.en; simp at this; omega
 obtain ⟨ws, hws⟩ : ∃ ws, nodeT n [p0, p1] = ws := ⟨_, rfl⟩
 have hq : partT (4) p0 ++ nmdW (btwW 15) :: partT (4) p1 = ws := by rw [← hws]; unfold nodeT; simp [ho]
 obtain ⟨t0, ht0⟩ : ∃ t, partT (4) p0 = t := ⟨_, rfl⟩
 rw [ht0] at HP0 q0 hq
 obtain ⟨t1, ht1⟩ : ∃ t, partT (4) p1 = t := ⟨_, rfl⟩
 rw [ht1] at HP1 q1 hq
 have HQ := Lib.hid hq
 rw [hws]
 have HO := Lib.hid h.on
 have hle := h.E.le
 have hbw : b < W.heap.size := Nat.lt_of_lt_of_le h.E.hb h.on.size
 have i64 : IntKind.wrap .i64 ((i : Int) + 1) = (a0 : Int) := by rw [IntWalk.i64_in _ (by omega)]; omega
 obtain ⟨d0, d1, d2, d3⟩ := hNA
 obtain ⟨op, nn, s, t⟩ := n
 have ho : op = 15 := ho
 subst ho
 dsimp only at d0 d1 d2 d3
 clear h hi hd0 hws hq ha0 ha1 hd1 ht0 ha2 hd2 ht1
 go_enter Tryz.func26, Tryz.ntmps26
 go_wp2_with fail
 have HXa := Lib.hid (Blk.new W 29 #[.int .i64 15, .int .i64 nn, .string s, .string t])
 have hx : RowKit.Below W.heap.size W (W.alloc (.cells #[.int .i64 15, .int .i64 nn, .string s, .string t] 29)) := by (repeat (first | assumption | exact Below.refl _ _ | apply Below.drew | apply below_drewN | (refine Below.alloc ?_ (by first | exact Nat.le_refl _ | omega | (simp; done) | (simp; omega)) _)))
 generalize (W.alloc (.cells #[.int .i64 15, .int .i64 nn, .string s, .string t] 29)) = wa at HXa hx ⊢
 have HBa := Lib.hid hx
 have HOa := Lib.hid (HO.out.trans (hx.mono HO.out.size))
 clear hx d0 d1 d2 d3 HO
 have k0 : wa.cell? ⟨W.heap.size, 0, none⟩ = some (.int .i64 15) := HXa.out.cell 0
 have k2 : wa.cell? ⟨W.heap.size, 2, none⟩ = some (.string s) := HXa.out.cell 2
 refine (HL.out wa).mono ?_
 rintro r w0 ⟨rfl, b0⟩
 have HB0 := Lib.hid (HBa.out.trans (b0.mono HBa.out.size))
 have HO0 := Lib.hid (HOa.out.trans (b0.mono HOa.out.size))
 have HX0 := Lib.hid (HXa.out.below b0 HXa.out.lt)
 clear b0 HBa HOa HXa k0 k2
 have k0 : w0.cell? ⟨W.heap.size, 0, none⟩ = some (.int .i64 15) := HX0.out.cell 0
 have k2 : w0.cell? ⟨W.heap.size, 2, none⟩ = some (.string s) := HX0.out.cell 2
 go_wp2_with fail
 refine (HP0.out w0 HO0.out).mono ?_
 rintro r w1 ⟨A1, c1, rfl, h1, m1, s1, b1⟩
 have HB1 := Lib.hid (HB0.out.trans (b1.mono HB0.out.size))
 have HO1 := Lib.hid (HO0.out.trans (b1.mono HO0.out.size))
 have HX1 := Lib.hid (HX0.out.below b1 HX0.out.lt)
 clear b1 HB0 HO0 HX0 k0 k2
 have k0 : w1.cell? ⟨W.heap.size, 0, none⟩ = some (.int .i64 15) := HX1.out.cell 0
 have k2 : w1.cell? ⟨W.heap.size, 2, none⟩ = some (.string s) := HX1.out.cell 2
 have HS1 := Lib.hid s1
 clear s1
 go_wp2_with fail
 refine (HP1.out w1 HO1.out).mono ?_
 rintro r w2 ⟨A2, c2, rfl, h2, m2, s2, b2⟩
 have HB2 := Lib.hid (HB1.out.trans (b2.mono HB1.out.size))
 have HO2 := Lib.hid (HO1.out.trans (b2.mono HO1.out.size))
 have HX2 := Lib.hid (HX1.out.below b2 HX1.out.lt)
 have HS1_2 := Lib.hid ((HS1.out.below b2).more b2.size)
 clear b2 HB1 HO1 HX1 HS1 k0 k2
 have k0 : w2.cell? ⟨W.heap.size, 0, none⟩ = some (.int .i64 15) := HX2.out.cell 0
 have k2 : w2.cell? ⟨W.heap.size, 2, none⟩ = some (.string s) := HX2.out.cell 2
 have HS2 := Lib.hid s2
 clear s2
 go_wp2_with fail
 refine (r2_signOf 3 (by decide) w2).mono ?_
 rintro r w3 ⟨A3, c3, rfl, h3, m3, s3, b3⟩
 have HB3 := Lib.hid (HB2.out.trans (b3.mono HB2.out.size))
 have HO3 := Lib.hid (HO2.out.trans (b3.mono HO2.out.size))
 have HX3 := Lib.hid (HX2.out.below b3 HX2.out.lt)
 have HS1_2_3 := Lib.hid ((HS1_2.out.below b3).more b3.size)
 have HS2_3 := Lib.hid ((HS2.out.below b3).more b3.size)
 clear b3 HB2 HO2 HX2 HS1_2 HS2 k0 k2
 have k0 : w3.cell? ⟨W.heap.size, 0, none⟩ = some (.int .i64 15) := HX3.out.cell 0
 have k2 : w3.cell? ⟨W.heap.size, 2, none⟩ = some (.string s) := HX3.out.cell 2
 have HS3 := Lib.hid s3
 clear s3
 go_wp2_with fail
 refine Calls.mono (r2_gluedN ([nmdW (btwW (opV 3))]) (t1) A3 A2 c3 c2 w3 HS3.out HS2_3.out (by first | omega | (simp; done) | (simp; omega)) (by first | omega | (simp; done) | (simp; omega)) (by first | omega | (simp; done) | (simp; omega))) ?_
 rintro r w4 ⟨A4, c4, rfl, h4, m4, s4, b4⟩
 have HB4 := Lib.hid (HB3.out.trans (b4.mono HB3.out.size))
 have HO4 := Lib.hid (HO3.out.trans (b4.mono HO3.out.size))
 have HX4 := Lib.hid (HX3.out.below b4 HX3.out.lt)
 have HS1_2_3_4 := Lib.hid ((HS1_2_3.out.below b4).more b4.size)
 clear b4 HB3 HO3 HX3 HS1_2_3 k0 k2
 have k0 : w4.cell? ⟨W.heap.size, 0, none⟩ = some (.int .i64 15) := HX4.out.cell 0
 have k2 : w4.cell? ⟨W.heap.size, 2, none⟩ = some (.string s) := HX4.out.cell 2
 have HS4 := Lib.hid s4
 clear s4
 go_wp2_with fail
 refine Calls.mono (r2_gluedN (t0) (([nmdW (btwW (opV 3))]) ++ (t1)) A1 A4 c1 c4 w4 HS1_2_3_4.out HS4.out (by first | omega | (simp; done) | (simp; omega)) (by first | omega | (simp; done) | (simp; omega)) (by first | omega | (simp; done) | (simp; omega))) ?_
 rintro r w5 ⟨A5, c5, rfl, h5, m5, s5, b5⟩
 have HB5 := Lib.hid (HB4.out.trans (b5.mono HB4.out.size))
 have HO5 := Lib.hid (HO4.out.trans (b5.mono HO4.out.size))
 have HX5 := Lib.hid (HX4.out.below b5 HX4.out.lt)
 clear b5 HB4 HO4 HX4 k0 k2
 have k0 : w5.cell? ⟨W.heap.size, 0, none⟩ = some (.int .i64 15) := HX5.out.cell 0
 have k2 : w5.cell? ⟨W.heap.size, 2, none⟩ = some (.string s) := HX5.out.cell 2
 have HS5 := Lib.hid s5
 clear s5
 go_wp2_with fail
 refine bodyPost_ret (results_tmp2 rfl _ _ _) rfl ?_
 exact WBack.of (us := (t0) ++ (([nmdW (btwW (opV 3))]) ++ (t1))) (by first | (rw [← HQ.out]; done) | (rw [← HQ.out]; simp only [List.cons_append, List.nil_append] <;> rfl)) (by first | omega | (simp; done) | (simp; omega)) rfl h5 m5 HS5.out HB5.out
set_option maxHeartbeats 6400000 in
theorem wo_16 {e : List Nd} {b o c N i j : Nat} {w0 W : World} {n : Nd} {p0 p1 rest : List Nd} (h : WIn e b o c N w0 W n [p0, p1] rest i j) (ho : n.op = 16) :
   Calls Tryz.prog 26 #[.slice (some ⟨b, o, none⟩) e.length c, .int .i64 i] W fun r w' => WBack W r w' (nodeT n [p0, p1]) j := by
 obtain ⟨hi, hlt, hd0⟩ := drop_at h.at_
 have hNA := h.E.node h.on hi
 have HL := Lib.hid (fun W' => wo_level h.sh h.h7 ho (l := 3) (by rfl) W')
 obtain ⟨a0, ha0⟩ : ∃ a, i + 1 = a := ⟨_, rfl⟩
 obtain ⟨a1, ha1⟩ : ∃ a, a0 + p0.length = a := ⟨_, rfl⟩
 obtain ⟨a2, ha2⟩ : ∃ a, a1 + p1.length = a := ⟨_, rfl⟩
 have hd1 : e.drop a0 = p0 ++ (p1 ++ (rest)) := by rw [← ha0, hd0]; simp
 have hd2 : e.drop a1 = p1 ++ (rest) := by rw [← ha1]; exact drop_app hd1
 have HP0 := Lib.hid (fun W' (hb : RowKit.Below w0.heap.size w0 W') => r2_Part (l := 4) h.E h.ok W' (h.parts p0 (by simp)).1 (h.parts p0 (by simp)).2.1 (h.parts p0 (by simp)).2.2 hd1 ha1 hb)
 have q0 := part_bound (4) (h.parts p0 (by simp)).2.1 hd1 h.E.le
 have HP1 := Lib.hid (fun W' (hb : RowKit.Below w0.heap.size w0 W') => r2_Part (l := 4) h.E h.ok W' (h.parts p1 (by simp)).1 (h.parts p1 (by simp)).2.1 (h.parts p1 (by simp)).2.2 hd2 ha2 hb)
 have q1 := part_bound (4) (h.parts p1 (by simp)).2.1 hd2 h.E.le
 obtain rfl : a2 = j := by have := h.en; simp at this; omega
 obtain ⟨ws, hws⟩ : ∃ ws, nodeT n [p0, p1] = ws := ⟨_, rfl⟩
 have hq : partT (4) p0 ++ nmdW (btwW 16) :: partT (4) p1 = ws := by rw [← hws]; unfold nodeT; simp [ho]
 obtain ⟨t0, ht0⟩ : ∃ t, partT (4) p0 = t := ⟨_, rfl⟩
 rw [ht0] at HP0 q0 hq
 obtain ⟨t1, ht1⟩ : ∃ t, partT (4) p1 = t := ⟨_, rfl⟩
 rw [ht1] at HP1 q1 hq
 have HQ := Lib.hid hq
 rw [hws]
 have HO := Lib.hid h.on
 have hle := h.E.le
 have hbw : b < W.heap.size := Nat.lt_of_lt_of_le h.E.hb h.on.size
 have i64 : IntKind.wrap .i64 ((i : Int) + 1) = (a0 : Int) := by rw [IntWalk.i64_in _ (by omega)]; omega
 obtain ⟨d0, d1, d2, d3⟩ := hNA
 obtain ⟨op, nn, s, t⟩ := n
 have ho : op = 16 := ho
 subst ho
 dsimp only at d0 d1 d2 d3
 clear h hi hd0 hws hq ha0 ha1 hd1 ht0 ha2 hd2 ht1
 go_enter Tryz.func26, Tryz.ntmps26
 go_wp2_with fail
 have HXa := Lib.hid (Blk.new W 29 #[.int .i64 16, .int .i64 nn, .string s, .string t])
 have hx : RowKit.Below W.heap.size W (W.alloc (.cells #[.int .i64 16, .int .i64 nn, .string s, .string t] 29)) := by (repeat (first | assumption | exact Below.refl _ _ | apply Below.drew | apply below_drewN | (refine Below.alloc ?_ (by first | exact Nat.le_refl _ | omega | (simp; done) | (simp; omega)) _)))
 generalize (W.alloc (.cells #[.int .i64 16, .int .i64 nn, .string s, .string t] 29)) = wa at HXa hx ⊢
 have HBa := Lib.hid hx
 have HOa := Lib.hid (HO.out.trans (hx.mono HO.out.size))
 clear hx d0 d1 d2 d3 HO
 have k0 : wa.cell? ⟨W.heap.size, 0, none⟩ = some (.int .i64 16) := HXa.out.cell 0
 have k2 : wa.cell? ⟨W.heap.size, 2, none⟩ = some (.string s) := HXa.out.cell 2
 refine (HL.out wa).mono ?_
 rintro r w0 ⟨rfl, b0⟩
 have HB0 := Lib.hid (HBa.out.trans (b0.mono HBa.out.size))
 have HO0 := Lib.hid (HOa.out.trans (b0.mono HOa.out.size))
 have HX0 := Lib.hid (HXa.out.below b0 HXa.out.lt)
 clear b0 HBa HOa HXa k0 k2
 have k0 : w0.cell? ⟨W.heap.size, 0, none⟩ = some (.int .i64 16) := HX0.out.cell 0
 have k2 : w0.cell? ⟨W.heap.size, 2, none⟩ = some (.string s) := HX0.out.cell 2
 go_wp2_with fail
 refine (HP0.out w0 HO0.out).mono ?_
 rintro r w1 ⟨A1, c1, rfl, h1, m1, s1, b1⟩
 have HB1 := Lib.hid (HB0.out.trans (b1.mono HB0.out.size))
 have HO1 := Lib.hid (HO0.out.trans (b1.mono HO0.out.size))
 have HX1 := Lib.hid (HX0.out.below b1 HX0.out.lt)
 clear b1 HB0 HO0 HX0 k0 k2
 have k0 : w1.cell? ⟨W.heap.size, 0, none⟩ = some (.int .i64 16) := HX1.out.cell 0
 have k2 : w1.cell? ⟨W.heap.size, 2, none⟩ = some (.string s) := HX1.out.cell 2
 have HS1 := Lib.hid s1
 clear s1
 go_wp2_with fail
 refine (HP1.out w1 HO1.out).mono ?_
 rintro r w2 ⟨A2, c2, rfl, h2, m2, s2, b2⟩
 have HB2 := Lib.hid (HB1.out.trans (b2.mono HB1.out.size))
 have HO2 := Lib.hid (HO1.out.trans (b2.mono HO1.out.size))
 have HX2 := Lib.hid (HX1.out.below b2 HX1.out.lt)
 have HS1_2 := Lib.hid ((HS1.out.below b2).more b2.size)
 clear b2 HB1 HO1 HX1 HS1 k0 k2
 have k0 : w2.cell? ⟨W.heap.size, 0, none⟩ = some (.int .i64 16) := HX2.out.cell 0
 have k2 : w2.cell? ⟨W.heap.size, 2, none⟩ = some (.string s) := HX2.out.cell 2
 have HS2 := Lib.hid s2
 clear s2
 go_wp2_with fail
 refine (r2_signOf 4 (by decide) w2).mono ?_
 rintro r w3 ⟨A3, c3, rfl, h3, m3, s3, b3⟩
 have HB3 := Lib.hid (HB2.out.trans (b3.mono HB2.out.size))
 have HO3 := Lib.hid (HO2.out.trans (b3.mono HO2.out.size))
 have HX3 := Lib.hid (HX2.out.below b3 HX2.out.lt)
 have HS1_2_3 := Lib.hid ((HS1_2.out.below b3).more b3.size)
 have HS2_3 := Lib.hid ((HS2.out.below b3).more b3.size)
 clear b3 HB2 HO2 HX2 HS1_2 HS2 k0 k2
 have k0 : w3.cell? ⟨W.heap.size, 0, none⟩ = some (.int .i64 16) := HX3.out.cell 0
 have k2 : w3.cell? ⟨W.heap.size, 2, none⟩ = some (.string s) := HX3.out.cell 2
 have HS3 := Lib.hid s3
 clear s3
 go_wp2_with fail
 refine Calls.mono (r2_gluedN ([nmdW (btwW (opV 4))]) (t1) A3 A2 c3 c2 w3 HS3.out HS2_3.out (by first | omega | (simp; done) | (simp; omega)) (by first | omega | (simp; done) | (simp; omega)) (by first | omega | (simp; done) | (simp; omega))) ?_
 rintro r w4 ⟨A4, c4, rfl, h4, m4, s4, b4⟩
 have HB4 := Lib.hid (HB3.out.trans (b4.mono HB3.out.size))
 have HO4 := Lib.hid (HO3.out.trans (b4.mono HO3.out.size))
 have HX4 := Lib.hid (HX3.out.below b4 HX3.out.lt)
 have HS1_2_3_4 := Lib.hid ((HS1_2_3.out.below b4).more b4.size)
 clear b4 HB3 HO3 HX3 HS1_2_3 k0 k2
 have k0 : w4.cell? ⟨W.heap.size, 0, none⟩ = some (.int .i64 16) := HX4.out.cell 0
 have k2 : w4.cell? ⟨W.heap.size, 2, none⟩ = some (.string s) := HX4.out.cell 2
 have HS4 := Lib.hid s4
 clear s4
 go_wp2_with fail
 refine Calls.mono (r2_gluedN (t0) (([nmdW (btwW (opV 4))]) ++ (t1)) A1 A4 c1 c4 w4 HS1_2_3_4.out HS4.out (by first | omega | (simp; done) | (simp; omega)) (by first | omega | (simp; done) | (simp; omega)) (by first | omega | (simp; done) | (simp; omega))) ?_
 rintro r w5 ⟨A5, c5, rfl, h5, m5, s5, b5⟩
 have HB5 := Lib.hid (HB4.out.trans (b5.mono HB4.out.size))
 have HO5 := Lib.hid (HO4.out.trans (b5.mono HO4.out.size))
 have HX5 := Lib.hid (HX4.out.below b5 HX4.out.lt)
 clear b5 HB4 HO4 HX4 k0 k2
 have k0 : w5.cell? ⟨W.heap.size, 0, none⟩ = some (.int .i64 16) := HX5.out.cell 0
 have k2 : w5.cell? ⟨W.heap.size, 2, none⟩ = some (.string s) := HX5.out.cell 2
 have HS5 := Lib.hid s5
 clear s5
 go_wp2_with fail
 refine bodyPost_ret (results_tmp2 rfl _ _ _) rfl ?_
 exact WBack.of (us := (t0) ++ (([nmdW (btwW (opV 4))]) ++ (t1))) (by first | (rw [← HQ.out]; done) | (rw [← HQ.out]; simp only [List.cons_append, List.nil_append] <;> rfl)) (by first | omega | (simp; done) | (simp; omega)) rfl h5 m5 HS5.out HB5.out
set_option maxHeartbeats 6400000 in
theorem wo_20 {e : List Nd} {b o c N i j : Nat} {w0 W : World} {n : Nd} {p0 p1 rest : List Nd} (h : WIn e b o c N w0 W n [p0, p1] rest i j) (ho : n.op = 20) :
   Calls Tryz.prog 26 #[.slice (some ⟨b, o, none⟩) e.length c, .int .i64 i] W fun r w' => WBack W r w' (nodeT n [p0, p1]) j := by
 obtain ⟨hi, hlt, hd0⟩ := drop_at h.at_
 have hNA := h.E.node h.on hi
 have HL := Lib.hid (fun W' => wo_level h.sh h.h7 ho (l := 3) (by rfl) W')
 obtain ⟨a0, ha0⟩ : ∃ a, i + 1 = a := ⟨_, rfl⟩
 obtain ⟨a1, ha1⟩ : ∃ a, a0 + p0.length = a := ⟨_, rfl⟩
 obtain ⟨a2, ha2⟩ : ∃ a, a1 + p1.length = a := ⟨_, rfl⟩
 have hd1 : e.drop a0 = p0 ++ (p1 ++ (rest)) := by rw [← ha0, hd0]; simp
 have hd2 : e.drop a1 = p1 ++ (rest) := by rw [← ha1]; exact drop_app hd1
 have HP0 := Lib.hid (fun W' (hb : RowKit.Below w0.heap.size w0 W') => r2_Part (l := 4) h.E h.ok W' (h.parts p0 (by simp)).1 (h.parts p0 (by simp)).2.1 (h.parts p0 (by simp)).2.2 hd1 ha1 hb)
 have q0 := part_bound (4) (h.parts p0 (by simp)).2.1 hd1 h.E.le
 have HP1 := Lib.hid (fun W' (hb : RowKit.Below w0.heap.size w0 W') => r2_Part (l := 4) h.E h.ok W' (h.parts p1 (by simp)).1 (h.parts p1 (by simp)).2.1 (h.parts p1 (by simp)).2.2 hd2 ha2 hb)
 have q1 := part_bound (4) (h.parts p1 (by simp)).2.1 hd2 h.E.le
 obtain rfl : a2 = j := by have := h.en; simp at this; omega
 obtain ⟨ws, hws⟩ : ∃ ws, nodeT n [p0, p1] = ws := ⟨_, rfl⟩
 have hq : partT (4) p0 ++ nmdW (btwW 20) :: partT (4) p1 = ws := by rw [← hws]; unfold nodeT; simp [ho]
 obtain ⟨t0, ht0⟩ : ∃ t, partT (4) p0 = t := ⟨_, rfl⟩
 rw [ht0] at HP0 q0 hq
 obtain ⟨t1, ht1⟩ : ∃ t, partT (4) p1 = t := ⟨_, rfl⟩
 rw [ht1] at HP1 q1 hq
 have HQ := Lib.hid hq
 rw [hws]
 have HO := Lib.hid h.on
 have hle := h.E.le
 have hbw : b < W.heap.size := Nat.lt_of_lt_of_le h.E.hb h.on.size
 have i64 : IntKind.wrap .i64 ((i : Int) + 1) = (a0 : Int) := by rw [IntWalk.i64_in _ (by omega)]; omega
 obtain ⟨d0, d1, d2, d3⟩ := hNA
 obtain ⟨op, nn, s, t⟩ := n
 have ho : op = 20 := ho
 subst ho
 dsimp only at d0 d1 d2 d3
 clear h hi hd0 hws hq ha0 ha1 hd1 ht0 ha2 hd2 ht1
 go_enter Tryz.func26, Tryz.ntmps26
 go_wp2_with fail
 have HXa := Lib.hid (Blk.new W 29 #[.int .i64 20, .int .i64 nn, .string s, .string t])
 have hx : RowKit.Below W.heap.size W (W.alloc (.cells #[.int .i64 20, .int .i64 nn, .string s, .string t] 29)) := by (repeat (first | assumption | exact Below.refl _ _ | apply Below.drew | apply below_drewN | (refine Below.alloc ?_ (by first | exact Nat.le_refl _ | omega | (simp; done) | (simp; omega)) _)))
 generalize (W.alloc (.cells #[.int .i64 20, .int .i64 nn, .string s, .string t] 29)) = wa at HXa hx ⊢
 have HBa := Lib.hid hx
 have HOa := Lib.hid (HO.out.trans (hx.mono HO.out.size))
 clear hx d0 d1 d2 d3 HO
 have k0 : wa.cell? ⟨W.heap.size, 0, none⟩ = some (.int .i64 20) := HXa.out.cell 0
 have k2 : wa.cell? ⟨W.heap.size, 2, none⟩ = some (.string s) := HXa.out.cell 2
 refine (HL.out wa).mono ?_
 rintro r w0 ⟨rfl, b0⟩
 have HB0 := Lib.hid (HBa.out.trans (b0.mono HBa.out.size))
 have HO0 := Lib.hid (HOa.out.trans (b0.mono HOa.out.size))
 have HX0 := Lib.hid (HXa.out.below b0 HXa.out.lt)
 clear b0 HBa HOa HXa k0 k2
 have k0 : w0.cell? ⟨W.heap.size, 0, none⟩ = some (.int .i64 20) := HX0.out.cell 0
 have k2 : w0.cell? ⟨W.heap.size, 2, none⟩ = some (.string s) := HX0.out.cell 2
 go_wp2_with fail
 refine (HP0.out w0 HO0.out).mono ?_
 rintro r w1 ⟨A1, c1, rfl, h1, m1, s1, b1⟩
 have HB1 := Lib.hid (HB0.out.trans (b1.mono HB0.out.size))
 have HO1 := Lib.hid (HO0.out.trans (b1.mono HO0.out.size))
 have HX1 := Lib.hid (HX0.out.below b1 HX0.out.lt)
 clear b1 HB0 HO0 HX0 k0 k2
 have k0 : w1.cell? ⟨W.heap.size, 0, none⟩ = some (.int .i64 20) := HX1.out.cell 0
 have k2 : w1.cell? ⟨W.heap.size, 2, none⟩ = some (.string s) := HX1.out.cell 2
 have HS1 := Lib.hid s1
 clear s1
 go_wp2_with fail
 refine (HP1.out w1 HO1.out).mono ?_
 rintro r w2 ⟨A2, c2, rfl, h2, m2, s2, b2⟩
 have HB2 := Lib.hid (HB1.out.trans (b2.mono HB1.out.size))
 have HO2 := Lib.hid (HO1.out.trans (b2.mono HO1.out.size))
 have HX2 := Lib.hid (HX1.out.below b2 HX1.out.lt)
 have HS1_2 := Lib.hid ((HS1.out.below b2).more b2.size)
 clear b2 HB1 HO1 HX1 HS1 k0 k2
 have k0 : w2.cell? ⟨W.heap.size, 0, none⟩ = some (.int .i64 20) := HX2.out.cell 0
 have k2 : w2.cell? ⟨W.heap.size, 2, none⟩ = some (.string s) := HX2.out.cell 2
 have HS2 := Lib.hid s2
 clear s2
 go_wp2_with fail
 refine (r2_signOf 5 (by decide) w2).mono ?_
 rintro r w3 ⟨A3, c3, rfl, h3, m3, s3, b3⟩
 have HB3 := Lib.hid (HB2.out.trans (b3.mono HB2.out.size))
 have HO3 := Lib.hid (HO2.out.trans (b3.mono HO2.out.size))
 have HX3 := Lib.hid (HX2.out.below b3 HX2.out.lt)
 have HS1_2_3 := Lib.hid ((HS1_2.out.below b3).more b3.size)
 have HS2_3 := Lib.hid ((HS2.out.below b3).more b3.size)
 clear b3 HB2 HO2 HX2 HS1_2 HS2 k0 k2
 have k0 : w3.cell? ⟨W.heap.size, 0, none⟩ = some (.int .i64 20) := HX3.out.cell 0
 have k2 : w3.cell? ⟨W.heap.size, 2, none⟩ = some (.string s) := HX3.out.cell 2
 have HS3 := Lib.hid s3
 clear s3
 go_wp2_with fail
 refine Calls.mono (r2_gluedN ([nmdW (btwW (opV 5))]) (t1) A3 A2 c3 c2 w3 HS3.out HS2_3.out (by first | omega | (simp; done) | (simp; omega)) (by first | omega | (simp; done) | (simp; omega)) (by first | omega | (simp; done) | (simp; omega))) ?_
 rintro r w4 ⟨A4, c4, rfl, h4, m4, s4, b4⟩
 have HB4 := Lib.hid (HB3.out.trans (b4.mono HB3.out.size))
 have HO4 := Lib.hid (HO3.out.trans (b4.mono HO3.out.size))
 have HX4 := Lib.hid (HX3.out.below b4 HX3.out.lt)
 have HS1_2_3_4 := Lib.hid ((HS1_2_3.out.below b4).more b4.size)
 clear b4 HB3 HO3 HX3 HS1_2_3 k0 k2
 have k0 : w4.cell? ⟨W.heap.size, 0, none⟩ = some (.int .i64 20) := HX4.out.cell 0
 have k2 : w4.cell? ⟨W.heap.size, 2, none⟩ = some (.string s) := HX4.out.cell 2
 have HS4 := Lib.hid s4
 clear s4
 go_wp2_with fail
 refine Calls.mono (r2_gluedN (t0) (([nmdW (btwW (opV 5))]) ++ (t1)) A1 A4 c1 c4 w4 HS1_2_3_4.out HS4.out (by first | omega | (simp; done) | (simp; omega)) (by first | omega | (simp; done) | (simp; omega)) (by first | omega | (simp; done) | (simp; omega))) ?_
 rintro r w5 ⟨A5, c5, rfl, h5, m5, s5, b5⟩
 have HB5 := Lib.hid (HB4.out.trans (b5.mono HB4.out.size))
 have HO5 := Lib.hid (HO4.out.trans (b5.mono HO4.out.size))
 have HX5 := Lib.hid (HX4.out.below b5 HX4.out.lt)
 clear b5 HB4 HO4 HX4 k0 k2
 have k0 : w5.cell? ⟨W.heap.size, 0, none⟩ = some (.int .i64 20) := HX5.out.cell 0
 have k2 : w5.cell? ⟨W.heap.size, 2, none⟩ = some (.string s) := HX5.out.cell 2
 have HS5 := Lib.hid s5
 clear s5
 go_wp2_with fail
 refine bodyPost_ret (results_tmp2 rfl _ _ _) rfl ?_
 exact WBack.of (us := (t0) ++ (([nmdW (btwW (opV 5))]) ++ (t1))) (by first | (rw [← HQ.out]; done) | (rw [← HQ.out]; simp only [List.cons_append, List.nil_append] <;> rfl)) (by first | omega | (simp; done) | (simp; omega)) rfl h5 m5 HS5.out HB5.out
set_option maxHeartbeats 6400000 in
theorem wo_21 {e : List Nd} {b o c N i j : Nat} {w0 W : World} {n : Nd} {p0 rest : List Nd} (h : WIn e b o c N w0 W n [p0] rest i j) (ho : n.op = 21) :
   Calls Tryz.prog 26 #[.slice (some ⟨b, o, none⟩) e.length c, .int .i64 i] W fun r w' => WBack W r w' (nodeT n [p0]) j := by
 obtain ⟨hi, hlt, hd0⟩ := drop_at h.at_
 have hNA := h.E.node h.on hi
 have HL := Lib.hid (fun W' => wo_level h.sh h.h7 ho (l := 3) (by rfl) W')
 obtain ⟨a0, ha0⟩ : ∃ a, i + 1 = a := ⟨_, rfl⟩
 obtain ⟨a1, ha1⟩ : ∃ a, a0 + p0.length = a := ⟨_, rfl⟩
 have hd1 : e.drop a0 = p0 ++ (rest) := by rw [← ha0, hd0]; simp
 have HP0 := Lib.hid (fun W' (hb : RowKit.Below w0.heap.size w0 W') => r2_Part (l := 4) h.E h.ok W' (h.parts p0 (by simp)).1 (h.parts p0 (by simp)).2.1 (h.parts p0 (by simp)).2.2 hd1 ha1 hb)
 have q0 := part_bound (4) (h.parts p0 (by simp)).2.1 hd1 h.E.le
 obtain rfl : a1 = j := by have := h.en; simp at this; omega
 obtain ⟨ws, hws⟩ : ∃ ws, nodeT n [p0] = ws := ⟨_, rfl⟩
 have hq : partT (4) p0 ++ [nmdW (btwW 21), ⟨1, n.s, 0⟩] = ws := by rw [← hws]; unfold nodeT; simp [ho]
 obtain ⟨t0, ht0⟩ : ∃ t, partT (4) p0 = t := ⟨_, rfl⟩
 rw [ht0] at HP0 q0 hq
 have HQ := Lib.hid hq
 rw [hws]
 have HO := Lib.hid h.on
 have hle := h.E.le
 have hbw : b < W.heap.size := Nat.lt_of_lt_of_le h.E.hb h.on.size
 have i64 : IntKind.wrap .i64 ((i : Int) + 1) = (a0 : Int) := by rw [IntWalk.i64_in _ (by omega)]; omega
 obtain ⟨d0, d1, d2, d3⟩ := hNA
 obtain ⟨op, nn, s, t⟩ := n
 have ho : op = 21 := ho
 subst ho
 dsimp only at d0 d1 d2 d3
 clear h hi hd0 hws hq ha0 ha1 hd1 ht0
 go_enter Tryz.func26, Tryz.ntmps26
 go_wp2_with fail
 have HXa := Lib.hid (Blk.new W 29 #[.int .i64 21, .int .i64 nn, .string s, .string t])
 have hx : RowKit.Below W.heap.size W (W.alloc (.cells #[.int .i64 21, .int .i64 nn, .string s, .string t] 29)) := by (repeat (first | assumption | exact Below.refl _ _ | apply Below.drew | apply below_drewN | (refine Below.alloc ?_ (by first | exact Nat.le_refl _ | omega | (simp; done) | (simp; omega)) _)))
 generalize (W.alloc (.cells #[.int .i64 21, .int .i64 nn, .string s, .string t] 29)) = wa at HXa hx ⊢
 have HBa := Lib.hid hx
 have HOa := Lib.hid (HO.out.trans (hx.mono HO.out.size))
 clear hx d0 d1 d2 d3 HO
 have k0 : wa.cell? ⟨W.heap.size, 0, none⟩ = some (.int .i64 21) := HXa.out.cell 0
 have k2 : wa.cell? ⟨W.heap.size, 2, none⟩ = some (.string s) := HXa.out.cell 2
 refine (HL.out wa).mono ?_
 rintro r w0 ⟨rfl, b0⟩
 have HB0 := Lib.hid (HBa.out.trans (b0.mono HBa.out.size))
 have HO0 := Lib.hid (HOa.out.trans (b0.mono HOa.out.size))
 have HX0 := Lib.hid (HXa.out.below b0 HXa.out.lt)
 clear b0 HBa HOa HXa k0 k2
 have k0 : w0.cell? ⟨W.heap.size, 0, none⟩ = some (.int .i64 21) := HX0.out.cell 0
 have k2 : w0.cell? ⟨W.heap.size, 2, none⟩ = some (.string s) := HX0.out.cell 2
 go_wp2_with fail
 refine (HP0.out w0 HO0.out).mono ?_
 rintro r w1 ⟨A1, c1, rfl, h1, m1, s1, b1⟩
 have HB1 := Lib.hid (HB0.out.trans (b1.mono HB0.out.size))
 have HO1 := Lib.hid (HO0.out.trans (b1.mono HO0.out.size))
 have HX1 := Lib.hid (HX0.out.below b1 HX0.out.lt)
 clear b1 HB0 HO0 HX0 k0 k2
 have k0 : w1.cell? ⟨W.heap.size, 0, none⟩ = some (.int .i64 21) := HX1.out.cell 0
 have k2 : w1.cell? ⟨W.heap.size, 2, none⟩ = some (.string s) := HX1.out.cell 2
 have HS1 := Lib.hid s1
 clear s1
 go_wp2_with fail
 refine wp_region_ord (S := fun W2 => W2.cell? ⟨W.heap.size, 2, none⟩ = some (.string s)) [(0, false), (2, false), (3, false), (7, false), (1, true), (4, true), (5, true), (6, true), (8, false), (9, false)] (by kernel_rfl) (by kernel_rfl) (fun _ _ _ _ _ h => h) k2 (fun hW' => ?_)
 simp only [ordOps, List.filterMap_cons, List.filterMap_nil, List.getElem?_cons_zero, List.getElem?_cons_succ, Option.map_some]
 clear hW'
 (repeat (first | (refine hd_take (v := ?_) (by rfl) ?_ ?_; rotate_left; (focus (intro W hW; obtain s0 := hW; go_simp; try with_reducible rfl)); simp only [Act.put, List.setIfInBounds_toArray, List.set_cons_zero, List.set_cons_succ]) | (refine hd_skip (by rfl) ?_; simp only [Act.put, List.setIfInBounds_toArray, List.set_cons_zero, List.set_cons_succ])))
 refine hd_call (fun K hK => ?_)
 go_simp
 refine (r2_word 1 ⟨#[104, 97, 115]⟩ (w1.drew)).mono ?_
 rintro r w2 ⟨A2, c2, rfl, h2, m2, s2, b2⟩
 have b2 := below_of_drew b2
 have HB2 := Lib.hid (HB1.out.trans (b2.mono HB1.out.size))
 have HO2 := Lib.hid (HO1.out.trans (b2.mono HO1.out.size))
 have HX2 := Lib.hid (HX1.out.below b2 HX1.out.lt)
 have HS1_2 := Lib.hid ((HS1.out.below b2).more b2.size)
 clear b2 HB1 HO1 HX1 HS1 k0 k2
 have k0 : w2.cell? ⟨W.heap.size, 0, none⟩ = some (.int .i64 21) := HX2.out.cell 0
 have k2 : w2.cell? ⟨W.heap.size, 2, none⟩ = some (.string s) := HX2.out.cell 2
 have HS2 := Lib.hid s2
 clear s2
 refine hK _ _ k2 ?_
 clear hK K
 (repeat (first | (refine hd_take (v := ?_) (by rfl) ?_ ?_; rotate_left; (focus (intro W hW; obtain s0 := hW; go_simp; try with_reducible rfl)); simp only [Act.put, List.setIfInBounds_toArray, List.set_cons_zero, List.set_cons_succ]) | (refine hd_skip (by rfl) ?_; simp only [Act.put, List.setIfInBounds_toArray, List.set_cons_zero, List.set_cons_succ])))
 refine hd_call (fun K hK => ?_)
 go_simp
 refine (r2_word 1 s (w2)).mono ?_
 rintro r w3 ⟨A3, c3, rfl, h3, m3, s3, b3⟩
 have HB3 := Lib.hid (HB2.out.trans (b3.mono HB2.out.size))
 have HO3 := Lib.hid (HO2.out.trans (b3.mono HO2.out.size))
 have HX3 := Lib.hid (HX2.out.below b3 HX2.out.lt)
 have HS1_2_3 := Lib.hid ((HS1_2.out.below b3).more b3.size)
 have HS2_3 := Lib.hid ((HS2.out.below b3).more b3.size)
 clear b3 HB2 HO2 HX2 HS1_2 HS2 k0 k2
 have k0 : w3.cell? ⟨W.heap.size, 0, none⟩ = some (.int .i64 21) := HX3.out.cell 0
 have k2 : w3.cell? ⟨W.heap.size, 2, none⟩ = some (.string s) := HX3.out.cell 2
 have HS3 := Lib.hid s3
 clear s3
 refine hK _ _ k2 ?_
 clear hK K
 (repeat (first | (refine hd_take (v := ?_) (by rfl) ?_ ?_; rotate_left; (focus (intro W hW; obtain s0 := hW; go_simp; try with_reducible rfl)); simp only [Act.put, List.setIfInBounds_toArray, List.set_cons_zero, List.set_cons_succ]) | (refine hd_skip (by rfl) ?_; simp only [Act.put, List.setIfInBounds_toArray, List.set_cons_zero, List.set_cons_succ])))
 refine hd_call (fun K hK => ?_)
 go_simp
 refine Calls.mono (r2_gluedN ([⟨1, ⟨#[104, 97, 115]⟩, 0⟩]) ([⟨1, s, 0⟩]) A2 A3 c2 c3 w3 HS2_3.out HS3.out (by first | omega | (simp; done) | (simp; omega)) (by first | omega | (simp; done) | (simp; omega)) (by first | omega | (simp; done) | (simp; omega))) ?_
 rintro r w4 ⟨A4, c4, rfl, h4, m4, s4, b4⟩
 have HB4 := Lib.hid (HB3.out.trans (b4.mono HB3.out.size))
 have HO4 := Lib.hid (HO3.out.trans (b4.mono HO3.out.size))
 have HX4 := Lib.hid (HX3.out.below b4 HX3.out.lt)
 have HS1_2_3_4 := Lib.hid ((HS1_2_3.out.below b4).more b4.size)
 clear b4 HB3 HO3 HX3 HS1_2_3 k0 k2
 have k0 : w4.cell? ⟨W.heap.size, 0, none⟩ = some (.int .i64 21) := HX4.out.cell 0
 have k2 : w4.cell? ⟨W.heap.size, 2, none⟩ = some (.string s) := HX4.out.cell 2
 have HS4 := Lib.hid s4
 clear s4
 refine hK _ _ k2 ?_
 clear hK K
 (repeat (first | (refine hd_take (v := ?_) (by rfl) ?_ ?_; rotate_left; (focus (intro W hW; obtain s0 := hW; go_simp; try with_reducible rfl)); simp only [Act.put, List.setIfInBounds_toArray, List.set_cons_zero, List.set_cons_succ]) | (refine hd_skip (by rfl) ?_; simp only [Act.put, List.setIfInBounds_toArray, List.set_cons_zero, List.set_cons_succ])))
 refine hd_call (fun K hK => ?_)
 go_simp
 refine Calls.mono (r2_gluedN (t0) (([⟨1, ⟨#[104, 97, 115]⟩, 0⟩]) ++ ([⟨1, s, 0⟩])) A1 A4 c1 c4 w4 HS1_2_3_4.out HS4.out (by first | omega | (simp; done) | (simp; omega)) (by first | omega | (simp; done) | (simp; omega)) (by first | omega | (simp; done) | (simp; omega))) ?_
 rintro r w5 ⟨A5, c5, rfl, h5, m5, s5, b5⟩
 have HB5 := Lib.hid (HB4.out.trans (b5.mono HB4.out.size))
 have HO5 := Lib.hid (HO4.out.trans (b5.mono HO4.out.size))
 have HX5 := Lib.hid (HX4.out.below b5 HX4.out.lt)
 clear b5 HB4 HO4 HX4 k0 k2
 have k0 : w5.cell? ⟨W.heap.size, 0, none⟩ = some (.int .i64 21) := HX5.out.cell 0
 have k2 : w5.cell? ⟨W.heap.size, 2, none⟩ = some (.string s) := HX5.out.cell 2
 have HS5 := Lib.hid s5
 clear s5
 refine hK _ _ k2 ?_
 clear hK K
 (repeat (first | (refine hd_take (v := ?_) (by rfl) ?_ ?_; rotate_left; (focus (intro W hW; obtain s0 := hW; go_simp; try with_reducible rfl)); simp only [Act.put, List.setIfInBounds_toArray, List.set_cons_zero, List.set_cons_succ]) | (refine hd_skip (by rfl) ?_; simp only [Act.put, List.setIfInBounds_toArray, List.set_cons_zero, List.set_cons_succ])))
 refine hd_nil ?_
 go_wp2_with fail
 refine bodyPost_ret (results_tmp2 rfl _ _ _) rfl ?_
 exact WBack.of (us := (t0) ++ (([⟨1, ⟨#[104, 97, 115]⟩, 0⟩]) ++ ([⟨1, s, 0⟩]))) (by first | (rw [← HQ.out]; done) | (rw [← HQ.out]; simp only [List.cons_append, List.nil_append] <;> rfl)) (by first | omega | (simp; done) | (simp; omega)) rfl h5 m5 HS5.out HB5.out
set_option maxHeartbeats 6400000 in
theorem wo_24 {e : List Nd} {b o c N i j : Nat} {w0 W : World} {n : Nd} {p0 rest : List Nd} (h : WIn e b o c N w0 W n [p0] rest i j) (ho : n.op = 24) :
   Calls Tryz.prog 26 #[.slice (some ⟨b, o, none⟩) e.length c, .int .i64 i] W fun r w' => WBack W r w' (nodeT n [p0]) j := by
 obtain ⟨hi, hlt, hd0⟩ := drop_at h.at_
 have hNA := h.E.node h.on hi
 have HL := Lib.hid (fun W' => wo_level h.sh h.h7 ho (l := 3) (by rfl) W')
 obtain ⟨a0, ha0⟩ : ∃ a, i + 1 = a := ⟨_, rfl⟩
 obtain ⟨a1, ha1⟩ : ∃ a, a0 + p0.length = a := ⟨_, rfl⟩
 have hd1 : e.drop a0 = p0 ++ (rest) := by rw [← ha0, hd0]; simp
 have HP0 := Lib.hid (fun W' (hb : RowKit.Below w0.heap.size w0 W') => r2_Part (l := 4) h.E h.ok W' (h.parts p0 (by simp)).1 (h.parts p0 (by simp)).2.1 (h.parts p0 (by simp)).2.2 hd1 ha1 hb)
 have q0 := part_bound (4) (h.parts p0 (by simp)).2.1 hd1 h.E.le
 obtain rfl : a1 = j := by have := h.en; simp at this; omega
 obtain ⟨ws, hws⟩ : ∃ ws, nodeT n [p0] = ws := ⟨_, rfl⟩
 have hq : partT (4) p0 ++ [nmdW (btwW 24), ⟨1, n.s, 0⟩] = ws := by rw [← hws]; unfold nodeT; simp [ho]
 obtain ⟨t0, ht0⟩ : ∃ t, partT (4) p0 = t := ⟨_, rfl⟩
 rw [ht0] at HP0 q0 hq
 have HQ := Lib.hid hq
 rw [hws]
 have HO := Lib.hid h.on
 have hle := h.E.le
 have hbw : b < W.heap.size := Nat.lt_of_lt_of_le h.E.hb h.on.size
 have i64 : IntKind.wrap .i64 ((i : Int) + 1) = (a0 : Int) := by rw [IntWalk.i64_in _ (by omega)]; omega
 obtain ⟨d0, d1, d2, d3⟩ := hNA
 obtain ⟨op, nn, s, t⟩ := n
 have ho : op = 24 := ho
 subst ho
 dsimp only at d0 d1 d2 d3
 clear h hi hd0 hws hq ha0 ha1 hd1 ht0
 go_enter Tryz.func26, Tryz.ntmps26
 go_wp2_with fail
 have HXa := Lib.hid (Blk.new W 29 #[.int .i64 24, .int .i64 nn, .string s, .string t])
 have hx : RowKit.Below W.heap.size W (W.alloc (.cells #[.int .i64 24, .int .i64 nn, .string s, .string t] 29)) := by (repeat (first | assumption | exact Below.refl _ _ | apply Below.drew | apply below_drewN | (refine Below.alloc ?_ (by first | exact Nat.le_refl _ | omega | (simp; done) | (simp; omega)) _)))
 generalize (W.alloc (.cells #[.int .i64 24, .int .i64 nn, .string s, .string t] 29)) = wa at HXa hx ⊢
 have HBa := Lib.hid hx
 have HOa := Lib.hid (HO.out.trans (hx.mono HO.out.size))
 clear hx d0 d1 d2 d3 HO
 have k0 : wa.cell? ⟨W.heap.size, 0, none⟩ = some (.int .i64 24) := HXa.out.cell 0
 have k2 : wa.cell? ⟨W.heap.size, 2, none⟩ = some (.string s) := HXa.out.cell 2
 refine (HL.out wa).mono ?_
 rintro r w0 ⟨rfl, b0⟩
 have HB0 := Lib.hid (HBa.out.trans (b0.mono HBa.out.size))
 have HO0 := Lib.hid (HOa.out.trans (b0.mono HOa.out.size))
 have HX0 := Lib.hid (HXa.out.below b0 HXa.out.lt)
 clear b0 HBa HOa HXa k0 k2
 have k0 : w0.cell? ⟨W.heap.size, 0, none⟩ = some (.int .i64 24) := HX0.out.cell 0
 have k2 : w0.cell? ⟨W.heap.size, 2, none⟩ = some (.string s) := HX0.out.cell 2
 go_wp2_with fail
 refine (HP0.out w0 HO0.out).mono ?_
 rintro r w1 ⟨A1, c1, rfl, h1, m1, s1, b1⟩
 have HB1 := Lib.hid (HB0.out.trans (b1.mono HB0.out.size))
 have HO1 := Lib.hid (HO0.out.trans (b1.mono HO0.out.size))
 have HX1 := Lib.hid (HX0.out.below b1 HX0.out.lt)
 clear b1 HB0 HO0 HX0 k0 k2
 have k0 : w1.cell? ⟨W.heap.size, 0, none⟩ = some (.int .i64 24) := HX1.out.cell 0
 have k2 : w1.cell? ⟨W.heap.size, 2, none⟩ = some (.string s) := HX1.out.cell 2
 have HS1 := Lib.hid s1
 clear s1
 go_wp2_with fail
 refine wp_region_ord (S := fun W2 => W2.cell? ⟨W.heap.size, 2, none⟩ = some (.string s)) [(0, false), (2, false), (3, false), (7, false), (1, true), (4, true), (5, true), (6, true), (8, false), (9, false)] (by kernel_rfl) (by kernel_rfl) (fun _ _ _ _ _ h => h) k2 (fun hW' => ?_)
 simp only [ordOps, List.filterMap_cons, List.filterMap_nil, List.getElem?_cons_zero, List.getElem?_cons_succ, Option.map_some]
 clear hW'
 (repeat (first | (refine hd_take (v := ?_) (by rfl) ?_ ?_; rotate_left; (focus (intro W hW; obtain s0 := hW; go_simp; try with_reducible rfl)); simp only [Act.put, List.setIfInBounds_toArray, List.set_cons_zero, List.set_cons_succ]) | (refine hd_skip (by rfl) ?_; simp only [Act.put, List.setIfInBounds_toArray, List.set_cons_zero, List.set_cons_succ])))
 refine hd_call (fun K hK => ?_)
 go_simp
 refine (r2_word 1 ⟨#[105, 115]⟩ (w1.drew)).mono ?_
 rintro r w2 ⟨A2, c2, rfl, h2, m2, s2, b2⟩
 have b2 := below_of_drew b2
 have HB2 := Lib.hid (HB1.out.trans (b2.mono HB1.out.size))
 have HO2 := Lib.hid (HO1.out.trans (b2.mono HO1.out.size))
 have HX2 := Lib.hid (HX1.out.below b2 HX1.out.lt)
 have HS1_2 := Lib.hid ((HS1.out.below b2).more b2.size)
 clear b2 HB1 HO1 HX1 HS1 k0 k2
 have k0 : w2.cell? ⟨W.heap.size, 0, none⟩ = some (.int .i64 24) := HX2.out.cell 0
 have k2 : w2.cell? ⟨W.heap.size, 2, none⟩ = some (.string s) := HX2.out.cell 2
 have HS2 := Lib.hid s2
 clear s2
 refine hK _ _ k2 ?_
 clear hK K
 (repeat (first | (refine hd_take (v := ?_) (by rfl) ?_ ?_; rotate_left; (focus (intro W hW; obtain s0 := hW; go_simp; try with_reducible rfl)); simp only [Act.put, List.setIfInBounds_toArray, List.set_cons_zero, List.set_cons_succ]) | (refine hd_skip (by rfl) ?_; simp only [Act.put, List.setIfInBounds_toArray, List.set_cons_zero, List.set_cons_succ])))
 refine hd_call (fun K hK => ?_)
 go_simp
 refine (r2_word 1 s (w2)).mono ?_
 rintro r w3 ⟨A3, c3, rfl, h3, m3, s3, b3⟩
 have HB3 := Lib.hid (HB2.out.trans (b3.mono HB2.out.size))
 have HO3 := Lib.hid (HO2.out.trans (b3.mono HO2.out.size))
 have HX3 := Lib.hid (HX2.out.below b3 HX2.out.lt)
 have HS1_2_3 := Lib.hid ((HS1_2.out.below b3).more b3.size)
 have HS2_3 := Lib.hid ((HS2.out.below b3).more b3.size)
 clear b3 HB2 HO2 HX2 HS1_2 HS2 k0 k2
 have k0 : w3.cell? ⟨W.heap.size, 0, none⟩ = some (.int .i64 24) := HX3.out.cell 0
 have k2 : w3.cell? ⟨W.heap.size, 2, none⟩ = some (.string s) := HX3.out.cell 2
 have HS3 := Lib.hid s3
 clear s3
 refine hK _ _ k2 ?_
 clear hK K
 (repeat (first | (refine hd_take (v := ?_) (by rfl) ?_ ?_; rotate_left; (focus (intro W hW; obtain s0 := hW; go_simp; try with_reducible rfl)); simp only [Act.put, List.setIfInBounds_toArray, List.set_cons_zero, List.set_cons_succ]) | (refine hd_skip (by rfl) ?_; simp only [Act.put, List.setIfInBounds_toArray, List.set_cons_zero, List.set_cons_succ])))
 refine hd_call (fun K hK => ?_)
 go_simp
 refine Calls.mono (r2_gluedN ([⟨1, ⟨#[105, 115]⟩, 0⟩]) ([⟨1, s, 0⟩]) A2 A3 c2 c3 w3 HS2_3.out HS3.out (by first | omega | (simp; done) | (simp; omega)) (by first | omega | (simp; done) | (simp; omega)) (by first | omega | (simp; done) | (simp; omega))) ?_
 rintro r w4 ⟨A4, c4, rfl, h4, m4, s4, b4⟩
 have HB4 := Lib.hid (HB3.out.trans (b4.mono HB3.out.size))
 have HO4 := Lib.hid (HO3.out.trans (b4.mono HO3.out.size))
 have HX4 := Lib.hid (HX3.out.below b4 HX3.out.lt)
 have HS1_2_3_4 := Lib.hid ((HS1_2_3.out.below b4).more b4.size)
 clear b4 HB3 HO3 HX3 HS1_2_3 k0 k2
 have k0 : w4.cell? ⟨W.heap.size, 0, none⟩ = some (.int .i64 24) := HX4.out.cell 0
 have k2 : w4.cell? ⟨W.heap.size, 2, none⟩ = some (.string s) := HX4.out.cell 2
 have HS4 := Lib.hid s4
 clear s4
 refine hK _ _ k2 ?_
 clear hK K
 (repeat (first | (refine hd_take (v := ?_) (by rfl) ?_ ?_; rotate_left; (focus (intro W hW; obtain s0 := hW; go_simp; try with_reducible rfl)); simp only [Act.put, List.setIfInBounds_toArray, List.set_cons_zero, List.set_cons_succ]) | (refine hd_skip (by rfl) ?_; simp only [Act.put, List.setIfInBounds_toArray, List.set_cons_zero, List.set_cons_succ])))
 refine hd_call (fun K hK => ?_)
 go_simp
 refine Calls.mono (r2_gluedN (t0) (([⟨1, ⟨#[105, 115]⟩, 0⟩]) ++ ([⟨1, s, 0⟩])) A1 A4 c1 c4 w4 HS1_2_3_4.out HS4.out (by first | omega | (simp; done) | (simp; omega)) (by first | omega | (simp; done) | (simp; omega)) (by first | omega | (simp; done) | (simp; omega))) ?_
 rintro r w5 ⟨A5, c5, rfl, h5, m5, s5, b5⟩
 have HB5 := Lib.hid (HB4.out.trans (b5.mono HB4.out.size))
 have HO5 := Lib.hid (HO4.out.trans (b5.mono HO4.out.size))
 have HX5 := Lib.hid (HX4.out.below b5 HX4.out.lt)
 clear b5 HB4 HO4 HX4 k0 k2
 have k0 : w5.cell? ⟨W.heap.size, 0, none⟩ = some (.int .i64 24) := HX5.out.cell 0
 have k2 : w5.cell? ⟨W.heap.size, 2, none⟩ = some (.string s) := HX5.out.cell 2
 have HS5 := Lib.hid s5
 clear s5
 refine hK _ _ k2 ?_
 clear hK K
 (repeat (first | (refine hd_take (v := ?_) (by rfl) ?_ ?_; rotate_left; (focus (intro W hW; obtain s0 := hW; go_simp; try with_reducible rfl)); simp only [Act.put, List.setIfInBounds_toArray, List.set_cons_zero, List.set_cons_succ]) | (refine hd_skip (by rfl) ?_; simp only [Act.put, List.setIfInBounds_toArray, List.set_cons_zero, List.set_cons_succ])))
 refine hd_nil ?_
 go_wp2_with fail
 refine bodyPost_ret (results_tmp2 rfl _ _ _) rfl ?_
 exact WBack.of (us := (t0) ++ (([⟨1, ⟨#[105, 115]⟩, 0⟩]) ++ ([⟨1, s, 0⟩]))) (by first | (rw [← HQ.out]; done) | (rw [← HQ.out]; simp only [List.cons_append, List.nil_append] <;> rfl)) (by first | omega | (simp; done) | (simp; omega)) rfl h5 m5 HS5.out HB5.out
set_option maxHeartbeats 6400000 in
theorem wo_23 {e : List Nd} {b o c N i j : Nat} {w0 W : World} {n : Nd} {p0 rest : List Nd} (h : WIn e b o c N w0 W n [p0] rest i j) (ho : n.op = 23) :
   Calls Tryz.prog 26 #[.slice (some ⟨b, o, none⟩) e.length c, .int .i64 i] W fun r w' => WBack W r w' (nodeT n [p0]) j := by
 obtain ⟨hi, hlt, hd0⟩ := drop_at h.at_
 have hNA := h.E.node h.on hi
 have HL := Lib.hid (fun W' => wo_level h.sh h.h7 ho (l := 3) (by rfl) W')
 obtain ⟨a0, ha0⟩ : ∃ a, i + 1 = a := ⟨_, rfl⟩
 obtain ⟨a1, ha1⟩ : ∃ a, a0 + p0.length = a := ⟨_, rfl⟩
 have hd1 : e.drop a0 = p0 ++ (rest) := by rw [← ha0, hd0]; simp
 have HP0 := Lib.hid (fun W' (hb : RowKit.Below w0.heap.size w0 W') => r2_Part (l := 4) h.E h.ok W' (h.parts p0 (by simp)).1 (h.parts p0 (by simp)).2.1 (h.parts p0 (by simp)).2.2 hd1 ha1 hb)
 have q0 := part_bound (4) (h.parts p0 (by simp)).2.1 hd1 h.E.le
 obtain rfl : a1 = j := by have := h.en; simp at this; omega
 obtain ⟨ws, hws⟩ : ∃ ws, nodeT n [p0] = ws := ⟨_, rfl⟩
 have hq : partT (4) p0 ++ [nmdW (btwW 23), ⟨3, n.s, 0⟩] = ws := by rw [← hws]; unfold nodeT; simp [ho]
 obtain ⟨t0, ht0⟩ : ∃ t, partT (4) p0 = t := ⟨_, rfl⟩
 rw [ht0] at HP0 q0 hq
 have HQ := Lib.hid hq
 rw [hws]
 have HO := Lib.hid h.on
 have hle := h.E.le
 have hbw : b < W.heap.size := Nat.lt_of_lt_of_le h.E.hb h.on.size
 have i64 : IntKind.wrap .i64 ((i : Int) + 1) = (a0 : Int) := by rw [IntWalk.i64_in _ (by omega)]; omega
 obtain ⟨d0, d1, d2, d3⟩ := hNA
 obtain ⟨op, nn, s, t⟩ := n
 have ho : op = 23 := ho
 subst ho
 dsimp only at d0 d1 d2 d3
 clear h hi hd0 hws hq ha0 ha1 hd1 ht0
 go_enter Tryz.func26, Tryz.ntmps26
 go_wp2_with fail
 have HXa := Lib.hid (Blk.new W 29 #[.int .i64 23, .int .i64 nn, .string s, .string t])
 have hx : RowKit.Below W.heap.size W (W.alloc (.cells #[.int .i64 23, .int .i64 nn, .string s, .string t] 29)) := by (repeat (first | assumption | exact Below.refl _ _ | apply Below.drew | apply below_drewN | (refine Below.alloc ?_ (by first | exact Nat.le_refl _ | omega | (simp; done) | (simp; omega)) _)))
 generalize (W.alloc (.cells #[.int .i64 23, .int .i64 nn, .string s, .string t] 29)) = wa at HXa hx ⊢
 have HBa := Lib.hid hx
 have HOa := Lib.hid (HO.out.trans (hx.mono HO.out.size))
 clear hx d0 d1 d2 d3 HO
 have k0 : wa.cell? ⟨W.heap.size, 0, none⟩ = some (.int .i64 23) := HXa.out.cell 0
 have k2 : wa.cell? ⟨W.heap.size, 2, none⟩ = some (.string s) := HXa.out.cell 2
 refine (HL.out wa).mono ?_
 rintro r w0 ⟨rfl, b0⟩
 have HB0 := Lib.hid (HBa.out.trans (b0.mono HBa.out.size))
 have HO0 := Lib.hid (HOa.out.trans (b0.mono HOa.out.size))
 have HX0 := Lib.hid (HXa.out.below b0 HXa.out.lt)
 clear b0 HBa HOa HXa k0 k2
 have k0 : w0.cell? ⟨W.heap.size, 0, none⟩ = some (.int .i64 23) := HX0.out.cell 0
 have k2 : w0.cell? ⟨W.heap.size, 2, none⟩ = some (.string s) := HX0.out.cell 2
 go_wp2_with fail
 refine (HP0.out w0 HO0.out).mono ?_
 rintro r w1 ⟨A1, c1, rfl, h1, m1, s1, b1⟩
 have HB1 := Lib.hid (HB0.out.trans (b1.mono HB0.out.size))
 have HO1 := Lib.hid (HO0.out.trans (b1.mono HO0.out.size))
 have HX1 := Lib.hid (HX0.out.below b1 HX0.out.lt)
 clear b1 HB0 HO0 HX0 k0 k2
 have k0 : w1.cell? ⟨W.heap.size, 0, none⟩ = some (.int .i64 23) := HX1.out.cell 0
 have k2 : w1.cell? ⟨W.heap.size, 2, none⟩ = some (.string s) := HX1.out.cell 2
 have HS1 := Lib.hid s1
 clear s1
 go_wp2_with fail
 refine wp_region_ord (S := fun W2 => W2.cell? ⟨W.heap.size, 2, none⟩ = some (.string s)) [(0, false), (2, false), (3, false), (7, false), (1, true), (4, true), (5, true), (6, true), (8, false), (9, false)] (by kernel_rfl) (by kernel_rfl) (fun _ _ _ _ _ h => h) k2 (fun hW' => ?_)
 simp only [ordOps, List.filterMap_cons, List.filterMap_nil, List.getElem?_cons_zero, List.getElem?_cons_succ, Option.map_some]
 clear hW'
 (repeat (first | (refine hd_take (v := ?_) (by rfl) ?_ ?_; rotate_left; (focus (intro W hW; obtain s0 := hW; go_simp; try with_reducible rfl)); simp only [Act.put, List.setIfInBounds_toArray, List.set_cons_zero, List.set_cons_succ]) | (refine hd_skip (by rfl) ?_; simp only [Act.put, List.setIfInBounds_toArray, List.set_cons_zero, List.set_cons_succ])))
 refine hd_call (fun K hK => ?_)
 go_simp
 refine (r2_word 1 ⟨#[108, 105, 107, 101]⟩ (w1.drew)).mono ?_
 rintro r w2 ⟨A2, c2, rfl, h2, m2, s2, b2⟩
 have b2 := below_of_drew b2
 have HB2 := Lib.hid (HB1.out.trans (b2.mono HB1.out.size))
 have HO2 := Lib.hid (HO1.out.trans (b2.mono HO1.out.size))
 have HX2 := Lib.hid (HX1.out.below b2 HX1.out.lt)
 have HS1_2 := Lib.hid ((HS1.out.below b2).more b2.size)
 clear b2 HB1 HO1 HX1 HS1 k0 k2
 have k0 : w2.cell? ⟨W.heap.size, 0, none⟩ = some (.int .i64 23) := HX2.out.cell 0
 have k2 : w2.cell? ⟨W.heap.size, 2, none⟩ = some (.string s) := HX2.out.cell 2
 have HS2 := Lib.hid s2
 clear s2
 refine hK _ _ k2 ?_
 clear hK K
 (repeat (first | (refine hd_take (v := ?_) (by rfl) ?_ ?_; rotate_left; (focus (intro W hW; obtain s0 := hW; go_simp; try with_reducible rfl)); simp only [Act.put, List.setIfInBounds_toArray, List.set_cons_zero, List.set_cons_succ]) | (refine hd_skip (by rfl) ?_; simp only [Act.put, List.setIfInBounds_toArray, List.set_cons_zero, List.set_cons_succ])))
 refine hd_call (fun K hK => ?_)
 go_simp
 refine (r2_word 3 s (w2)).mono ?_
 rintro r w3 ⟨A3, c3, rfl, h3, m3, s3, b3⟩
 have HB3 := Lib.hid (HB2.out.trans (b3.mono HB2.out.size))
 have HO3 := Lib.hid (HO2.out.trans (b3.mono HO2.out.size))
 have HX3 := Lib.hid (HX2.out.below b3 HX2.out.lt)
 have HS1_2_3 := Lib.hid ((HS1_2.out.below b3).more b3.size)
 have HS2_3 := Lib.hid ((HS2.out.below b3).more b3.size)
 clear b3 HB2 HO2 HX2 HS1_2 HS2 k0 k2
 have k0 : w3.cell? ⟨W.heap.size, 0, none⟩ = some (.int .i64 23) := HX3.out.cell 0
 have k2 : w3.cell? ⟨W.heap.size, 2, none⟩ = some (.string s) := HX3.out.cell 2
 have HS3 := Lib.hid s3
 clear s3
 refine hK _ _ k2 ?_
 clear hK K
 (repeat (first | (refine hd_take (v := ?_) (by rfl) ?_ ?_; rotate_left; (focus (intro W hW; obtain s0 := hW; go_simp; try with_reducible rfl)); simp only [Act.put, List.setIfInBounds_toArray, List.set_cons_zero, List.set_cons_succ]) | (refine hd_skip (by rfl) ?_; simp only [Act.put, List.setIfInBounds_toArray, List.set_cons_zero, List.set_cons_succ])))
 refine hd_call (fun K hK => ?_)
 go_simp
 refine Calls.mono (r2_gluedN ([⟨1, ⟨#[108, 105, 107, 101]⟩, 0⟩]) ([⟨3, s, 0⟩]) A2 A3 c2 c3 w3 HS2_3.out HS3.out (by first | omega | (simp; done) | (simp; omega)) (by first | omega | (simp; done) | (simp; omega)) (by first | omega | (simp; done) | (simp; omega))) ?_
 rintro r w4 ⟨A4, c4, rfl, h4, m4, s4, b4⟩
 have HB4 := Lib.hid (HB3.out.trans (b4.mono HB3.out.size))
 have HO4 := Lib.hid (HO3.out.trans (b4.mono HO3.out.size))
 have HX4 := Lib.hid (HX3.out.below b4 HX3.out.lt)
 have HS1_2_3_4 := Lib.hid ((HS1_2_3.out.below b4).more b4.size)
 clear b4 HB3 HO3 HX3 HS1_2_3 k0 k2
 have k0 : w4.cell? ⟨W.heap.size, 0, none⟩ = some (.int .i64 23) := HX4.out.cell 0
 have k2 : w4.cell? ⟨W.heap.size, 2, none⟩ = some (.string s) := HX4.out.cell 2
 have HS4 := Lib.hid s4
 clear s4
 refine hK _ _ k2 ?_
 clear hK K
 (repeat (first | (refine hd_take (v := ?_) (by rfl) ?_ ?_; rotate_left; (focus (intro W hW; obtain s0 := hW; go_simp; try with_reducible rfl)); simp only [Act.put, List.setIfInBounds_toArray, List.set_cons_zero, List.set_cons_succ]) | (refine hd_skip (by rfl) ?_; simp only [Act.put, List.setIfInBounds_toArray, List.set_cons_zero, List.set_cons_succ])))
 refine hd_call (fun K hK => ?_)
 go_simp
 refine Calls.mono (r2_gluedN (t0) (([⟨1, ⟨#[108, 105, 107, 101]⟩, 0⟩]) ++ ([⟨3, s, 0⟩])) A1 A4 c1 c4 w4 HS1_2_3_4.out HS4.out (by first | omega | (simp; done) | (simp; omega)) (by first | omega | (simp; done) | (simp; omega)) (by first | omega | (simp; done) | (simp; omega))) ?_
 rintro r w5 ⟨A5, c5, rfl, h5, m5, s5, b5⟩
 have HB5 := Lib.hid (HB4.out.trans (b5.mono HB4.out.size))
 have HO5 := Lib.hid (HO4.out.trans (b5.mono HO4.out.size))
 have HX5 := Lib.hid (HX4.out.below b5 HX4.out.lt)
 clear b5 HB4 HO4 HX4 k0 k2
 have k0 : w5.cell? ⟨W.heap.size, 0, none⟩ = some (.int .i64 23) := HX5.out.cell 0
 have k2 : w5.cell? ⟨W.heap.size, 2, none⟩ = some (.string s) := HX5.out.cell 2
 have HS5 := Lib.hid s5
 clear s5
 refine hK _ _ k2 ?_
 clear hK K
 (repeat (first | (refine hd_take (v := ?_) (by rfl) ?_ ?_; rotate_left; (focus (intro W hW; obtain s0 := hW; go_simp; try with_reducible rfl)); simp only [Act.put, List.setIfInBounds_toArray, List.set_cons_zero, List.set_cons_succ]) | (refine hd_skip (by rfl) ?_; simp only [Act.put, List.setIfInBounds_toArray, List.set_cons_zero, List.set_cons_succ])))
 refine hd_nil ?_
 go_wp2_with fail
 refine bodyPost_ret (results_tmp2 rfl _ _ _) rfl ?_
 exact WBack.of (us := (t0) ++ (([⟨1, ⟨#[108, 105, 107, 101]⟩, 0⟩]) ++ ([⟨3, s, 0⟩]))) (by first | (rw [← HQ.out]; done) | (rw [← HQ.out]; simp only [List.cons_append, List.nil_append] <;> rfl)) (by first | omega | (simp; done) | (simp; omega)) rfl h5 m5 HS5.out HB5.out
set_option maxHeartbeats 6400000 in
theorem wo_9 {e : List Nd} {b o c N i j : Nat} {w0 W : World} {n : Nd} {p0 rest : List Nd} (h : WIn e b o c N w0 W n [p0] rest i j) (ho : n.op = 9) :
   Calls Tryz.prog 26 #[.slice (some ⟨b, o, none⟩) e.length c, .int .i64 i] W fun r w' => WBack W r w' (nodeT n [p0]) j := by
 obtain ⟨hi, hlt, hd0⟩ := drop_at h.at_
 have hNA := h.E.node h.on hi
 have HL := Lib.hid (fun W' => wo_level h.sh h.h7 ho (l := 6) (by rfl) W')
 obtain ⟨a0, ha0⟩ : ∃ a, i + 1 = a := ⟨_, rfl⟩
 obtain ⟨a1, ha1⟩ : ∃ a, a0 + p0.length = a := ⟨_, rfl⟩
 have hd1 : e.drop a0 = p0 ++ (rest) := by rw [← ha0, hd0]; simp
 have HP0 := Lib.hid (fun W' (hb : RowKit.Below w0.heap.size w0 W') => r2_Part (l := 6) h.E h.ok W' (h.parts p0 (by simp)).1 (h.parts p0 (by simp)).2.1 (h.parts p0 (by simp)).2.2 hd1 ha1 hb)
 have q0 := part_bound (6) (h.parts p0 (by simp)).2.1 hd1 h.E.le
 obtain rfl : a1 = j := by have := h.en; simp at this; omega
 obtain ⟨ws, hws⟩ : ∃ ws, nodeT n [p0] = ws := ⟨_, rfl⟩
 have hq : tSg [33] :: partT (6) p0 = ws := by rw [← hws]; unfold nodeT; simp [ho]
 obtain ⟨t0, ht0⟩ : ∃ t, partT (6) p0 = t := ⟨_, rfl⟩
 rw [ht0] at HP0 q0 hq
 have HQ := Lib.hid hq
 rw [hws]
 have HO := Lib.hid h.on
 have hle := h.E.le
 have hbw : b < W.heap.size := Nat.lt_of_lt_of_le h.E.hb h.on.size
 have i64 : IntKind.wrap .i64 ((i : Int) + 1) = (a0 : Int) := by rw [IntWalk.i64_in _ (by omega)]; omega
 obtain ⟨d0, d1, d2, d3⟩ := hNA
 obtain ⟨op, nn, s, t⟩ := n
 have ho : op = 9 := ho
 subst ho
 dsimp only at d0 d1 d2 d3
 clear h hi hd0 hws hq ha0 ha1 hd1 ht0
 go_enter Tryz.func26, Tryz.ntmps26
 go_wp2_with fail
 have HXa := Lib.hid (Blk.new W 29 #[.int .i64 9, .int .i64 nn, .string s, .string t])
 have hx : RowKit.Below W.heap.size W (W.alloc (.cells #[.int .i64 9, .int .i64 nn, .string s, .string t] 29)) := by (repeat (first | assumption | exact Below.refl _ _ | apply Below.drew | apply below_drewN | (refine Below.alloc ?_ (by first | exact Nat.le_refl _ | omega | (simp; done) | (simp; omega)) _)))
 generalize (W.alloc (.cells #[.int .i64 9, .int .i64 nn, .string s, .string t] 29)) = wa at HXa hx ⊢
 have HBa := Lib.hid hx
 have HOa := Lib.hid (HO.out.trans (hx.mono HO.out.size))
 clear hx d0 d1 d2 d3 HO
 have k0 : wa.cell? ⟨W.heap.size, 0, none⟩ = some (.int .i64 9) := HXa.out.cell 0
 have k2 : wa.cell? ⟨W.heap.size, 2, none⟩ = some (.string s) := HXa.out.cell 2
 refine (HL.out wa).mono ?_
 rintro r w0 ⟨rfl, b0⟩
 have HB0 := Lib.hid (HBa.out.trans (b0.mono HBa.out.size))
 have HO0 := Lib.hid (HOa.out.trans (b0.mono HOa.out.size))
 have HX0 := Lib.hid (HXa.out.below b0 HXa.out.lt)
 clear b0 HBa HOa HXa k0 k2
 have k0 : w0.cell? ⟨W.heap.size, 0, none⟩ = some (.int .i64 9) := HX0.out.cell 0
 have k2 : w0.cell? ⟨W.heap.size, 2, none⟩ = some (.string s) := HX0.out.cell 2
 go_wp2_with fail
 refine (HP0.out w0 HO0.out).mono ?_
 rintro r w1 ⟨A1, c1, rfl, h1, m1, s1, b1⟩
 have HB1 := Lib.hid (HB0.out.trans (b1.mono HB0.out.size))
 have HO1 := Lib.hid (HO0.out.trans (b1.mono HO0.out.size))
 have HX1 := Lib.hid (HX0.out.below b1 HX0.out.lt)
 clear b1 HB0 HO0 HX0 k0 k2
 have k0 : w1.cell? ⟨W.heap.size, 0, none⟩ = some (.int .i64 9) := HX1.out.cell 0
 have k2 : w1.cell? ⟨W.heap.size, 2, none⟩ = some (.string s) := HX1.out.cell 2
 have HS1 := Lib.hid s1
 clear s1
 go_wp2_with fail
 refine (r2_word 5 ⟨#[33]⟩ (w1)).mono ?_
 rintro r w2 ⟨A2, c2, rfl, h2, m2, s2, b2⟩
 have HB2 := Lib.hid (HB1.out.trans (b2.mono HB1.out.size))
 have HO2 := Lib.hid (HO1.out.trans (b2.mono HO1.out.size))
 have HX2 := Lib.hid (HX1.out.below b2 HX1.out.lt)
 have HS1_2 := Lib.hid ((HS1.out.below b2).more b2.size)
 clear b2 HB1 HO1 HX1 HS1 k0 k2
 have k0 : w2.cell? ⟨W.heap.size, 0, none⟩ = some (.int .i64 9) := HX2.out.cell 0
 have k2 : w2.cell? ⟨W.heap.size, 2, none⟩ = some (.string s) := HX2.out.cell 2
 have HS2 := Lib.hid s2
 clear s2
 go_wp2_with fail
 refine Calls.mono (r2_gluedN ([⟨5, ⟨#[33]⟩, 0⟩]) (t0) A2 A1 c2 c1 w2 HS2.out HS1_2.out (by first | omega | (simp; done) | (simp; omega)) (by first | omega | (simp; done) | (simp; omega)) (by first | omega | (simp; done) | (simp; omega))) ?_
 rintro r w3 ⟨A3, c3, rfl, h3, m3, s3, b3⟩
 have HB3 := Lib.hid (HB2.out.trans (b3.mono HB2.out.size))
 have HO3 := Lib.hid (HO2.out.trans (b3.mono HO2.out.size))
 have HX3 := Lib.hid (HX2.out.below b3 HX2.out.lt)
 clear b3 HB2 HO2 HX2 k0 k2
 have k0 : w3.cell? ⟨W.heap.size, 0, none⟩ = some (.int .i64 9) := HX3.out.cell 0
 have k2 : w3.cell? ⟨W.heap.size, 2, none⟩ = some (.string s) := HX3.out.cell 2
 have HS3 := Lib.hid s3
 clear s3
 go_wp2_with fail
 refine bodyPost_ret (results_tmp2 rfl _ _ _) rfl ?_
 exact WBack.of (us := ([⟨5, ⟨#[33]⟩, 0⟩]) ++ (t0)) (by first | (rw [← HQ.out]; done) | (rw [← HQ.out]; simp only [List.cons_append, List.nil_append] <;> rfl)) (by first | omega | (simp; done) | (simp; omega)) rfl h3 m3 HS3.out HB3.out
set_option maxHeartbeats 6400000 in
theorem wo_10 {e : List Nd} {b o c N i j : Nat} {w0 W : World} {n : Nd} {p0 rest : List Nd} (h : WIn e b o c N w0 W n [p0] rest i j) (ho : n.op = 10) :
   Calls Tryz.prog 26 #[.slice (some ⟨b, o, none⟩) e.length c, .int .i64 i] W fun r w' => WBack W r w' (nodeT n [p0]) j := by
 obtain ⟨hi, hlt, hd0⟩ := drop_at h.at_
 have hNA := h.E.node h.on hi
 have HL := Lib.hid (fun W' => wo_level h.sh h.h7 ho (l := 6) (by rfl) W')
 obtain ⟨a0, ha0⟩ : ∃ a, i + 1 = a := ⟨_, rfl⟩
 obtain ⟨a1, ha1⟩ : ∃ a, a0 + p0.length = a := ⟨_, rfl⟩
 have hd1 : e.drop a0 = p0 ++ (rest) := by rw [← ha0, hd0]; simp
 have HP0 := Lib.hid (fun W' (hb : RowKit.Below w0.heap.size w0 W') => r2_Part (l := 6) h.E h.ok W' (h.parts p0 (by simp)).1 (h.parts p0 (by simp)).2.1 (h.parts p0 (by simp)).2.2 hd1 ha1 hb)
 have q0 := part_bound (6) (h.parts p0 (by simp)).2.1 hd1 h.E.le
 obtain rfl : a1 = j := by have := h.en; simp at this; omega
 have hne := ((back_bk _ p0 (Nat.le_refl _) (h.parts p0 (by simp)).2.1 (h.parts p0 (by simp)).2.2).part (l := 6) (by omega)).1.ne
 have hng := neg_part (h.parts p0 (by simp)).2.1 (h.parts p0 (by simp)).2.2
 obtain ⟨ws, hws⟩ : ∃ ws, nodeT n [p0] = ws := ⟨_, rfl⟩
 have hq : tSg [45] :: partT (if firstN p0 = true then 9 else 6) p0 = ws := by rw [← hws]; unfold nodeT; simp [ho]
 rw [← hng] at hq
 obtain ⟨t0, ht0⟩ : ∃ t, partT (6) p0 = t := ⟨_, rfl⟩
 rw [ht0] at HP0 q0 hq hne
 have HQ := Lib.hid hq
 rw [hws]
 have HO := Lib.hid h.on
 have hle := h.E.le
 have hbw : b < W.heap.size := Nat.lt_of_lt_of_le h.E.hb h.on.size
 have i64 : IntKind.wrap .i64 ((i : Int) + 1) = (a0 : Int) := by rw [IntWalk.i64_in _ (by omega)]; omega
 obtain ⟨d0, d1, d2, d3⟩ := hNA
 obtain ⟨op, nn, s, t⟩ := n
 have ho : op = 10 := ho
 subst ho
 dsimp only at d0 d1 d2 d3
 clear h hi hd0 hws hq ha0 ha1 hd1 ht0 hng
 go_enter Tryz.func26, Tryz.ntmps26
 go_wp2_with fail
 have HXa := Lib.hid (Blk.new W 29 #[.int .i64 10, .int .i64 nn, .string s, .string t])
 have hx : RowKit.Below W.heap.size W (W.alloc (.cells #[.int .i64 10, .int .i64 nn, .string s, .string t] 29)) := by (repeat (first | assumption | exact Below.refl _ _ | apply Below.drew | apply below_drewN | (refine Below.alloc ?_ (by first | exact Nat.le_refl _ | omega | (simp; done) | (simp; omega)) _)))
 generalize (W.alloc (.cells #[.int .i64 10, .int .i64 nn, .string s, .string t] 29)) = wa at HXa hx ⊢
 have HBa := Lib.hid hx
 have HOa := Lib.hid (HO.out.trans (hx.mono HO.out.size))
 clear hx d0 d1 d2 d3 HO
 have k0 : wa.cell? ⟨W.heap.size, 0, none⟩ = some (.int .i64 10) := HXa.out.cell 0
 have k2 : wa.cell? ⟨W.heap.size, 2, none⟩ = some (.string s) := HXa.out.cell 2
 refine (HL.out wa).mono ?_
 rintro r w0 ⟨rfl, b0⟩
 have HB0 := Lib.hid (HBa.out.trans (b0.mono HBa.out.size))
 have HO0 := Lib.hid (HOa.out.trans (b0.mono HOa.out.size))
 have HX0 := Lib.hid (HXa.out.below b0 HXa.out.lt)
 clear b0 HBa HOa HXa k0 k2
 have k0 : w0.cell? ⟨W.heap.size, 0, none⟩ = some (.int .i64 10) := HX0.out.cell 0
 have k2 : w0.cell? ⟨W.heap.size, 2, none⟩ = some (.string s) := HX0.out.cell 2
 go_wp2_with fail
 refine (HP0.out w0 HO0.out).mono ?_
 rintro r w1 ⟨A1, c1, rfl, h1, m1, s1, b1⟩
 have HB1 := Lib.hid (HB0.out.trans (b1.mono HB0.out.size))
 have HO1 := Lib.hid (HO0.out.trans (b1.mono HO0.out.size))
 have HX1 := Lib.hid (HX0.out.below b1 HX0.out.lt)
 clear b1 HB0 HO0 HX0 k0 k2
 have k0 : w1.cell? ⟨W.heap.size, 0, none⟩ = some (.int .i64 10) := HX1.out.cell 0
 have k2 : w1.cell? ⟨W.heap.size, 2, none⟩ = some (.string s) := HX1.out.cell 2
 have HS1 := Lib.hid s1
 clear s1
 obtain ⟨x, t', rfl⟩ : ∃ x t', t0 = x :: t' := by cases t0 with | nil => exact absurd rfl hne | cons x q => exact ⟨x, q, rfl⟩
 obtain ⟨bx, ox, rfl, hbx, ⟨e0, -, -⟩⟩ := tkSl_at HS1.out (i := 0) (x := x) rfl
 have e1 : w1.cell? ⟨bx, ox, none⟩ = some (.int .i64 x.kind) := by simpa using e0
 have hlx : decide (0 < t'.length + 1) = true := by simp
 have q0' : t'.length ≤ 2001 := by simpa using q0
 clear hne q0
 by_cases hk2 : x.kind = 2
 · have tk : (x.kind == 2) = true := by simp [hk2]
   have HQ : Hid (tSg [45] :: brT (x :: t') = ws) := by show _ = _; rw [← HQ.out, if_pos (show hdK 2 (x :: t') = true from tk)]
   clear hk2
   go_wp2_with fail
   refine (r2_bracketed (x :: t') (some ⟨bx, ox, none⟩) c1 w1 HS1.out (by first | omega | (simp; done) | (simp; omega))).mono ?_
   rintro r w2 ⟨A2, c2, rfl, h2, m2, s2, b2⟩
   have HB2 := Lib.hid (HB1.out.trans (b2.mono HB1.out.size))
   have HO2 := Lib.hid (HO1.out.trans (b2.mono HO1.out.size))
   have HX2 := Lib.hid (HX1.out.below b2 HX1.out.lt)
   clear b2 HB1 HO1 HX1 k0 k2 e0 e1
   have k0 : w2.cell? ⟨W.heap.size, 0, none⟩ = some (.int .i64 10) := HX2.out.cell 0
   have k2 : w2.cell? ⟨W.heap.size, 2, none⟩ = some (.string s) := HX2.out.cell 2
   have HS2 := Lib.hid s2
   clear s2
   go_wp2_with fail
   refine (r2_word 5 ⟨#[45]⟩ (w2)).mono ?_
   rintro r w3 ⟨A3, c3, rfl, h3, m3, s3, b3⟩
   have HB3 := Lib.hid (HB2.out.trans (b3.mono HB2.out.size))
   have HO3 := Lib.hid (HO2.out.trans (b3.mono HO2.out.size))
   have HX3 := Lib.hid (HX2.out.below b3 HX2.out.lt)
   have HS2_3 := Lib.hid ((HS2.out.below b3).more b3.size)
   clear b3 HB2 HO2 HX2 HS2 k0 k2
   have k0 : w3.cell? ⟨W.heap.size, 0, none⟩ = some (.int .i64 10) := HX3.out.cell 0
   have k2 : w3.cell? ⟨W.heap.size, 2, none⟩ = some (.string s) := HX3.out.cell 2
   have HS3 := Lib.hid s3
   clear s3
   go_wp2_with fail
   refine Calls.mono (r2_gluedN ([⟨5, ⟨#[45]⟩, 0⟩]) (brT (x :: t')) A3 A2 c3 c2 w3 HS3.out HS2_3.out (by first | omega | (simp [brT]; done) | (simp [brT]; omega)) (by first | omega | (simp; done) | (simp; omega)) (by first | omega | (simp [brT]; done) | (simp [brT]; omega))) ?_
   rintro r w4 ⟨A4, c4, rfl, h4, m4, s4, b4⟩
   have HB4 := Lib.hid (HB3.out.trans (b4.mono HB3.out.size))
   have HO4 := Lib.hid (HO3.out.trans (b4.mono HO3.out.size))
   have HX4 := Lib.hid (HX3.out.below b4 HX3.out.lt)
   clear b4 HB3 HO3 HX3 k0 k2
   have k0 : w4.cell? ⟨W.heap.size, 0, none⟩ = some (.int .i64 10) := HX4.out.cell 0
   have k2 : w4.cell? ⟨W.heap.size, 2, none⟩ = some (.string s) := HX4.out.cell 2
   have HS4 := Lib.hid s4
   clear s4
   go_wp2_with fail
   refine bodyPost_ret (results_tmp2 rfl _ _ _) rfl ?_
   exact WBack.of (us := ([⟨5, ⟨#[45]⟩, 0⟩]) ++ (brT (x :: t'))) (by first | (rw [← HQ.out]; done) | (rw [← HQ.out]; simp only [brT, List.cons_append, List.nil_append] <;> rfl)) (by first | omega | (simp [brT]; done) | (simp [brT]; omega)) rfl h4 m4 HS4.out HB4.out
 · have tk : (x.kind == 2) = false := by simp [hk2]
   have HQ : Hid (tSg [45] :: (x :: t') = ws) := by show _ = _; rw [← HQ.out, if_neg (by rw [show hdK 2 (x :: t') = false from tk]; simp)]
   clear hk2
   go_wp2_with fail
   refine (r2_word 5 ⟨#[45]⟩ (w1)).mono ?_
   rintro r w2 ⟨A2, c2, rfl, h2, m2, s2, b2⟩
   have HB2 := Lib.hid (HB1.out.trans (b2.mono HB1.out.size))
   have HO2 := Lib.hid (HO1.out.trans (b2.mono HO1.out.size))
   have HX2 := Lib.hid (HX1.out.below b2 HX1.out.lt)
   have HS1_2 := Lib.hid ((HS1.out.below b2).more b2.size)
   clear b2 HB1 HO1 HX1 HS1 k0 k2 e0 e1
   have k0 : w2.cell? ⟨W.heap.size, 0, none⟩ = some (.int .i64 10) := HX2.out.cell 0
   have k2 : w2.cell? ⟨W.heap.size, 2, none⟩ = some (.string s) := HX2.out.cell 2
   have HS2 := Lib.hid s2
   clear s2
   go_wp2_with fail
   refine Calls.mono (r2_gluedN ([⟨5, ⟨#[45]⟩, 0⟩]) (x :: t') A2 (some ⟨bx, ox, none⟩) c2 c1 w2 HS2.out HS1_2.out (by first | omega | (simp; done) | (simp; omega)) (by first | omega | (simp; done) | (simp; omega)) (by first | omega | (simp; done) | (simp; omega))) ?_
   rintro r w3 ⟨A3, c3, rfl, h3, m3, s3, b3⟩
   have HB3 := Lib.hid (HB2.out.trans (b3.mono HB2.out.size))
   have HO3 := Lib.hid (HO2.out.trans (b3.mono HO2.out.size))
   have HX3 := Lib.hid (HX2.out.below b3 HX2.out.lt)
   clear b3 HB2 HO2 HX2 k0 k2
   have k0 : w3.cell? ⟨W.heap.size, 0, none⟩ = some (.int .i64 10) := HX3.out.cell 0
   have k2 : w3.cell? ⟨W.heap.size, 2, none⟩ = some (.string s) := HX3.out.cell 2
   have HS3 := Lib.hid s3
   clear s3
   go_wp2_with fail
   refine bodyPost_ret (results_tmp2 rfl _ _ _) rfl ?_
   exact WBack.of (us := ([⟨5, ⟨#[45]⟩, 0⟩]) ++ (x :: t')) (by first | (rw [← HQ.out]; done) | (rw [← HQ.out]; simp only [List.cons_append, List.nil_append] <;> rfl)) (by first | omega | (simp; done) | (simp; omega)) rfl h3 m3 HS3.out HB3.out
set_option maxHeartbeats 6400000 in
theorem wo_22 {e : List Nd} {b o c N i j : Nat} {w0 W : World} {n : Nd} {p0 rest : List Nd} (h : WIn e b o c N w0 W n [p0] rest i j) (ho : n.op = 22) :
   Calls Tryz.prog 26 #[.slice (some ⟨b, o, none⟩) e.length c, .int .i64 i] W fun r w' => WBack W r w' (nodeT n [p0]) j := by
 obtain ⟨hi, hlt, hd0⟩ := drop_at h.at_
 have hNA := h.E.node h.on hi
 have HL := Lib.hid (fun W' => wo_level h.sh h.h7 ho (l := 7) (by rfl) W')
 obtain ⟨a0, ha0⟩ : ∃ a, i + 1 = a := ⟨_, rfl⟩
 obtain ⟨a1, ha1⟩ : ∃ a, a0 + p0.length = a := ⟨_, rfl⟩
 have hd1 : e.drop a0 = p0 ++ (rest) := by rw [← ha0, hd0]; simp
 have HP0 := Lib.hid (fun W' (hb : RowKit.Below w0.heap.size w0 W') => r2_Part (l := 7) h.E h.ok W' (h.parts p0 (by simp)).1 (h.parts p0 (by simp)).2.1 (h.parts p0 (by simp)).2.2 hd1 ha1 hb)
 have q0 := part_bound (7) (h.parts p0 (by simp)).2.1 hd1 h.E.le
 obtain rfl : a1 = j := by have := h.en; simp at this; omega
 obtain ⟨ws, hws⟩ : ∃ ws, nodeT n [p0] = ws := ⟨_, rfl⟩
 have hq : partT (7) p0 ++ [tSg [46], ⟨1, n.s, 0⟩] = ws := by rw [← hws]; unfold nodeT; simp [ho]
 obtain ⟨t0, ht0⟩ : ∃ t, partT (7) p0 = t := ⟨_, rfl⟩
 rw [ht0] at HP0 q0 hq
 have HQ := Lib.hid hq
 rw [hws]
 have HO := Lib.hid h.on
 have hle := h.E.le
 have hbw : b < W.heap.size := Nat.lt_of_lt_of_le h.E.hb h.on.size
 have i64 : IntKind.wrap .i64 ((i : Int) + 1) = (a0 : Int) := by rw [IntWalk.i64_in _ (by omega)]; omega
 obtain ⟨d0, d1, d2, d3⟩ := hNA
 obtain ⟨op, nn, s, t⟩ := n
 have ho : op = 22 := ho
 subst ho
 dsimp only at d0 d1 d2 d3
 clear h hi hd0 hws hq ha0 ha1 hd1 ht0
 go_enter Tryz.func26, Tryz.ntmps26
 go_wp2_with fail
 have HXa := Lib.hid (Blk.new W 29 #[.int .i64 22, .int .i64 nn, .string s, .string t])
 have hx : RowKit.Below W.heap.size W (W.alloc (.cells #[.int .i64 22, .int .i64 nn, .string s, .string t] 29)) := by (repeat (first | assumption | exact Below.refl _ _ | apply Below.drew | apply below_drewN | (refine Below.alloc ?_ (by first | exact Nat.le_refl _ | omega | (simp; done) | (simp; omega)) _)))
 generalize (W.alloc (.cells #[.int .i64 22, .int .i64 nn, .string s, .string t] 29)) = wa at HXa hx ⊢
 have HBa := Lib.hid hx
 have HOa := Lib.hid (HO.out.trans (hx.mono HO.out.size))
 clear hx d0 d1 d2 d3 HO
 have k0 : wa.cell? ⟨W.heap.size, 0, none⟩ = some (.int .i64 22) := HXa.out.cell 0
 have k2 : wa.cell? ⟨W.heap.size, 2, none⟩ = some (.string s) := HXa.out.cell 2
 refine (HL.out wa).mono ?_
 rintro r w0 ⟨rfl, b0⟩
 have HB0 := Lib.hid (HBa.out.trans (b0.mono HBa.out.size))
 have HO0 := Lib.hid (HOa.out.trans (b0.mono HOa.out.size))
 have HX0 := Lib.hid (HXa.out.below b0 HXa.out.lt)
 clear b0 HBa HOa HXa k0 k2
 have k0 : w0.cell? ⟨W.heap.size, 0, none⟩ = some (.int .i64 22) := HX0.out.cell 0
 have k2 : w0.cell? ⟨W.heap.size, 2, none⟩ = some (.string s) := HX0.out.cell 2
 go_wp2_with fail
 refine (HP0.out w0 HO0.out).mono ?_
 rintro r w1 ⟨A1, c1, rfl, h1, m1, s1, b1⟩
 have HB1 := Lib.hid (HB0.out.trans (b1.mono HB0.out.size))
 have HO1 := Lib.hid (HO0.out.trans (b1.mono HO0.out.size))
 have HX1 := Lib.hid (HX0.out.below b1 HX0.out.lt)
 clear b1 HB0 HO0 HX0 k0 k2
 have k0 : w1.cell? ⟨W.heap.size, 0, none⟩ = some (.int .i64 22) := HX1.out.cell 0
 have k2 : w1.cell? ⟨W.heap.size, 2, none⟩ = some (.string s) := HX1.out.cell 2
 have HS1 := Lib.hid s1
 clear s1
 go_wp2_with fail
 refine (r2_word 5 ⟨#[46]⟩ (w1)).mono ?_
 rintro r w2 ⟨A2, c2, rfl, h2, m2, s2, b2⟩
 have HB2 := Lib.hid (HB1.out.trans (b2.mono HB1.out.size))
 have HO2 := Lib.hid (HO1.out.trans (b2.mono HO1.out.size))
 have HX2 := Lib.hid (HX1.out.below b2 HX1.out.lt)
 have HS1_2 := Lib.hid ((HS1.out.below b2).more b2.size)
 clear b2 HB1 HO1 HX1 HS1 k0 k2
 have k0 : w2.cell? ⟨W.heap.size, 0, none⟩ = some (.int .i64 22) := HX2.out.cell 0
 have k2 : w2.cell? ⟨W.heap.size, 2, none⟩ = some (.string s) := HX2.out.cell 2
 have HS2 := Lib.hid s2
 clear s2
 go_wp2_with fail
 refine Calls.mono (r2_gluedN (t0) ([⟨5, ⟨#[46]⟩, 0⟩]) A1 A2 c1 c2 w2 HS1_2.out HS2.out (by first | omega | (simp; done) | (simp; omega)) (by first | omega | (simp; done) | (simp; omega)) (by first | omega | (simp; done) | (simp; omega))) ?_
 rintro r w3 ⟨A3, c3, rfl, h3, m3, s3, b3⟩
 have HB3 := Lib.hid (HB2.out.trans (b3.mono HB2.out.size))
 have HO3 := Lib.hid (HO2.out.trans (b3.mono HO2.out.size))
 have HX3 := Lib.hid (HX2.out.below b3 HX2.out.lt)
 clear b3 HB2 HO2 HX2 k0 k2
 have k0 : w3.cell? ⟨W.heap.size, 0, none⟩ = some (.int .i64 22) := HX3.out.cell 0
 have k2 : w3.cell? ⟨W.heap.size, 2, none⟩ = some (.string s) := HX3.out.cell 2
 have HS3 := Lib.hid s3
 clear s3
 go_wp2_with fail
 refine (r2_word 1 s (w3)).mono ?_
 rintro r w4 ⟨A4, c4, rfl, h4, m4, s4, b4⟩
 have HB4 := Lib.hid (HB3.out.trans (b4.mono HB3.out.size))
 have HO4 := Lib.hid (HO3.out.trans (b4.mono HO3.out.size))
 have HX4 := Lib.hid (HX3.out.below b4 HX3.out.lt)
 have HS3_4 := Lib.hid ((HS3.out.below b4).more b4.size)
 clear b4 HB3 HO3 HX3 HS3 k0 k2
 have k0 : w4.cell? ⟨W.heap.size, 0, none⟩ = some (.int .i64 22) := HX4.out.cell 0
 have k2 : w4.cell? ⟨W.heap.size, 2, none⟩ = some (.string s) := HX4.out.cell 2
 have HS4 := Lib.hid s4
 clear s4
 go_wp2_with fail
 refine Calls.mono (r2_gluedN ((t0) ++ ([⟨5, ⟨#[46]⟩, 0⟩])) ([⟨1, s, 0⟩]) A3 A4 c3 c4 w4 HS3_4.out HS4.out (by first | omega | (simp; done) | (simp; omega)) (by first | omega | (simp; done) | (simp; omega)) (by first | omega | (simp; done) | (simp; omega))) ?_
 rintro r w5 ⟨A5, c5, rfl, h5, m5, s5, b5⟩
 have HB5 := Lib.hid (HB4.out.trans (b5.mono HB4.out.size))
 have HO5 := Lib.hid (HO4.out.trans (b5.mono HO4.out.size))
 have HX5 := Lib.hid (HX4.out.below b5 HX4.out.lt)
 clear b5 HB4 HO4 HX4 k0 k2
 have k0 : w5.cell? ⟨W.heap.size, 0, none⟩ = some (.int .i64 22) := HX5.out.cell 0
 have k2 : w5.cell? ⟨W.heap.size, 2, none⟩ = some (.string s) := HX5.out.cell 2
 have HS5 := Lib.hid s5
 clear s5
 go_wp2_with fail
 refine bodyPost_ret (results_tmp2 rfl _ _ _) rfl ?_
 exact WBack.of (us := ((t0) ++ ([⟨5, ⟨#[46]⟩, 0⟩])) ++ ([⟨1, s, 0⟩])) (by first | (rw [← HQ.out]; done) | (rw [← HQ.out]; simp only [List.append_assoc, List.cons_append, List.nil_append] <;> rfl)) (by first | omega | (simp; done) | (simp; omega)) rfl h5 m5 HS5.out HB5.out
set_option maxHeartbeats 6400000 in
theorem wo_25 {e : List Nd} {b o c N i j : Nat} {w0 W : World} {n : Nd} {p0 p1 rest : List Nd} (h : WIn e b o c N w0 W n [p0, p1] rest i j) (ho : n.op = 25) :
   Calls Tryz.prog 26 #[.slice (some ⟨b, o, none⟩) e.length c, .int .i64 i] W fun r w' => WBack W r w' (nodeT n [p0, p1]) j := by
 obtain ⟨hi, hlt, hd0⟩ := drop_at h.at_
 have hNA := h.E.node h.on hi
 have HL := Lib.hid (fun W' => wo_level h.sh h.h7 ho (l := 7) (by rfl) W')
 obtain ⟨a0, ha0⟩ : ∃ a, i + 1 = a := ⟨_, rfl⟩
 obtain ⟨a1, ha1⟩ : ∃ a, a0 + p0.length = a := ⟨_, rfl⟩
 obtain ⟨a2, ha2⟩ : ∃ a, a1 + p1.length = a := ⟨_, rfl⟩
 have hd1 : e.drop a0 = p0 ++ (p1 ++ (rest)) := by rw [← ha0, hd0]; simp
 have hd2 : e.drop a1 = p1 ++ (rest) := by rw [← ha1]; exact drop_app hd1
 have HP0 := Lib.hid (fun W' (hb : RowKit.Below w0.heap.size w0 W') => r2_Part (l := 7) h.E h.ok W' (h.parts p0 (by simp)).1 (h.parts p0 (by simp)).2.1 (h.parts p0 (by simp)).2.2 hd1 ha1 hb)
 have q0 := part_bound (7) (h.parts p0 (by simp)).2.1 hd1 h.E.le
 have HP1 := Lib.hid (fun W' (hb : RowKit.Below w0.heap.size w0 W') => r2_Part (l := 0) h.E h.ok W' (h.parts p1 (by simp)).1 (h.parts p1 (by simp)).2.1 (h.parts p1 (by simp)).2.2 hd2 ha2 hb)
 have q1 := part_bound (0) (h.parts p1 (by simp)).2.1 hd2 h.E.le
 obtain rfl : a2 = j := by have := h.en; simp at this; omega
 obtain ⟨ws, hws⟩ : ∃ ws, nodeT n [p0, p1] = ws := ⟨_, rfl⟩
 have hq : partT (7) p0 ++ tSg [46] :: nmdW (btwW 25) :: tSg [40] :: (partT (0) p1 ++ [tSg [41]]) = ws := by rw [← hws]; unfold nodeT; simp [ho]
 obtain ⟨t0, ht0⟩ : ∃ t, partT (7) p0 = t := ⟨_, rfl⟩
 rw [ht0] at HP0 q0 hq
 obtain ⟨t1, ht1⟩ : ∃ t, partT (0) p1 = t := ⟨_, rfl⟩
 rw [ht1] at HP1 q1 hq
 have HQ := Lib.hid hq
 rw [hws]
 have HO := Lib.hid h.on
 have hle := h.E.le
 have hbw : b < W.heap.size := Nat.lt_of_lt_of_le h.E.hb h.on.size
 have i64 : IntKind.wrap .i64 ((i : Int) + 1) = (a0 : Int) := by rw [IntWalk.i64_in _ (by omega)]; omega
 obtain ⟨d0, d1, d2, d3⟩ := hNA
 obtain ⟨op, nn, s, t⟩ := n
 have ho : op = 25 := ho
 subst ho
 dsimp only at d0 d1 d2 d3
 clear h hi hd0 hws hq ha0 ha1 hd1 ht0 ha2 hd2 ht1
 go_enter Tryz.func26, Tryz.ntmps26
 go_wp2_with fail
 have HXa := Lib.hid (Blk.new W 29 #[.int .i64 25, .int .i64 nn, .string s, .string t])
 have hx : RowKit.Below W.heap.size W (W.alloc (.cells #[.int .i64 25, .int .i64 nn, .string s, .string t] 29)) := by (repeat (first | assumption | exact Below.refl _ _ | apply Below.drew | apply below_drewN | (refine Below.alloc ?_ (by first | exact Nat.le_refl _ | omega | (simp; done) | (simp; omega)) _)))
 generalize (W.alloc (.cells #[.int .i64 25, .int .i64 nn, .string s, .string t] 29)) = wa at HXa hx ⊢
 have HBa := Lib.hid hx
 have HOa := Lib.hid (HO.out.trans (hx.mono HO.out.size))
 clear hx d0 d1 d2 d3 HO
 have k0 : wa.cell? ⟨W.heap.size, 0, none⟩ = some (.int .i64 25) := HXa.out.cell 0
 have k2 : wa.cell? ⟨W.heap.size, 2, none⟩ = some (.string s) := HXa.out.cell 2
 refine (HL.out wa).mono ?_
 rintro r w0 ⟨rfl, b0⟩
 have HB0 := Lib.hid (HBa.out.trans (b0.mono HBa.out.size))
 have HO0 := Lib.hid (HOa.out.trans (b0.mono HOa.out.size))
 have HX0 := Lib.hid (HXa.out.below b0 HXa.out.lt)
 clear b0 HBa HOa HXa k0 k2
 have k0 : w0.cell? ⟨W.heap.size, 0, none⟩ = some (.int .i64 25) := HX0.out.cell 0
 have k2 : w0.cell? ⟨W.heap.size, 2, none⟩ = some (.string s) := HX0.out.cell 2
 go_wp2_with fail
 refine (HP0.out w0 HO0.out).mono ?_
 rintro r w1 ⟨A1, c1, rfl, h1, m1, s1, b1⟩
 have HB1 := Lib.hid (HB0.out.trans (b1.mono HB0.out.size))
 have HO1 := Lib.hid (HO0.out.trans (b1.mono HO0.out.size))
 have HX1 := Lib.hid (HX0.out.below b1 HX0.out.lt)
 clear b1 HB0 HO0 HX0 k0 k2
 have k0 : w1.cell? ⟨W.heap.size, 0, none⟩ = some (.int .i64 25) := HX1.out.cell 0
 have k2 : w1.cell? ⟨W.heap.size, 2, none⟩ = some (.string s) := HX1.out.cell 2
 have HS1 := Lib.hid s1
 clear s1
 go_wp2_with fail
 refine (r2_word 5 ⟨#[46]⟩ (w1)).mono ?_
 rintro r w2 ⟨A2, c2, rfl, h2, m2, s2, b2⟩
 have HB2 := Lib.hid (HB1.out.trans (b2.mono HB1.out.size))
 have HO2 := Lib.hid (HO1.out.trans (b2.mono HO1.out.size))
 have HX2 := Lib.hid (HX1.out.below b2 HX1.out.lt)
 have HS1_2 := Lib.hid ((HS1.out.below b2).more b2.size)
 clear b2 HB1 HO1 HX1 HS1 k0 k2
 have k0 : w2.cell? ⟨W.heap.size, 0, none⟩ = some (.int .i64 25) := HX2.out.cell 0
 have k2 : w2.cell? ⟨W.heap.size, 2, none⟩ = some (.string s) := HX2.out.cell 2
 have HS2 := Lib.hid s2
 clear s2
 go_wp2_with fail
 refine Calls.mono (r2_gluedN (t0) ([⟨5, ⟨#[46]⟩, 0⟩]) A1 A2 c1 c2 w2 HS1_2.out HS2.out (by first | omega | (simp; done) | (simp; omega)) (by first | omega | (simp; done) | (simp; omega)) (by first | omega | (simp; done) | (simp; omega))) ?_
 rintro r w3 ⟨A3, c3, rfl, h3, m3, s3, b3⟩
 have HB3 := Lib.hid (HB2.out.trans (b3.mono HB2.out.size))
 have HO3 := Lib.hid (HO2.out.trans (b3.mono HO2.out.size))
 have HX3 := Lib.hid (HX2.out.below b3 HX2.out.lt)
 clear b3 HB2 HO2 HX2 k0 k2
 have k0 : w3.cell? ⟨W.heap.size, 0, none⟩ = some (.int .i64 25) := HX3.out.cell 0
 have k2 : w3.cell? ⟨W.heap.size, 2, none⟩ = some (.string s) := HX3.out.cell 2
 have HS3 := Lib.hid s3
 clear s3
 go_wp2_with fail
 refine (HP1.out w3 HO3.out).mono ?_
 rintro r w4 ⟨A4, c4, rfl, h4, m4, s4, b4⟩
 have HB4 := Lib.hid (HB3.out.trans (b4.mono HB3.out.size))
 have HO4 := Lib.hid (HO3.out.trans (b4.mono HO3.out.size))
 have HX4 := Lib.hid (HX3.out.below b4 HX3.out.lt)
 have HS3_4 := Lib.hid ((HS3.out.below b4).more b4.size)
 clear b4 HB3 HO3 HX3 HS3 k0 k2
 have k0 : w4.cell? ⟨W.heap.size, 0, none⟩ = some (.int .i64 25) := HX4.out.cell 0
 have k2 : w4.cell? ⟨W.heap.size, 2, none⟩ = some (.string s) := HX4.out.cell 2
 have HS4 := Lib.hid s4
 clear s4
 go_wp2_with fail
 refine (r2_word 1 ⟨#[99, 111, 110, 116, 97, 105, 110, 115]⟩ (w4)).mono ?_
 rintro r w5 ⟨A5, c5, rfl, h5, m5, s5, b5⟩
 have HB5 := Lib.hid (HB4.out.trans (b5.mono HB4.out.size))
 have HO5 := Lib.hid (HO4.out.trans (b5.mono HO4.out.size))
 have HX5 := Lib.hid (HX4.out.below b5 HX4.out.lt)
 have HS3_4_5 := Lib.hid ((HS3_4.out.below b5).more b5.size)
 have HS4_5 := Lib.hid ((HS4.out.below b5).more b5.size)
 clear b5 HB4 HO4 HX4 HS3_4 HS4 k0 k2
 have k0 : w5.cell? ⟨W.heap.size, 0, none⟩ = some (.int .i64 25) := HX5.out.cell 0
 have k2 : w5.cell? ⟨W.heap.size, 2, none⟩ = some (.string s) := HX5.out.cell 2
 have HS5 := Lib.hid s5
 clear s5
 go_wp2_with fail
 refine Calls.mono (r2_gluedN ((t0) ++ ([⟨5, ⟨#[46]⟩, 0⟩])) ([⟨1, ⟨#[99, 111, 110, 116, 97, 105, 110, 115]⟩, 0⟩]) A3 A5 c3 c5 w5 HS3_4_5.out HS5.out (by first | omega | (simp; done) | (simp; omega)) (by first | omega | (simp; done) | (simp; omega)) (by first | omega | (simp; done) | (simp; omega))) ?_
 rintro r w6 ⟨A6, c6, rfl, h6, m6, s6, b6⟩
 have HB6 := Lib.hid (HB5.out.trans (b6.mono HB5.out.size))
 have HO6 := Lib.hid (HO5.out.trans (b6.mono HO5.out.size))
 have HX6 := Lib.hid (HX5.out.below b6 HX5.out.lt)
 have HS4_5_6 := Lib.hid ((HS4_5.out.below b6).more b6.size)
 clear b6 HB5 HO5 HX5 HS4_5 k0 k2
 have k0 : w6.cell? ⟨W.heap.size, 0, none⟩ = some (.int .i64 25) := HX6.out.cell 0
 have k2 : w6.cell? ⟨W.heap.size, 2, none⟩ = some (.string s) := HX6.out.cell 2
 have HS6 := Lib.hid s6
 clear s6
 go_wp2_with fail
 refine (r2_bracketed (t1) A4 c4 w6 HS4_5_6.out (by first | omega | (simp; done) | (simp; omega))).mono ?_
 rintro r w7 ⟨A7, c7, rfl, h7, m7, s7, b7⟩
 have HB7 := Lib.hid (HB6.out.trans (b7.mono HB6.out.size))
 have HO7 := Lib.hid (HO6.out.trans (b7.mono HO6.out.size))
 have HX7 := Lib.hid (HX6.out.below b7 HX6.out.lt)
 have HS6_7 := Lib.hid ((HS6.out.below b7).more b7.size)
 clear b7 HB6 HO6 HX6 HS6 k0 k2
 have k0 : w7.cell? ⟨W.heap.size, 0, none⟩ = some (.int .i64 25) := HX7.out.cell 0
 have k2 : w7.cell? ⟨W.heap.size, 2, none⟩ = some (.string s) := HX7.out.cell 2
 have HS7 := Lib.hid s7
 clear s7
 go_wp2_with fail
 refine Calls.mono (r2_gluedN (((t0) ++ ([⟨5, ⟨#[46]⟩, 0⟩])) ++ ([⟨1, ⟨#[99, 111, 110, 116, 97, 105, 110, 115]⟩, 0⟩])) (brT (t1)) A6 A7 c6 c7 w7 HS6_7.out HS7.out (by first | omega | (simp [brT]; done) | (simp [brT]; omega)) (by first | omega | (simp; done) | (simp; omega)) (by first | omega | (simp [brT]; done) | (simp [brT]; omega))) ?_
 rintro r w8 ⟨A8, c8, rfl, h8, m8, s8, b8⟩
 have HB8 := Lib.hid (HB7.out.trans (b8.mono HB7.out.size))
 have HO8 := Lib.hid (HO7.out.trans (b8.mono HO7.out.size))
 have HX8 := Lib.hid (HX7.out.below b8 HX7.out.lt)
 clear b8 HB7 HO7 HX7 k0 k2
 have k0 : w8.cell? ⟨W.heap.size, 0, none⟩ = some (.int .i64 25) := HX8.out.cell 0
 have k2 : w8.cell? ⟨W.heap.size, 2, none⟩ = some (.string s) := HX8.out.cell 2
 have HS8 := Lib.hid s8
 clear s8
 go_wp2_with fail
 refine bodyPost_ret (results_tmp2 rfl _ _ _) rfl ?_
 exact WBack.of (us := (((t0) ++ ([⟨5, ⟨#[46]⟩, 0⟩])) ++ ([⟨1, ⟨#[99, 111, 110, 116, 97, 105, 110, 115]⟩, 0⟩])) ++ (brT (t1))) (by first | (rw [← HQ.out]; done) | (rw [← HQ.out]; simp only [brT, List.append_assoc, List.cons_append, List.nil_append] <;> rfl)) (by first | omega | (simp [brT]; done) | (simp [brT]; omega)) rfl h8 m8 HS8.out HB8.out
set_option maxHeartbeats 6400000 in
theorem wo_26 {e : List Nd} {b o c N i j : Nat} {w0 W : World} {n : Nd} {p0 p1 rest : List Nd} (h : WIn e b o c N w0 W n [p0, p1] rest i j) (ho : n.op = 26) :
   Calls Tryz.prog 26 #[.slice (some ⟨b, o, none⟩) e.length c, .int .i64 i] W fun r w' => WBack W r w' (nodeT n [p0, p1]) j := by
 obtain ⟨hi, hlt, hd0⟩ := drop_at h.at_
 have hNA := h.E.node h.on hi
 have HL := Lib.hid (fun W' => wo_level h.sh h.h7 ho (l := 7) (by rfl) W')
 obtain ⟨a0, ha0⟩ : ∃ a, i + 1 = a := ⟨_, rfl⟩
 obtain ⟨a1, ha1⟩ : ∃ a, a0 + p0.length = a := ⟨_, rfl⟩
 obtain ⟨a2, ha2⟩ : ∃ a, a1 + p1.length = a := ⟨_, rfl⟩
 have hd1 : e.drop a0 = p0 ++ (p1 ++ (rest)) := by rw [← ha0, hd0]; simp
 have hd2 : e.drop a1 = p1 ++ (rest) := by rw [← ha1]; exact drop_app hd1
 have HP0 := Lib.hid (fun W' (hb : RowKit.Below w0.heap.size w0 W') => r2_Part (l := 7) h.E h.ok W' (h.parts p0 (by simp)).1 (h.parts p0 (by simp)).2.1 (h.parts p0 (by simp)).2.2 hd1 ha1 hb)
 have q0 := part_bound (7) (h.parts p0 (by simp)).2.1 hd1 h.E.le
 have HP1 := Lib.hid (fun W' (hb : RowKit.Below w0.heap.size w0 W') => r2_Part (l := 0) h.E h.ok W' (h.parts p1 (by simp)).1 (h.parts p1 (by simp)).2.1 (h.parts p1 (by simp)).2.2 hd2 ha2 hb)
 have q1 := part_bound (0) (h.parts p1 (by simp)).2.1 hd2 h.E.le
 obtain rfl : a2 = j := by have := h.en; simp at this; omega
 obtain ⟨ws, hws⟩ : ∃ ws, nodeT n [p0, p1] = ws := ⟨_, rfl⟩
 have hq : partT (7) p0 ++ tSg [46] :: nmdW (btwW 26) :: tSg [40] :: (partT (0) p1 ++ [tSg [41]]) = ws := by rw [← hws]; unfold nodeT; simp [ho]
 obtain ⟨t0, ht0⟩ : ∃ t, partT (7) p0 = t := ⟨_, rfl⟩
 rw [ht0] at HP0 q0 hq
 obtain ⟨t1, ht1⟩ : ∃ t, partT (0) p1 = t := ⟨_, rfl⟩
 rw [ht1] at HP1 q1 hq
 have HQ := Lib.hid hq
 rw [hws]
 have HO := Lib.hid h.on
 have hle := h.E.le
 have hbw : b < W.heap.size := Nat.lt_of_lt_of_le h.E.hb h.on.size
 have i64 : IntKind.wrap .i64 ((i : Int) + 1) = (a0 : Int) := by rw [IntWalk.i64_in _ (by omega)]; omega
 obtain ⟨d0, d1, d2, d3⟩ := hNA
 obtain ⟨op, nn, s, t⟩ := n
 have ho : op = 26 := ho
 subst ho
 dsimp only at d0 d1 d2 d3
 clear h hi hd0 hws hq ha0 ha1 hd1 ht0 ha2 hd2 ht1
 go_enter Tryz.func26, Tryz.ntmps26
 go_wp2_with fail
 have HXa := Lib.hid (Blk.new W 29 #[.int .i64 26, .int .i64 nn, .string s, .string t])
 have hx : RowKit.Below W.heap.size W (W.alloc (.cells #[.int .i64 26, .int .i64 nn, .string s, .string t] 29)) := by (repeat (first | assumption | exact Below.refl _ _ | apply Below.drew | apply below_drewN | (refine Below.alloc ?_ (by first | exact Nat.le_refl _ | omega | (simp; done) | (simp; omega)) _)))
 generalize (W.alloc (.cells #[.int .i64 26, .int .i64 nn, .string s, .string t] 29)) = wa at HXa hx ⊢
 have HBa := Lib.hid hx
 have HOa := Lib.hid (HO.out.trans (hx.mono HO.out.size))
 clear hx d0 d1 d2 d3 HO
 have k0 : wa.cell? ⟨W.heap.size, 0, none⟩ = some (.int .i64 26) := HXa.out.cell 0
 have k2 : wa.cell? ⟨W.heap.size, 2, none⟩ = some (.string s) := HXa.out.cell 2
 refine (HL.out wa).mono ?_
 rintro r w0 ⟨rfl, b0⟩
 have HB0 := Lib.hid (HBa.out.trans (b0.mono HBa.out.size))
 have HO0 := Lib.hid (HOa.out.trans (b0.mono HOa.out.size))
 have HX0 := Lib.hid (HXa.out.below b0 HXa.out.lt)
 clear b0 HBa HOa HXa k0 k2
 have k0 : w0.cell? ⟨W.heap.size, 0, none⟩ = some (.int .i64 26) := HX0.out.cell 0
 have k2 : w0.cell? ⟨W.heap.size, 2, none⟩ = some (.string s) := HX0.out.cell 2
 go_wp2_with fail
 refine (HP0.out w0 HO0.out).mono ?_
 rintro r w1 ⟨A1, c1, rfl, h1, m1, s1, b1⟩
 have HB1 := Lib.hid (HB0.out.trans (b1.mono HB0.out.size))
 have HO1 := Lib.hid (HO0.out.trans (b1.mono HO0.out.size))
 have HX1 := Lib.hid (HX0.out.below b1 HX0.out.lt)
 clear b1 HB0 HO0 HX0 k0 k2
 have k0 : w1.cell? ⟨W.heap.size, 0, none⟩ = some (.int .i64 26) := HX1.out.cell 0
 have k2 : w1.cell? ⟨W.heap.size, 2, none⟩ = some (.string s) := HX1.out.cell 2
 have HS1 := Lib.hid s1
 clear s1
 go_wp2_with fail
 refine (r2_word 5 ⟨#[46]⟩ (w1)).mono ?_
 rintro r w2 ⟨A2, c2, rfl, h2, m2, s2, b2⟩
 have HB2 := Lib.hid (HB1.out.trans (b2.mono HB1.out.size))
 have HO2 := Lib.hid (HO1.out.trans (b2.mono HO1.out.size))
 have HX2 := Lib.hid (HX1.out.below b2 HX1.out.lt)
 have HS1_2 := Lib.hid ((HS1.out.below b2).more b2.size)
 clear b2 HB1 HO1 HX1 HS1 k0 k2
 have k0 : w2.cell? ⟨W.heap.size, 0, none⟩ = some (.int .i64 26) := HX2.out.cell 0
 have k2 : w2.cell? ⟨W.heap.size, 2, none⟩ = some (.string s) := HX2.out.cell 2
 have HS2 := Lib.hid s2
 clear s2
 go_wp2_with fail
 refine Calls.mono (r2_gluedN (t0) ([⟨5, ⟨#[46]⟩, 0⟩]) A1 A2 c1 c2 w2 HS1_2.out HS2.out (by first | omega | (simp; done) | (simp; omega)) (by first | omega | (simp; done) | (simp; omega)) (by first | omega | (simp; done) | (simp; omega))) ?_
 rintro r w3 ⟨A3, c3, rfl, h3, m3, s3, b3⟩
 have HB3 := Lib.hid (HB2.out.trans (b3.mono HB2.out.size))
 have HO3 := Lib.hid (HO2.out.trans (b3.mono HO2.out.size))
 have HX3 := Lib.hid (HX2.out.below b3 HX2.out.lt)
 clear b3 HB2 HO2 HX2 k0 k2
 have k0 : w3.cell? ⟨W.heap.size, 0, none⟩ = some (.int .i64 26) := HX3.out.cell 0
 have k2 : w3.cell? ⟨W.heap.size, 2, none⟩ = some (.string s) := HX3.out.cell 2
 have HS3 := Lib.hid s3
 clear s3
 go_wp2_with fail
 refine (HP1.out w3 HO3.out).mono ?_
 rintro r w4 ⟨A4, c4, rfl, h4, m4, s4, b4⟩
 have HB4 := Lib.hid (HB3.out.trans (b4.mono HB3.out.size))
 have HO4 := Lib.hid (HO3.out.trans (b4.mono HO3.out.size))
 have HX4 := Lib.hid (HX3.out.below b4 HX3.out.lt)
 have HS3_4 := Lib.hid ((HS3.out.below b4).more b4.size)
 clear b4 HB3 HO3 HX3 HS3 k0 k2
 have k0 : w4.cell? ⟨W.heap.size, 0, none⟩ = some (.int .i64 26) := HX4.out.cell 0
 have k2 : w4.cell? ⟨W.heap.size, 2, none⟩ = some (.string s) := HX4.out.cell 2
 have HS4 := Lib.hid s4
 clear s4
 go_wp2_with fail
 refine (r2_word 1 ⟨#[99, 111, 110, 116, 97, 105, 110, 115, 65, 108, 108]⟩ (w4)).mono ?_
 rintro r w5 ⟨A5, c5, rfl, h5, m5, s5, b5⟩
 have HB5 := Lib.hid (HB4.out.trans (b5.mono HB4.out.size))
 have HO5 := Lib.hid (HO4.out.trans (b5.mono HO4.out.size))
 have HX5 := Lib.hid (HX4.out.below b5 HX4.out.lt)
 have HS3_4_5 := Lib.hid ((HS3_4.out.below b5).more b5.size)
 have HS4_5 := Lib.hid ((HS4.out.below b5).more b5.size)
 clear b5 HB4 HO4 HX4 HS3_4 HS4 k0 k2
 have k0 : w5.cell? ⟨W.heap.size, 0, none⟩ = some (.int .i64 26) := HX5.out.cell 0
 have k2 : w5.cell? ⟨W.heap.size, 2, none⟩ = some (.string s) := HX5.out.cell 2
 have HS5 := Lib.hid s5
 clear s5
 go_wp2_with fail
 refine Calls.mono (r2_gluedN ((t0) ++ ([⟨5, ⟨#[46]⟩, 0⟩])) ([⟨1, ⟨#[99, 111, 110, 116, 97, 105, 110, 115, 65, 108, 108]⟩, 0⟩]) A3 A5 c3 c5 w5 HS3_4_5.out HS5.out (by first | omega | (simp; done) | (simp; omega)) (by first | omega | (simp; done) | (simp; omega)) (by first | omega | (simp; done) | (simp; omega))) ?_
 rintro r w6 ⟨A6, c6, rfl, h6, m6, s6, b6⟩
 have HB6 := Lib.hid (HB5.out.trans (b6.mono HB5.out.size))
 have HO6 := Lib.hid (HO5.out.trans (b6.mono HO5.out.size))
 have HX6 := Lib.hid (HX5.out.below b6 HX5.out.lt)
 have HS4_5_6 := Lib.hid ((HS4_5.out.below b6).more b6.size)
 clear b6 HB5 HO5 HX5 HS4_5 k0 k2
 have k0 : w6.cell? ⟨W.heap.size, 0, none⟩ = some (.int .i64 26) := HX6.out.cell 0
 have k2 : w6.cell? ⟨W.heap.size, 2, none⟩ = some (.string s) := HX6.out.cell 2
 have HS6 := Lib.hid s6
 clear s6
 go_wp2_with fail
 refine (r2_bracketed (t1) A4 c4 w6 HS4_5_6.out (by first | omega | (simp; done) | (simp; omega))).mono ?_
 rintro r w7 ⟨A7, c7, rfl, h7, m7, s7, b7⟩
 have HB7 := Lib.hid (HB6.out.trans (b7.mono HB6.out.size))
 have HO7 := Lib.hid (HO6.out.trans (b7.mono HO6.out.size))
 have HX7 := Lib.hid (HX6.out.below b7 HX6.out.lt)
 have HS6_7 := Lib.hid ((HS6.out.below b7).more b7.size)
 clear b7 HB6 HO6 HX6 HS6 k0 k2
 have k0 : w7.cell? ⟨W.heap.size, 0, none⟩ = some (.int .i64 26) := HX7.out.cell 0
 have k2 : w7.cell? ⟨W.heap.size, 2, none⟩ = some (.string s) := HX7.out.cell 2
 have HS7 := Lib.hid s7
 clear s7
 go_wp2_with fail
 refine Calls.mono (r2_gluedN (((t0) ++ ([⟨5, ⟨#[46]⟩, 0⟩])) ++ ([⟨1, ⟨#[99, 111, 110, 116, 97, 105, 110, 115, 65, 108, 108]⟩, 0⟩])) (brT (t1)) A6 A7 c6 c7 w7 HS6_7.out HS7.out (by first | omega | (simp [brT]; done) | (simp [brT]; omega)) (by first | omega | (simp; done) | (simp; omega)) (by first | omega | (simp [brT]; done) | (simp [brT]; omega))) ?_
 rintro r w8 ⟨A8, c8, rfl, h8, m8, s8, b8⟩
 have HB8 := Lib.hid (HB7.out.trans (b8.mono HB7.out.size))
 have HO8 := Lib.hid (HO7.out.trans (b8.mono HO7.out.size))
 have HX8 := Lib.hid (HX7.out.below b8 HX7.out.lt)
 clear b8 HB7 HO7 HX7 k0 k2
 have k0 : w8.cell? ⟨W.heap.size, 0, none⟩ = some (.int .i64 26) := HX8.out.cell 0
 have k2 : w8.cell? ⟨W.heap.size, 2, none⟩ = some (.string s) := HX8.out.cell 2
 have HS8 := Lib.hid s8
 clear s8
 go_wp2_with fail
 refine bodyPost_ret (results_tmp2 rfl _ _ _) rfl ?_
 exact WBack.of (us := (((t0) ++ ([⟨5, ⟨#[46]⟩, 0⟩])) ++ ([⟨1, ⟨#[99, 111, 110, 116, 97, 105, 110, 115, 65, 108, 108]⟩, 0⟩])) ++ (brT (t1))) (by first | (rw [← HQ.out]; done) | (rw [← HQ.out]; simp only [brT, List.append_assoc, List.cons_append, List.nil_append] <;> rfl)) (by first | omega | (simp [brT]; done) | (simp [brT]; omega)) rfl h8 m8 HS8.out HB8.out
set_option maxHeartbeats 6400000 in
theorem wo_27 {e : List Nd} {b o c N i j : Nat} {w0 W : World} {n : Nd} {p0 p1 rest : List Nd} (h : WIn e b o c N w0 W n [p0, p1] rest i j) (ho : n.op = 27) :
   Calls Tryz.prog 26 #[.slice (some ⟨b, o, none⟩) e.length c, .int .i64 i] W fun r w' => WBack W r w' (nodeT n [p0, p1]) j := by
 obtain ⟨hi, hlt, hd0⟩ := drop_at h.at_
 have hNA := h.E.node h.on hi
 have HL := Lib.hid (fun W' => wo_level h.sh h.h7 ho (l := 7) (by rfl) W')
 obtain ⟨a0, ha0⟩ : ∃ a, i + 1 = a := ⟨_, rfl⟩
 obtain ⟨a1, ha1⟩ : ∃ a, a0 + p0.length = a := ⟨_, rfl⟩
 obtain ⟨a2, ha2⟩ : ∃ a, a1 + p1.length = a := ⟨_, rfl⟩
 have hd1 : e.drop a0 = p0 ++ (p1 ++ (rest)) := by rw [← ha0, hd0]; simp
 have hd2 : e.drop a1 = p1 ++ (rest) := by rw [← ha1]; exact drop_app hd1
 have HP0 := Lib.hid (fun W' (hb : RowKit.Below w0.heap.size w0 W') => r2_Part (l := 7) h.E h.ok W' (h.parts p0 (by simp)).1 (h.parts p0 (by simp)).2.1 (h.parts p0 (by simp)).2.2 hd1 ha1 hb)
 have q0 := part_bound (7) (h.parts p0 (by simp)).2.1 hd1 h.E.le
 have HP1 := Lib.hid (fun W' (hb : RowKit.Below w0.heap.size w0 W') => r2_Part (l := 0) h.E h.ok W' (h.parts p1 (by simp)).1 (h.parts p1 (by simp)).2.1 (h.parts p1 (by simp)).2.2 hd2 ha2 hb)
 have q1 := part_bound (0) (h.parts p1 (by simp)).2.1 hd2 h.E.le
 obtain rfl : a2 = j := by have := h.en; simp at this; omega
 obtain ⟨ws, hws⟩ : ∃ ws, nodeT n [p0, p1] = ws := ⟨_, rfl⟩
 have hq : partT (7) p0 ++ tSg [46] :: nmdW (btwW 27) :: tSg [40] :: (partT (0) p1 ++ [tSg [41]]) = ws := by rw [← hws]; unfold nodeT; simp [ho]
 obtain ⟨t0, ht0⟩ : ∃ t, partT (7) p0 = t := ⟨_, rfl⟩
 rw [ht0] at HP0 q0 hq
 obtain ⟨t1, ht1⟩ : ∃ t, partT (0) p1 = t := ⟨_, rfl⟩
 rw [ht1] at HP1 q1 hq
 have HQ := Lib.hid hq
 rw [hws]
 have HO := Lib.hid h.on
 have hle := h.E.le
 have hbw : b < W.heap.size := Nat.lt_of_lt_of_le h.E.hb h.on.size
 have i64 : IntKind.wrap .i64 ((i : Int) + 1) = (a0 : Int) := by rw [IntWalk.i64_in _ (by omega)]; omega
 obtain ⟨d0, d1, d2, d3⟩ := hNA
 obtain ⟨op, nn, s, t⟩ := n
 have ho : op = 27 := ho
 subst ho
 dsimp only at d0 d1 d2 d3
 clear h hi hd0 hws hq ha0 ha1 hd1 ht0 ha2 hd2 ht1
 go_enter Tryz.func26, Tryz.ntmps26
 go_wp2_with fail
 have HXa := Lib.hid (Blk.new W 29 #[.int .i64 27, .int .i64 nn, .string s, .string t])
 have hx : RowKit.Below W.heap.size W (W.alloc (.cells #[.int .i64 27, .int .i64 nn, .string s, .string t] 29)) := by (repeat (first | assumption | exact Below.refl _ _ | apply Below.drew | apply below_drewN | (refine Below.alloc ?_ (by first | exact Nat.le_refl _ | omega | (simp; done) | (simp; omega)) _)))
 generalize (W.alloc (.cells #[.int .i64 27, .int .i64 nn, .string s, .string t] 29)) = wa at HXa hx ⊢
 have HBa := Lib.hid hx
 have HOa := Lib.hid (HO.out.trans (hx.mono HO.out.size))
 clear hx d0 d1 d2 d3 HO
 have k0 : wa.cell? ⟨W.heap.size, 0, none⟩ = some (.int .i64 27) := HXa.out.cell 0
 have k2 : wa.cell? ⟨W.heap.size, 2, none⟩ = some (.string s) := HXa.out.cell 2
 refine (HL.out wa).mono ?_
 rintro r w0 ⟨rfl, b0⟩
 have HB0 := Lib.hid (HBa.out.trans (b0.mono HBa.out.size))
 have HO0 := Lib.hid (HOa.out.trans (b0.mono HOa.out.size))
 have HX0 := Lib.hid (HXa.out.below b0 HXa.out.lt)
 clear b0 HBa HOa HXa k0 k2
 have k0 : w0.cell? ⟨W.heap.size, 0, none⟩ = some (.int .i64 27) := HX0.out.cell 0
 have k2 : w0.cell? ⟨W.heap.size, 2, none⟩ = some (.string s) := HX0.out.cell 2
 go_wp2_with fail
 refine (HP0.out w0 HO0.out).mono ?_
 rintro r w1 ⟨A1, c1, rfl, h1, m1, s1, b1⟩
 have HB1 := Lib.hid (HB0.out.trans (b1.mono HB0.out.size))
 have HO1 := Lib.hid (HO0.out.trans (b1.mono HO0.out.size))
 have HX1 := Lib.hid (HX0.out.below b1 HX0.out.lt)
 clear b1 HB0 HO0 HX0 k0 k2
 have k0 : w1.cell? ⟨W.heap.size, 0, none⟩ = some (.int .i64 27) := HX1.out.cell 0
 have k2 : w1.cell? ⟨W.heap.size, 2, none⟩ = some (.string s) := HX1.out.cell 2
 have HS1 := Lib.hid s1
 clear s1
 go_wp2_with fail
 refine (r2_word 5 ⟨#[46]⟩ (w1)).mono ?_
 rintro r w2 ⟨A2, c2, rfl, h2, m2, s2, b2⟩
 have HB2 := Lib.hid (HB1.out.trans (b2.mono HB1.out.size))
 have HO2 := Lib.hid (HO1.out.trans (b2.mono HO1.out.size))
 have HX2 := Lib.hid (HX1.out.below b2 HX1.out.lt)
 have HS1_2 := Lib.hid ((HS1.out.below b2).more b2.size)
 clear b2 HB1 HO1 HX1 HS1 k0 k2
 have k0 : w2.cell? ⟨W.heap.size, 0, none⟩ = some (.int .i64 27) := HX2.out.cell 0
 have k2 : w2.cell? ⟨W.heap.size, 2, none⟩ = some (.string s) := HX2.out.cell 2
 have HS2 := Lib.hid s2
 clear s2
 go_wp2_with fail
 refine Calls.mono (r2_gluedN (t0) ([⟨5, ⟨#[46]⟩, 0⟩]) A1 A2 c1 c2 w2 HS1_2.out HS2.out (by first | omega | (simp; done) | (simp; omega)) (by first | omega | (simp; done) | (simp; omega)) (by first | omega | (simp; done) | (simp; omega))) ?_
 rintro r w3 ⟨A3, c3, rfl, h3, m3, s3, b3⟩
 have HB3 := Lib.hid (HB2.out.trans (b3.mono HB2.out.size))
 have HO3 := Lib.hid (HO2.out.trans (b3.mono HO2.out.size))
 have HX3 := Lib.hid (HX2.out.below b3 HX2.out.lt)
 clear b3 HB2 HO2 HX2 k0 k2
 have k0 : w3.cell? ⟨W.heap.size, 0, none⟩ = some (.int .i64 27) := HX3.out.cell 0
 have k2 : w3.cell? ⟨W.heap.size, 2, none⟩ = some (.string s) := HX3.out.cell 2
 have HS3 := Lib.hid s3
 clear s3
 go_wp2_with fail
 refine (HP1.out w3 HO3.out).mono ?_
 rintro r w4 ⟨A4, c4, rfl, h4, m4, s4, b4⟩
 have HB4 := Lib.hid (HB3.out.trans (b4.mono HB3.out.size))
 have HO4 := Lib.hid (HO3.out.trans (b4.mono HO3.out.size))
 have HX4 := Lib.hid (HX3.out.below b4 HX3.out.lt)
 have HS3_4 := Lib.hid ((HS3.out.below b4).more b4.size)
 clear b4 HB3 HO3 HX3 HS3 k0 k2
 have k0 : w4.cell? ⟨W.heap.size, 0, none⟩ = some (.int .i64 27) := HX4.out.cell 0
 have k2 : w4.cell? ⟨W.heap.size, 2, none⟩ = some (.string s) := HX4.out.cell 2
 have HS4 := Lib.hid s4
 clear s4
 go_wp2_with fail
 refine (r2_word 1 ⟨#[99, 111, 110, 116, 97, 105, 110, 115, 65, 110, 121]⟩ (w4)).mono ?_
 rintro r w5 ⟨A5, c5, rfl, h5, m5, s5, b5⟩
 have HB5 := Lib.hid (HB4.out.trans (b5.mono HB4.out.size))
 have HO5 := Lib.hid (HO4.out.trans (b5.mono HO4.out.size))
 have HX5 := Lib.hid (HX4.out.below b5 HX4.out.lt)
 have HS3_4_5 := Lib.hid ((HS3_4.out.below b5).more b5.size)
 have HS4_5 := Lib.hid ((HS4.out.below b5).more b5.size)
 clear b5 HB4 HO4 HX4 HS3_4 HS4 k0 k2
 have k0 : w5.cell? ⟨W.heap.size, 0, none⟩ = some (.int .i64 27) := HX5.out.cell 0
 have k2 : w5.cell? ⟨W.heap.size, 2, none⟩ = some (.string s) := HX5.out.cell 2
 have HS5 := Lib.hid s5
 clear s5
 go_wp2_with fail
 refine Calls.mono (r2_gluedN ((t0) ++ ([⟨5, ⟨#[46]⟩, 0⟩])) ([⟨1, ⟨#[99, 111, 110, 116, 97, 105, 110, 115, 65, 110, 121]⟩, 0⟩]) A3 A5 c3 c5 w5 HS3_4_5.out HS5.out (by first | omega | (simp; done) | (simp; omega)) (by first | omega | (simp; done) | (simp; omega)) (by first | omega | (simp; done) | (simp; omega))) ?_
 rintro r w6 ⟨A6, c6, rfl, h6, m6, s6, b6⟩
 have HB6 := Lib.hid (HB5.out.trans (b6.mono HB5.out.size))
 have HO6 := Lib.hid (HO5.out.trans (b6.mono HO5.out.size))
 have HX6 := Lib.hid (HX5.out.below b6 HX5.out.lt)
 have HS4_5_6 := Lib.hid ((HS4_5.out.below b6).more b6.size)
 clear b6 HB5 HO5 HX5 HS4_5 k0 k2
 have k0 : w6.cell? ⟨W.heap.size, 0, none⟩ = some (.int .i64 27) := HX6.out.cell 0
 have k2 : w6.cell? ⟨W.heap.size, 2, none⟩ = some (.string s) := HX6.out.cell 2
 have HS6 := Lib.hid s6
 clear s6
 go_wp2_with fail
 refine (r2_bracketed (t1) A4 c4 w6 HS4_5_6.out (by first | omega | (simp; done) | (simp; omega))).mono ?_
 rintro r w7 ⟨A7, c7, rfl, h7, m7, s7, b7⟩
 have HB7 := Lib.hid (HB6.out.trans (b7.mono HB6.out.size))
 have HO7 := Lib.hid (HO6.out.trans (b7.mono HO6.out.size))
 have HX7 := Lib.hid (HX6.out.below b7 HX6.out.lt)
 have HS6_7 := Lib.hid ((HS6.out.below b7).more b7.size)
 clear b7 HB6 HO6 HX6 HS6 k0 k2
 have k0 : w7.cell? ⟨W.heap.size, 0, none⟩ = some (.int .i64 27) := HX7.out.cell 0
 have k2 : w7.cell? ⟨W.heap.size, 2, none⟩ = some (.string s) := HX7.out.cell 2
 have HS7 := Lib.hid s7
 clear s7
 go_wp2_with fail
 refine Calls.mono (r2_gluedN (((t0) ++ ([⟨5, ⟨#[46]⟩, 0⟩])) ++ ([⟨1, ⟨#[99, 111, 110, 116, 97, 105, 110, 115, 65, 110, 121]⟩, 0⟩])) (brT (t1)) A6 A7 c6 c7 w7 HS6_7.out HS7.out (by first | omega | (simp [brT]; done) | (simp [brT]; omega)) (by first | omega | (simp; done) | (simp; omega)) (by first | omega | (simp [brT]; done) | (simp [brT]; omega))) ?_
 rintro r w8 ⟨A8, c8, rfl, h8, m8, s8, b8⟩
 have HB8 := Lib.hid (HB7.out.trans (b8.mono HB7.out.size))
 have HO8 := Lib.hid (HO7.out.trans (b8.mono HO7.out.size))
 have HX8 := Lib.hid (HX7.out.below b8 HX7.out.lt)
 clear b8 HB7 HO7 HX7 k0 k2
 have k0 : w8.cell? ⟨W.heap.size, 0, none⟩ = some (.int .i64 27) := HX8.out.cell 0
 have k2 : w8.cell? ⟨W.heap.size, 2, none⟩ = some (.string s) := HX8.out.cell 2
 have HS8 := Lib.hid s8
 clear s8
 go_wp2_with fail
 refine bodyPost_ret (results_tmp2 rfl _ _ _) rfl ?_
 exact WBack.of (us := (((t0) ++ ([⟨5, ⟨#[46]⟩, 0⟩])) ++ ([⟨1, ⟨#[99, 111, 110, 116, 97, 105, 110, 115, 65, 110, 121]⟩, 0⟩])) ++ (brT (t1))) (by first | (rw [← HQ.out]; done) | (rw [← HQ.out]; simp only [brT, List.append_assoc, List.cons_append, List.nil_append] <;> rfl)) (by first | omega | (simp [brT]; done) | (simp [brT]; omega)) rfl h8 m8 HS8.out HB8.out
end Go.Proofs.YtbggbcnfkcadjaaGreatDoor
