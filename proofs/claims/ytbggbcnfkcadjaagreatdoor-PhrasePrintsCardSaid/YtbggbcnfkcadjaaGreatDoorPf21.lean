/-
  THE WALKS of the reference that prints: atomWords at the leaves but numbers.
  THE WALKS of the reference that prints: atomWords at a number.
-/
import Derived.Test.YtbggbcnfkcadjaaGreatDoorPf20
namespace Go.Proofs.YtbggbcnfkcadjaaGreatDoor
set_option maxRecDepth 100000
open Go.RowKit Go.Sort
set_option maxHeartbeats 6400000 in
theorem aw_1 {e : List Nd} {b o c N i j : Nat} {w0 W : World} {n : Nd} {rest : List Nd} (h : WIn e b o c N w0 W n [] rest i j) (ho : n.op = 1) :
   Calls Tryz.prog 54 #[.slice (some ⟨b, o, none⟩) e.length c, .int .i64 i] W fun r w' => WBack W r w' (nodeT n []) j := by
 obtain ⟨hi, hlt, -⟩ := drop_at h.at_
 have hNA := h.E.node h.on hi
 obtain ⟨a0, ha0⟩ : ∃ a, i + 1 = a := ⟨_, rfl⟩
 obtain rfl : a0 = j := by have := h.en; simp at this; omega
 obtain ⟨ws, hws⟩ : ∃ ws, nodeT n [] = ws := ⟨_, rfl⟩
 have hq : [tNm (if n.n = 1 then wTrue else wFalse)] = ws := by rw [← hws]; unfold nodeT leafT; simp [ho]
 have HQ := Lib.hid hq
 rw [hws]
 have HO := Lib.hid h.on
 have hle := h.E.le
 have hbw : b < W.heap.size := Nat.lt_of_lt_of_le h.E.hb h.on.size
 have i64 : IntKind.wrap .i64 ((i : Int) + 1) = (a0 : Int) := by rw [IntWalk.i64_in _ (by omega)]; omega
 obtain ⟨d0, d1, d2, d3⟩ := hNA
 obtain ⟨op, nn, s, t⟩ := n
 have ho : op = 1 := ho
 subst ho
 dsimp only at d0 d1 d2 d3 HQ
 clear h hi hws hq ha0
 by_cases h1 : nn = 1
 · have tn : (nn == 1) = true := by simp [h1]
   have HQ2 : Hid ([tNm wTrue] = ws) := by show _ = _; rw [← HQ.out, if_pos h1]
   clear h1
   go_enter Tryz.func54, Tryz.ntmps54
   go_wp2_with fail
   have hx : RowKit.Below W.heap.size W (W.alloc (.cells #[.int .i64 1, .int .i64 nn, .string s, .string t] 29)) := by (repeat (first | assumption | exact Below.refl _ _ | apply Below.drew | apply below_drewN | (refine Below.alloc ?_ (by first | exact Nat.le_refl _ | omega | (simp; done) | (simp; omega)) _)))
   generalize (W.alloc (.cells #[.int .i64 1, .int .i64 nn, .string s, .string t] 29)) = wa at hx ⊢
   refine (r2_word 1 ⟨#[116, 114, 117, 101]⟩ wa).mono ?_
   rintro r w1 ⟨A1, c1, rfl, h1, m1, s1, b1⟩
   have HB1 := Lib.hid (hx.trans (b1.mono hx.size))
   have HS1 := Lib.hid s1
   clear s1 b1 hx
   go_wp2_with fail
   refine bodyPost_ret (results_tmp2 rfl _ _ _) rfl ?_
   exact WBack.of HQ2.out rfl rfl h1 m1 HS1.out HB1.out
 · have tn : (nn == 1) = false := by simp [h1]
   have HQ2 : Hid ([tNm wFalse] = ws) := by show _ = _; rw [← HQ.out, if_neg h1]
   clear h1
   go_enter Tryz.func54, Tryz.ntmps54
   go_wp2_with fail
   have hx : RowKit.Below W.heap.size W (W.alloc (.cells #[.int .i64 1, .int .i64 nn, .string s, .string t] 29)) := by (repeat (first | assumption | exact Below.refl _ _ | apply Below.drew | apply below_drewN | (refine Below.alloc ?_ (by first | exact Nat.le_refl _ | omega | (simp; done) | (simp; omega)) _)))
   generalize (W.alloc (.cells #[.int .i64 1, .int .i64 nn, .string s, .string t] 29)) = wa at hx ⊢
   refine (r2_word 1 ⟨#[102, 97, 108, 115, 101]⟩ wa).mono ?_
   rintro r w1 ⟨A1, c1, rfl, h1, m1, s1, b1⟩
   have HB1 := Lib.hid (hx.trans (b1.mono hx.size))
   have HS1 := Lib.hid s1
   clear s1 b1 hx
   go_wp2_with fail
   refine bodyPost_ret (results_tmp2 rfl _ _ _) rfl ?_
   exact WBack.of HQ2.out rfl rfl h1 m1 HS1.out HB1.out
set_option maxHeartbeats 6400000 in
theorem aw_3 {e : List Nd} {b o c N i j : Nat} {w0 W : World} {n : Nd} {rest : List Nd} (h : WIn e b o c N w0 W n [] rest i j) (ho : n.op = 3) :
   Calls Tryz.prog 54 #[.slice (some ⟨b, o, none⟩) e.length c, .int .i64 i] W fun r w' => WBack W r w' (nodeT n []) j := by
 obtain ⟨hi, hlt, -⟩ := drop_at h.at_
 have hNA := h.E.node h.on hi
 obtain ⟨a0, ha0⟩ : ∃ a, i + 1 = a := ⟨_, rfl⟩
 obtain rfl : a0 = j := by have := h.en; simp at this; omega
 obtain ⟨ws, hws⟩ : ∃ ws, nodeT n [] = ws := ⟨_, rfl⟩
 have hq : [⟨3, n.s, 0⟩] = ws := by rw [← hws]; unfold nodeT leafT; simp [ho]
 have HQ := Lib.hid hq
 rw [hws]
 have HO := Lib.hid h.on
 have hle := h.E.le
 have hbw : b < W.heap.size := Nat.lt_of_lt_of_le h.E.hb h.on.size
 have i64 : IntKind.wrap .i64 ((i : Int) + 1) = (a0 : Int) := by rw [IntWalk.i64_in _ (by omega)]; omega
 obtain ⟨d0, d1, d2, d3⟩ := hNA
 obtain ⟨op, nn, s, t⟩ := n
 have ho : op = 3 := ho
 subst ho
 dsimp only at d0 d1 d2 d3 HQ
 clear h hi hws hq ha0
 go_enter Tryz.func54, Tryz.ntmps54
 go_wp2_with fail
 have hx : RowKit.Below W.heap.size W (W.alloc (.cells #[.int .i64 3, .int .i64 nn, .string s, .string t] 29)) := by (repeat (first | assumption | exact Below.refl _ _ | apply Below.drew | apply below_drewN | (refine Below.alloc ?_ (by first | exact Nat.le_refl _ | omega | (simp; done) | (simp; omega)) _)))
 generalize (W.alloc (.cells #[.int .i64 3, .int .i64 nn, .string s, .string t] 29)) = wa at hx ⊢
 refine (r2_word 3 s wa).mono ?_
 rintro r w1 ⟨A1, c1, rfl, h1, m1, s1, b1⟩
 have HB1 := Lib.hid (hx.trans (b1.mono hx.size))
 have HS1 := Lib.hid s1
 clear s1 b1 hx
 go_wp2_with fail
 refine bodyPost_ret (results_tmp2 rfl _ _ _) rfl ?_
 exact WBack.of HQ.out rfl rfl h1 m1 HS1.out HB1.out
set_option maxHeartbeats 6400000 in
theorem aw_4 {e : List Nd} {b o c N i j : Nat} {w0 W : World} {n : Nd} {rest : List Nd} (h : WIn e b o c N w0 W n [] rest i j) (ho : n.op = 4) :
   Calls Tryz.prog 54 #[.slice (some ⟨b, o, none⟩) e.length c, .int .i64 i] W fun r w' => WBack W r w' (nodeT n []) j := by
 obtain ⟨hi, hlt, -⟩ := drop_at h.at_
 have hNA := h.E.node h.on hi
 obtain ⟨a0, ha0⟩ : ∃ a, i + 1 = a := ⟨_, rfl⟩
 obtain rfl : a0 = j := by have := h.en; simp at this; omega
 obtain ⟨ws, hws⟩ : ∃ ws, nodeT n [] = ws := ⟨_, rfl⟩
 have hq : [⟨1, n.s, 0⟩, tSg wCol, ⟨3, n.t, 0⟩] = ws := by rw [← hws]; unfold nodeT leafT; simp [ho]
 have HQ := Lib.hid hq
 rw [hws]
 have HO := Lib.hid h.on
 have hle := h.E.le
 have hbw : b < W.heap.size := Nat.lt_of_lt_of_le h.E.hb h.on.size
 have i64 : IntKind.wrap .i64 ((i : Int) + 1) = (a0 : Int) := by rw [IntWalk.i64_in _ (by omega)]; omega
 obtain ⟨d0, d1, d2, d3⟩ := hNA
 obtain ⟨op, nn, s, t⟩ := n
 have ho : op = 4 := ho
 subst ho
 dsimp only at d0 d1 d2 d3 HQ
 clear h hi hws hq ha0
 go_enter Tryz.func54, Tryz.ntmps54
 go_wp2_with fail
 have HXa := Lib.hid (Blk.new W 29 #[.int .i64 4, .int .i64 nn, .string s, .string t])
 have hx : RowKit.Below W.heap.size W (W.alloc (.cells #[.int .i64 4, .int .i64 nn, .string s, .string t] 29)) := by (repeat (first | assumption | exact Below.refl _ _ | apply Below.drew | apply below_drewN | (refine Below.alloc ?_ (by first | exact Nat.le_refl _ | omega | (simp; done) | (simp; omega)) _)))
 generalize (W.alloc (.cells #[.int .i64 4, .int .i64 nn, .string s, .string t] 29)) = wa at HXa hx ⊢
 have HBa := Lib.hid hx
 have HOa := Lib.hid (HO.out.trans (hx.mono HO.out.size))
 clear hx d0 d1 d2 d3 HO
 have k0 : wa.cell? ⟨W.heap.size, 0, none⟩ = some (.int .i64 4) := HXa.out.cell 0
 have k1 : wa.cell? ⟨W.heap.size, 1, none⟩ = some (.int .i64 nn) := HXa.out.cell 1
 have k2 : wa.cell? ⟨W.heap.size, 2, none⟩ = some (.string s) := HXa.out.cell 2
 have k3 : wa.cell? ⟨W.heap.size, 3, none⟩ = some (.string t) := HXa.out.cell 3
 refine wp_region_ord (S := fun W2 => W2.cell? ⟨W.heap.size, 2, none⟩ = some (.string s) ∧ W2.cell? ⟨W.heap.size, 3, none⟩ = some (.string t)) [(0, false), (1, false), (4, false), (5, false), (9, false), (10, false), (2, true), (3, true), (6, true), (7, true), (8, true), (11, false), (12, false)] (by kernel_rfl) (by kernel_rfl) (fun _ _ _ _ _ h => h) ⟨k2, k3⟩ (fun hW' => ?_)
 simp only [ordOps, List.filterMap_cons, List.filterMap_nil, List.getElem?_cons_zero, List.getElem?_cons_succ, Option.map_some]
 clear hW'
 (repeat (first | (refine hd_take (v := ?_) (by rfl) ?_ ?_; rotate_left; (focus (intro W hW; obtain ⟨s0, s1⟩ := hW; go_simp; try with_reducible rfl)); simp only [Act.put, List.setIfInBounds_toArray, List.set_cons_zero, List.set_cons_succ]) | (refine hd_skip (by rfl) ?_; simp only [Act.put, List.setIfInBounds_toArray, List.set_cons_zero, List.set_cons_succ])))
 refine hd_call (fun K hK => ?_)
 go_simp
 refine (r2_word 1 s (wa.drew)).mono ?_
 rintro r w0 ⟨A0, c0, rfl, h0, m0, s0, b0⟩
 have b0 := below_of_drew b0
 have HB0 := Lib.hid (HBa.out.trans (b0.mono HBa.out.size))
 have HO0 := Lib.hid (HOa.out.trans (b0.mono HOa.out.size))
 have HX0 := Lib.hid (HXa.out.below b0 HXa.out.lt)
 clear b0 HBa HOa HXa k0 k1 k2 k3
 have k0 : w0.cell? ⟨W.heap.size, 0, none⟩ = some (.int .i64 4) := HX0.out.cell 0
 have k1 : w0.cell? ⟨W.heap.size, 1, none⟩ = some (.int .i64 nn) := HX0.out.cell 1
 have k2 : w0.cell? ⟨W.heap.size, 2, none⟩ = some (.string s) := HX0.out.cell 2
 have k3 : w0.cell? ⟨W.heap.size, 3, none⟩ = some (.string t) := HX0.out.cell 3
 have HS0 := Lib.hid s0
 clear s0
 refine hK _ _ ⟨k2, k3⟩ ?_
 clear hK K
 (repeat (first | (refine hd_take (v := ?_) (by rfl) ?_ ?_; rotate_left; (focus (intro W hW; obtain ⟨s0, s1⟩ := hW; go_simp; try with_reducible rfl)); simp only [Act.put, List.setIfInBounds_toArray, List.set_cons_zero, List.set_cons_succ]) | (refine hd_skip (by rfl) ?_; simp only [Act.put, List.setIfInBounds_toArray, List.set_cons_zero, List.set_cons_succ])))
 refine hd_call (fun K hK => ?_)
 go_simp
 refine (r2_word 5 ⟨#[58, 58]⟩ (w0)).mono ?_
 rintro r w1 ⟨A1, c1, rfl, h1, m1, s1, b1⟩
 have HB1 := Lib.hid (HB0.out.trans (b1.mono HB0.out.size))
 have HO1 := Lib.hid (HO0.out.trans (b1.mono HO0.out.size))
 have HX1 := Lib.hid (HX0.out.below b1 HX0.out.lt)
 have HS0_1 := Lib.hid ((HS0.out.below b1).more b1.size)
 clear b1 HB0 HO0 HX0 HS0 k0 k1 k2 k3
 have k0 : w1.cell? ⟨W.heap.size, 0, none⟩ = some (.int .i64 4) := HX1.out.cell 0
 have k1 : w1.cell? ⟨W.heap.size, 1, none⟩ = some (.int .i64 nn) := HX1.out.cell 1
 have k2 : w1.cell? ⟨W.heap.size, 2, none⟩ = some (.string s) := HX1.out.cell 2
 have k3 : w1.cell? ⟨W.heap.size, 3, none⟩ = some (.string t) := HX1.out.cell 3
 have HS1 := Lib.hid s1
 clear s1
 refine hK _ _ ⟨k2, k3⟩ ?_
 clear hK K
 (repeat (first | (refine hd_take (v := ?_) (by rfl) ?_ ?_; rotate_left; (focus (intro W hW; obtain ⟨s0, s1⟩ := hW; go_simp; try with_reducible rfl)); simp only [Act.put, List.setIfInBounds_toArray, List.set_cons_zero, List.set_cons_succ]) | (refine hd_skip (by rfl) ?_; simp only [Act.put, List.setIfInBounds_toArray, List.set_cons_zero, List.set_cons_succ])))
 refine hd_call (fun K hK => ?_)
 go_simp
 refine (r2_word 3 t (w1)).mono ?_
 rintro r w2 ⟨A2, c2, rfl, h2, m2, s2, b2⟩
 have HB2 := Lib.hid (HB1.out.trans (b2.mono HB1.out.size))
 have HO2 := Lib.hid (HO1.out.trans (b2.mono HO1.out.size))
 have HX2 := Lib.hid (HX1.out.below b2 HX1.out.lt)
 have HS0_1_2 := Lib.hid ((HS0_1.out.below b2).more b2.size)
 have HS1_2 := Lib.hid ((HS1.out.below b2).more b2.size)
 clear b2 HB1 HO1 HX1 HS0_1 HS1 k0 k1 k2 k3
 have k0 : w2.cell? ⟨W.heap.size, 0, none⟩ = some (.int .i64 4) := HX2.out.cell 0
 have k1 : w2.cell? ⟨W.heap.size, 1, none⟩ = some (.int .i64 nn) := HX2.out.cell 1
 have k2 : w2.cell? ⟨W.heap.size, 2, none⟩ = some (.string s) := HX2.out.cell 2
 have k3 : w2.cell? ⟨W.heap.size, 3, none⟩ = some (.string t) := HX2.out.cell 3
 have HS2 := Lib.hid s2
 clear s2
 refine hK _ _ ⟨k2, k3⟩ ?_
 clear hK K
 (repeat (first | (refine hd_take (v := ?_) (by rfl) ?_ ?_; rotate_left; (focus (intro W hW; obtain ⟨s0, s1⟩ := hW; go_simp; try with_reducible rfl)); simp only [Act.put, List.setIfInBounds_toArray, List.set_cons_zero, List.set_cons_succ]) | (refine hd_skip (by rfl) ?_; simp only [Act.put, List.setIfInBounds_toArray, List.set_cons_zero, List.set_cons_succ])))
 refine hd_call (fun K hK => ?_)
 go_simp
 refine Calls.mono (r2_gluedN ([⟨5, ⟨#[58, 58]⟩, 0⟩]) ([⟨3, t, 0⟩]) A1 A2 c1 c2 w2 HS1_2.out HS2.out (by first | omega | (simp; done) | (simp; omega)) (by first | omega | (simp; done) | (simp; omega)) (by first | omega | (simp; done) | (simp; omega))) ?_
 rintro r w3 ⟨A3, c3, rfl, h3, m3, s3, b3⟩
 have HB3 := Lib.hid (HB2.out.trans (b3.mono HB2.out.size))
 have HO3 := Lib.hid (HO2.out.trans (b3.mono HO2.out.size))
 have HX3 := Lib.hid (HX2.out.below b3 HX2.out.lt)
 have HS0_1_2_3 := Lib.hid ((HS0_1_2.out.below b3).more b3.size)
 clear b3 HB2 HO2 HX2 HS0_1_2 k0 k1 k2 k3
 have k0 : w3.cell? ⟨W.heap.size, 0, none⟩ = some (.int .i64 4) := HX3.out.cell 0
 have k1 : w3.cell? ⟨W.heap.size, 1, none⟩ = some (.int .i64 nn) := HX3.out.cell 1
 have k2 : w3.cell? ⟨W.heap.size, 2, none⟩ = some (.string s) := HX3.out.cell 2
 have k3 : w3.cell? ⟨W.heap.size, 3, none⟩ = some (.string t) := HX3.out.cell 3
 have HS3 := Lib.hid s3
 clear s3
 refine hK _ _ ⟨k2, k3⟩ ?_
 clear hK K
 (repeat (first | (refine hd_take (v := ?_) (by rfl) ?_ ?_; rotate_left; (focus (intro W hW; obtain ⟨s0, s1⟩ := hW; go_simp; try with_reducible rfl)); simp only [Act.put, List.setIfInBounds_toArray, List.set_cons_zero, List.set_cons_succ]) | (refine hd_skip (by rfl) ?_; simp only [Act.put, List.setIfInBounds_toArray, List.set_cons_zero, List.set_cons_succ])))
 refine hd_call (fun K hK => ?_)
 go_simp
 refine Calls.mono (r2_gluedN ([⟨1, s, 0⟩]) (([⟨5, ⟨#[58, 58]⟩, 0⟩]) ++ ([⟨3, t, 0⟩])) A0 A3 c0 c3 w3 HS0_1_2_3.out HS3.out (by first | omega | (simp; done) | (simp; omega)) (by first | omega | (simp; done) | (simp; omega)) (by first | omega | (simp; done) | (simp; omega))) ?_
 rintro r w4 ⟨A4, c4, rfl, h4, m4, s4, b4⟩
 have HB4 := Lib.hid (HB3.out.trans (b4.mono HB3.out.size))
 have HO4 := Lib.hid (HO3.out.trans (b4.mono HO3.out.size))
 have HX4 := Lib.hid (HX3.out.below b4 HX3.out.lt)
 clear b4 HB3 HO3 HX3 k0 k1 k2 k3
 have k0 : w4.cell? ⟨W.heap.size, 0, none⟩ = some (.int .i64 4) := HX4.out.cell 0
 have k1 : w4.cell? ⟨W.heap.size, 1, none⟩ = some (.int .i64 nn) := HX4.out.cell 1
 have k2 : w4.cell? ⟨W.heap.size, 2, none⟩ = some (.string s) := HX4.out.cell 2
 have k3 : w4.cell? ⟨W.heap.size, 3, none⟩ = some (.string t) := HX4.out.cell 3
 have HS4 := Lib.hid s4
 clear s4
 refine hK _ _ ⟨k2, k3⟩ ?_
 clear hK K
 (repeat (first | (refine hd_take (v := ?_) (by rfl) ?_ ?_; rotate_left; (focus (intro W hW; obtain ⟨s0, s1⟩ := hW; go_simp; try with_reducible rfl)); simp only [Act.put, List.setIfInBounds_toArray, List.set_cons_zero, List.set_cons_succ]) | (refine hd_skip (by rfl) ?_; simp only [Act.put, List.setIfInBounds_toArray, List.set_cons_zero, List.set_cons_succ])))
 refine hd_nil ?_
 go_wp2_with fail
 refine bodyPost_ret (results_tmp2 rfl _ _ _) rfl ?_
 exact WBack.of (us := ([⟨1, s, 0⟩]) ++ (([⟨5, ⟨#[58, 58]⟩, 0⟩]) ++ ([⟨3, t, 0⟩]))) (HQ.out) rfl rfl h4 m4 HS4.out HB4.out
set_option maxHeartbeats 6400000 in
theorem aw_8 {e : List Nd} {b o c N i j : Nat} {w0 W : World} {n : Nd} {rest : List Nd} (h : WIn e b o c N w0 W n [] rest i j) (ho : n.op = 8) :
   Calls Tryz.prog 54 #[.slice (some ⟨b, o, none⟩) e.length c, .int .i64 i] W fun r w' => WBack W r w' (nodeT n []) j := by
 obtain ⟨hi, hlt, -⟩ := drop_at h.at_
 have hNA := h.E.node h.on hi
 obtain ⟨a0, ha0⟩ : ∃ a, i + 1 = a := ⟨_, rfl⟩
 obtain rfl : a0 = j := by have := h.en; simp at this; omega
 have hsh := h.sh
 obtain ⟨ws, hws⟩ : ∃ ws, nodeT n [] = ws := ⟨_, rfl⟩
 have hq : varT n.s = ws := by rw [← hws]; unfold nodeT leafT; simp [ho]
 have HQ := Lib.hid hq
 rw [hws]
 have HO := Lib.hid h.on
 have hle := h.E.le
 have hbw : b < W.heap.size := Nat.lt_of_lt_of_le h.E.hb h.on.size
 have i64 : IntKind.wrap .i64 ((i : Int) + 1) = (a0 : Int) := by rw [IntWalk.i64_in _ (by omega)]; omega
 obtain ⟨d0, d1, d2, d3⟩ := hNA
 obtain ⟨op, nn, s, t⟩ := n
 have ho : op = 8 := ho
 subst ho
 dsimp only at d0 d1 d2 d3 hsh HQ
 clear h hi hws hq ha0
 have h0 : 0 < s.size := by
   rcases Nat.eq_zero_or_pos s.size with h0 | h0
   · exfalso
     have hl : s.toList = [] := toList_nil (by omega)
     unfold shapedT at hsh
     simp [hl] at hsh
     exact absurd hsh.2 (by decide)
   · exact h0
 obtain ⟨l, hl0⟩ := toList_cons h0
 have HL := Lib.hid hl0
 clear hsh hl0
 by_cases hq : s[0] = 63
 · have hqi : ((s[0].toNat : Int) == 63) = true := by rw [hq]; rfl
   have HE : Hid ([⟨4, s.extract 1 s.size, 0⟩] = ws) := by
     show _ = _
     rw [← HQ.out]
     unfold varT
     rw [HL.out, hq]
     have hx := extract_one s
     rw [HL.out] at hx
     show _ = [(⟨4, bsOf l, 0⟩ : Tk)]
     rw [← bsOf_toList (s.extract 1 s.size), hx]
     rfl
   clear hq
   go_enter Tryz.func54, Tryz.ntmps54
   go_wp2_with fail
   have hx : RowKit.Below W.heap.size W (W.alloc (.cells #[.int .i64 8, .int .i64 nn, .string s, .string t] 29)) := by (repeat (first | assumption | exact Below.refl _ _ | apply Below.drew | apply below_drewN | (refine Below.alloc ?_ (by first | exact Nat.le_refl _ | omega | (simp; done) | (simp; omega)) _)))
   generalize (W.alloc (.cells #[.int .i64 8, .int .i64 nn, .string s, .string t] 29)) = wa at hx ⊢
   refine (r2_word 4 (s.extract 1 s.size) wa).mono ?_
   rintro r w1 ⟨A1, c1, rfl, h1, m1, s1, b1⟩
   have HB1 := Lib.hid (hx.trans (b1.mono hx.size))
   have HS1 := Lib.hid s1
   clear s1 b1 hx
   go_wp2_with fail
   refine bodyPost_ret (results_tmp2 rfl _ _ _) rfl ?_
   exact WBack.of HE.out rfl rfl h1 m1 HS1.out HB1.out
 · have hqi : ((s[0].toNat : Int) == 63) = false := by
     rw [beq_eq_false_iff_ne]; intro hc; apply hq; apply UInt8.toNat_inj.1; simp; omega
   have HE : Hid ([⟨1, s, 0⟩] = ws) := by
     show _ = _
     rw [← HQ.out]
     unfold varT
     rw [HL.out]
     split
     · rename_i q he
       injection he with he _
       exact absurd he hq
     · rfl
   clear hq
   go_enter Tryz.func54, Tryz.ntmps54
   go_wp2_with fail
   have hx : RowKit.Below W.heap.size W (W.alloc (.cells #[.int .i64 8, .int .i64 nn, .string s, .string t] 29)) := by (repeat (first | assumption | exact Below.refl _ _ | apply Below.drew | apply below_drewN | (refine Below.alloc ?_ (by first | exact Nat.le_refl _ | omega | (simp; done) | (simp; omega)) _)))
   generalize (W.alloc (.cells #[.int .i64 8, .int .i64 nn, .string s, .string t] 29)) = wa at hx ⊢
   refine (r2_word 1 s wa).mono ?_
   rintro r w1 ⟨A1, c1, rfl, h1, m1, s1, b1⟩
   have HB1 := Lib.hid (hx.trans (b1.mono hx.size))
   have HS1 := Lib.hid s1
   clear s1 b1 hx
   go_wp2_with fail
   refine bodyPost_ret (results_tmp2 rfl _ _ _) rfl ?_
   exact WBack.of HE.out rfl rfl h1 m1 HS1.out HB1.out
end Go.Proofs.YtbggbcnfkcadjaaGreatDoor
namespace Go.Proofs.YtbggbcnfkcadjaaGreatDoor
set_option maxRecDepth 100000
open Go.RowKit Go.Sort
def DigP (n m : Int) (l : List UInt8) : Prop := (l = [] ∧ m = n) ∨ (l ≠ [] ∧ Lib.decDigits n.natAbs = (if m = 0 then [] else Lib.decDigits m.natAbs) ++ l)
theorem DigP.next {n m : Int} {l : List UInt8} (h : DigP n m l) (hc : m ≠ 0 ∨ l = []) : DigP n (Int.tdiv m 10) (UInt8.ofNat (48 + m.natAbs % 10) :: l) := by
 right
 refine ⟨by simp, ?_⟩
 have hd : (Int.tdiv m 10).natAbs = m.natAbs / 10 := by rw [Int.natAbs_tdiv]; rfl
 have hz : Int.tdiv m 10 = 0 ↔ m.natAbs < 10 := by
   constructor
   · intro h1
     rw [h1] at hd
     simp at hd
     omega
   · intro h1
     have : (Int.tdiv m 10).natAbs = 0 := by rw [hd]; omega
     exact Int.natAbs_eq_zero.1 this
 have step : (if m = 0 ∧ l ≠ [] then [] else Lib.decDigits m.natAbs) = (if Int.tdiv m 10 = 0 then [] else Lib.decDigits (Int.tdiv m 10).natAbs) ++ [UInt8.ofNat (48 + m.natAbs % 10)] := by
   have hn : ¬ (m = 0 ∧ l ≠ []) := fun ⟨h1, h2⟩ => by rcases hc with h | h <;> contradiction
   rw [if_neg hn]
   by_cases h10 : m.natAbs < 10
   · rw [if_pos (hz.2 h10), Lib.decDigits, dif_pos h10, Nat.mod_eq_of_lt h10]; rfl
   · rw [if_neg (fun h1 => h10 (hz.1 h1)), hd, dec_step _ h10]
 rcases h with ⟨rfl, rfl⟩ | ⟨hl, h⟩
 · rw [if_neg (by simp)] at step
   exact step
 · have hm : m ≠ 0 := hc.resolve_right hl
   rw [if_neg (by simp [hm])] at step
   rw [h, if_neg hm, step, List.append_assoc]
   rfl
theorem DigP.done {n : Int} {l : List UInt8} (h : DigP n 0 l) (hl : l ≠ []) : l = Lib.decDigits n.natAbs := by
 rcases h with ⟨h, -⟩ | ⟨-, h⟩
 · exact absurd h hl
 · rw [if_pos rfl, List.nil_append] at h; exact h.symm
theorem digit_ext (k : Nat) (h : k < 10) : (⟨#[48, 49, 50, 51, 52, 53, 54, 55, 56, 57]⟩ : ByteArray).extract k (k + 1) = ⟨#[UInt8.ofNat (48 + k)]⟩ := by
 match k with
 | 0 | 1 | 2 | 3 | 4 | 5 | 6 | 7 | 8 | 9 => rfl
 | _ + 10 => omega
theorem digit_put (c : UInt8) (l : List UInt8) : (⟨#[c]⟩ : ByteArray) ++ bsOf l = bsOf (c :: l) := by
 apply ByteArray.ext
 rw [ByteArray.data_append]
 simp [bsOf]
theorem DigP.len {n m : Int} {l : List UInt8} (h : DigP n m l) (h1 : -9223372036854775808 ≤ n) (h2 : n ≤ 9223372036854775807) : l.length ≤ 20 := by
 rcases h with ⟨rfl, -⟩ | ⟨-, h⟩
 · simp
 · have h3 := dec_len 19 n.natAbs (by omega)
   have h4 := congrArg List.length h
   rw [List.length_append] at h4
   omega
def digMs (tx mm : Value) : Nat := (intOf mm).natAbs + (match tx with | .string s => if s.size = 0 then 1 else 0 | _ => 0)
theorem digMs_lt {m m' : Int} {l l' : List UInt8} (h : m'.natAbs = m.natAbs / 10) (hc : m ≠ 0 ∨ l = []) (hl : l' ≠ []) : digMs (.string (bsOf l')) (.int .i64 m') < digMs (.string (bsOf l)) (.int .i64 m) := by
 have e1 : digMs (.string (bsOf l')) (.int .i64 m') = m'.natAbs := by
   show m'.natAbs + (if (bsOf l').size = 0 then 1 else 0) = _
   rw [bsOf_sz, if_neg (by intro h; exact hl (List.eq_nil_of_length_eq_zero h))]; omega
 have e2 : digMs (.string (bsOf l)) (.int .i64 m) = m.natAbs + (if l.length = 0 then 1 else 0) := by
   show m.natAbs + (if (bsOf l).size = 0 then 1 else 0) = _
   rw [bsOf_sz]
 rw [e1, e2, h]
 rcases hc with hc | rfl
 · have : m.natAbs ≠ 0 := fun h => hc (Int.natAbs_eq_zero.1 h)
   omega
 · simp only [List.length_nil, if_true]; omega
theorem tmod_pos {m : Int} (h : 0 ≤ m) : Int.tmod m 10 = ((m.natAbs % 10 : Nat) : Int) := by
 obtain ⟨k, rfl⟩ := Int.eq_ofNat_of_zero_le h
 rfl
theorem tmod_neg {m : Int} (h : m < 0) : Int.tmod m 10 = -((m.natAbs % 10 : Nat) : Int) := by
 obtain ⟨k, rfl⟩ : ∃ k : Nat, m = -(k : Int) := ⟨m.natAbs, by omega⟩
 rw [Int.neg_tmod, Int.natAbs_neg]
 rfl
theorem bs_nil_iff (l : List UInt8) : ((bsOf l).toList == []) = l.isEmpty := by rw [bsOf_list]; cases l <;> rfl
set_option maxHeartbeats 12800000 in
theorem aw_2 {e : List Nd} {b o c N i j : Nat} {w0 W : World} {n : Nd} {rest : List Nd} (h : WIn e b o c N w0 W n [] rest i j) (ho : n.op = 2) (hk : -9223372036854775808 ≤ n.n ∧ n.n ≤ 9223372036854775807) :
   Calls Tryz.prog 54 #[.slice (some ⟨b, o, none⟩) e.length c, .int .i64 i] W fun r w' => WBack W r w' (nodeT n []) j := by
 obtain ⟨hi, hlt, -⟩ := drop_at h.at_
 have hNA := h.E.node h.on hi
 obtain ⟨a0, ha0⟩ : ∃ a, i + 1 = a := ⟨_, rfl⟩
 obtain rfl : a0 = j := by have := h.en; simp at this; omega
 obtain ⟨ws, hws⟩ : ∃ ws, nodeT n [] = ws := ⟨_, rfl⟩
 have hq : numT n.n = ws := by rw [← hws]; unfold nodeT leafT; simp [ho]
 have HQ := Lib.hid hq
 rw [hws]
 have hle := h.E.le
 have hbw : b < W.heap.size := Nat.lt_of_lt_of_le h.E.hb h.on.size
 have i64 : IntKind.wrap .i64 ((i : Int) + 1) = (a0 : Int) := by rw [IntWalk.i64_in _ (by omega)]; omega
 obtain ⟨d0, d1, d2, d3⟩ := hNA
 obtain ⟨op, nn, s, t⟩ := n
 have ho : op = 2 := ho
 subst ho
 have hk : -9223372036854775808 ≤ nn ∧ nn ≤ 9223372036854775807 := hk
 dsimp only at d0 d1 d2 d3 HQ
 clear h hi hws hq ha0
 go_enter Tryz.func54, Tryz.ntmps54
 go_wp2_with fail
 have HXa := Lib.hid (Blk.new W 29 #[.int .i64 2, .int .i64 nn, .string s, .string t])
 have hx : RowKit.Below W.heap.size W (W.alloc (.cells #[.int .i64 2, .int .i64 nn, .string s, .string t] 29)) := by (repeat (first | assumption | exact Below.refl _ _ | apply Below.drew | apply below_drewN | (refine Below.alloc ?_ (by first | exact Nat.le_refl _ | omega | (simp; done) | (simp; omega)) _)))
 generalize (W.alloc (.cells #[.int .i64 2, .int .i64 nn, .string s, .string t] 29)) = wa at HXa hx ⊢
 have HBa := Lib.hid hx
 clear hx d0 d1 d2 d3
 go_loopw [7, 8] (fun tx mm wr => ∃ (m : Int) (l : List UInt8), tx = .string (bsOf l) ∧ mm = .int .i64 m ∧ -9223372036854775808 ≤ m ∧ m ≤ 9223372036854775807 ∧ Hid (DigP nn m l) ∧ RowKit.Below wa.heap.size wa wr) (fun tx mm _ => digMs tx mm)
 case atStart => exact ⟨nn, [], rfl, rfl, hk.1, hk.2, .inl ⟨rfl, rfl⟩, RowKit.Below.refl _ _⟩
 case round =>
   obtain ⟨m, l, rfl, rfl, hm1, hm2, HD, hbr⟩ := hrel
   have HBR := Lib.hid (HBa.out.trans (hbr.mono HBa.out.size))
   have HXr := Lib.hid (HXa.out.below hbr HXa.out.lt)
   have hll := HD.out.len hk.1 hk.2
   have hbl : (bsOf l).size ≤ 20 := by rw [bsOf_sz]; exact hll
   have k1 : wr.cell? ⟨W.heap.size, 1, none⟩ = some (.int .i64 nn) := HXr.out.cell 1
   by_cases hc : m ≠ 0 ∨ l = []
   · obtain ⟨k, hkk⟩ : ∃ k, m.natAbs % 10 = k := ⟨_, rfl⟩
     have hk10 : k < 10 := by omega
     have HC := Lib.hid hc
     have HN : Hid (DigP nn (Int.tdiv m 10) (UInt8.ofNat (48 + k) :: l)) := by rw [← hkk]; exact HD.out.next hc
     have HS : Hid ((⟨#[48, 49, 50, 51, 52, 53, 54, 55, 56, 57]⟩ : ByteArray).extract k (k + 1) ++ bsOf l = bsOf (UInt8.ofNat (48 + k) :: l)) := by show _ = _; rw [digit_ext k hk10, digit_put]
     have hd : (Int.tdiv m 10).natAbs = m.natAbs / 10 := by rw [Int.natAbs_tdiv]; rfl
     have HM := Lib.hid (digMs_lt (l' := UInt8.ofNat (48 + k) :: l) hd hc (by simp))
     have b1 : -9223372036854775808 ≤ Int.tdiv m 10 := by omega
     have b2 : Int.tdiv m 10 ≤ 9223372036854775807 := by omega
     have HB12 := Lib.hid (And.intro b1 b2)
     have hsz : ((⟨#[48, 49, 50, 51, 52, 53, 54, 55, 56, 57]⟩ : ByteArray).extract k (k + 1)).size = 1 := by rw [digit_ext k hk10]; rfl
     have tt : ((m != 0) || ((bsOf l).toList == [])) = true := by
       rcases hc with h | h
       · simp [h]
       · rw [bs_nil_iff, h]; simp
     clear hc hd b1 b2 hll
     by_cases hm0 : m = 0
     · subst hm0
       obtain rfl : k = 0 := by rw [← hkk]; rfl
       have hz : Int.tdiv 0 10 = 0 := rfl
       rw [hz] at HN HM HB12
       have tl : ((bsOf l).toList == []) = true := by simpa using tt
       clear tt hkk hz
       go_wp2_with fail
       rw [HS.out]
       exact ⟨⟨0, _, rfl, rfl, HB12.out.1, HB12.out.2, HN.out, hbr⟩, HM.out⟩
     · have t0 : (m != 0) = true := by simp [hm0]
       by_cases h0 : 0 ≤ m
       · have hmt := tmod_pos h0
         rw [hkk] at hmt
         have hdv : Int.tdiv m 10 = m / 10 := Int.tdiv_eq_ediv_of_nonneg h0
         rw [hdv] at HN HM HB12
         have tn : decide ((k : Int) < 0) = false := by simp
         clear hm0 tt hdv hkk
         go_wp2_with fail
         rw [HS.out]
         exact ⟨⟨m / 10, _, rfl, rfl, HB12.out.1, HB12.out.2, HN.out, hbr⟩, HM.out⟩
       · have hmt := tmod_neg (m := m) (by omega)
         rw [hkk] at hmt
         obtain ⟨q, hq⟩ : ∃ q, Int.tdiv m 10 = q := ⟨_, rfl⟩
         rw [hq] at HN HM HB12
         have hw : IntKind.wrap .i64 q = q := IntWalk.i64_in _ HB12.out
         by_cases k0 : k = 0
         · subst k0
           have hmt : Int.tmod m 10 = 0 := hmt
           clear hm0 tt hkk
           go_wp2_with fail
           rw [HS.out]
           exact ⟨⟨q, _, rfl, rfl, HB12.out.1, HB12.out.2, HN.out, hbr⟩, HM.out⟩
         · have tn : decide (-(k : Int) < 0) = true := by simp; omega
           clear hm0 tt hkk
           go_wp2_with fail
           rw [HS.out]
           exact ⟨⟨q, _, rfl, rfl, HB12.out.1, HB12.out.2, HN.out, hbr⟩, HM.out⟩
   · obtain ⟨hm0, hl0⟩ : m = 0 ∧ l ≠ [] := by
       constructor
       · exact Classical.byContradiction fun h => hc (.inl h)
       · exact fun h => hc (.inr h)
     subst hm0
     have tl : ((bsOf l).toList == []) = false := by rw [bs_nil_iff]; cases l <;> simp at hl0 ⊢
     have hlv := HD.out.done hl0
     clear hc hl0 HD hll
     by_cases hng : nn < 0
     · have tn : decide (nn < 0) = true := by simpa using hng
       have HE : Hid ([⟨5, ⟨#[45]⟩, 0⟩] ++ [⟨2, bsOf l, 0⟩] = ws) := by
         show _ = _
         rw [← HQ.out, numT, if_pos hng, hlv, Lib.itoa, if_neg (by omega), show (-nn).toNat = nn.natAbs from by omega]
         rfl
       clear hng hlv
       go_wp2_with fail
       refine (r2_word 5 ⟨#[45]⟩ wr).mono ?_
       rintro r w1 ⟨A1, c1, rfl, -, -, s1, b1⟩
       have HB1 := Lib.hid (HBR.out.trans (b1.mono HBR.out.size))
       have HS1 := Lib.hid s1
       clear s1 b1 k1
       go_wp2_with fail
       refine (r2_word 2 (bsOf l) w1).mono ?_
       rintro r w2 ⟨A2, c2, rfl, -, -, s2, b2⟩
       have HB2 := Lib.hid (HB1.out.trans (b2.mono HB1.out.size))
       have HG := Lib.hid (r2_glued [⟨5, ⟨#[45]⟩, 0⟩] [⟨2, bsOf l, 0⟩] A1 A2 c1 c2 w2 ((HS1.out.below b2).more b2.size) s2 (by simp))
       clear s2 b2 HB1 HS1
       go_wp2_with fail
       refine HG.out.mono ?_
       rintro r w3 ⟨A3, c3, rfl, h3, m3, s3, b3⟩
       have HB3 := Lib.hid (HB2.out.trans (b3.mono HB2.out.size))
       have HS3 := Lib.hid s3
       clear s3 b3 HB2 HG
       go_wp2_with fail
       refine bodyPost_ret (results_tmp2 rfl _ _ _) rfl ?_
       exact WBack.of HE.out rfl rfl h3 m3 HS3.out HB3.out
     · have tn : decide (nn < 0) = false := by simpa using hng
       have HE : Hid ([⟨2, bsOf l, 0⟩] = ws) := by
         show _ = _
         rw [← HQ.out, numT, if_neg hng, hlv, Lib.itoa, if_neg hng, show nn.toNat = nn.natAbs from by omega]
       clear hng hlv
       go_wp2_with fail
       refine (r2_word 2 (bsOf l) wr).mono ?_
       rintro r w1 ⟨A1, c1, rfl, h1, m1, s1, b1⟩
       have HB1 := Lib.hid (HBR.out.trans (b1.mono HBR.out.size))
       have HS1 := Lib.hid s1
       clear s1 b1 k1
       go_wp2_with fail
       refine bodyPost_ret (results_tmp2 rfl _ _ _) rfl ?_
       exact WBack.of HE.out rfl rfl h1 m1 HS1.out HB1.out
end Go.Proofs.YtbggbcnfkcadjaaGreatDoor
