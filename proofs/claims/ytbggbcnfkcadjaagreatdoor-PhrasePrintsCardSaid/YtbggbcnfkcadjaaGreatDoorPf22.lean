/-
  THE WALKS of the reference that prints: atomWords at a set, and at a record.
-/
import Derived.Test.YtbggbcnfkcadjaaGreatDoorPf21
namespace Go.Proofs.YtbggbcnfkcadjaaGreatDoor
set_option maxRecDepth 100000
open Go.RowKit Go.Sort
structure LIn (e : List Nd) (b o c N : Nat) (w0 W : World) (n : Nd) (ps : List (List Nd)) (rest : List Nd) (i j : Nat) : Prop where
 E : EIn e b o w0
 ok : WOk e b o c w0 N
 on : RowKit.Below w0.heap.size w0 W
 at_ : e.drop i = n :: (ps.flatten ++ rest)
 en : i + 1 + ps.flatten.length = j
 nn : n.n = ps.length
 ln : (itemsT true ps).length ≤ 4000
 pl : ps.length ≤ 200
theorem drop_part {e rest : List Nd} {ps : List (List Nd)} {i k : Nat} {p : List Nd} (h : e.drop i = ps.flatten ++ rest) (hk : ps[k]? = some p) : e.drop (i + (ps.take k).flatten.length) = p ++ ((ps.drop (k + 1)).flatten ++ rest) := by
 rw [← drop_flat hk rest]
 refine drop_app (xs := (ps.take k).flatten) ?_
 rw [h, ← List.append_assoc, ← List.flatten_append, List.take_append_drop]
theorem take_len {ps : List (List Nd)} {k : Nat} {p : List Nd} (hk : ps[k]? = some p) : (ps.take (k + 1)).flatten.length = (ps.take k).flatten.length + p.length := by
 rw [List.take_add_one, hk]
 simp
def soFar (lo : List UInt8) (ps : List (List Nd)) (k : Nat) : List Tk := tSg lo :: itemsT true (ps.take k)
theorem soFar_len {lo : List UInt8} {ps : List (List Nd)} (h : (itemsT true ps).length ≤ 4000) (k : Nat) : (soFar lo ps k).length ≤ 4001 := by
 have := itemsT_le true ps k
 simp only [soFar, List.length_cons]
 omega
theorem soFar_next {lo : List UInt8} {ps : List (List Nd)} {k : Nat} {p : List Nd} (h : ps[k]? = some p) : soFar lo ps (k + 1) = soFar lo ps k ++ ((if k = 0 then [] else [tSg [44]]) ++ itemT p) := by
 show tSg lo :: itemsT true (ps.take (k + 1)) = _
 rw [itemsT_take h]
 rfl
set_option maxHeartbeats 12800000 in
theorem aw_5 {e : List Nd} {b o c N i j : Nat} {w0 W : World} {n : Nd} {ps : List (List Nd)} {rest : List Nd} (h : LIn e b o c N w0 W n ps rest i j) (ho : n.op = 5) (hps : ∀ p ∈ ps, p.length ≤ N ∧ Ex (.one false) p ∧ NumK p ∧ (p.headD ndQ).op ≠ 7) :
   Calls Tryz.prog 54 #[.slice (some ⟨b, o, none⟩) e.length c, .int .i64 i] W fun r w' => WBack W r w' (tSg [91] :: (itemsT true ps ++ [tSg [93]])) j := by
 obtain ⟨hi, hlt, hd0⟩ := drop_at h.at_
 have hNA := h.E.node h.on hi
 obtain ⟨a0, ha0⟩ : ∃ a, i + 1 = a := ⟨_, rfl⟩
 rw [ha0] at hd0
 have hnn := h.nn
 have hps2 := h.pl
 have hpl : ps.flatten.length ≤ e.length := by
   have := congrArg List.length hd0
   rw [List.length_drop, List.length_append] at this
   omega
 have HJ : Hid (a0 + ps.flatten.length = j) := by show _ = _; rw [← ha0]; exact h.en
 have HD := Lib.hid hd0
 have HE := Lib.hid h.E
 have HOK := Lib.hid h.ok
 have HPS := Lib.hid hps
 have HLN := Lib.hid h.ln
 obtain ⟨ws, hws⟩ : ∃ ws, tSg [91] :: (itemsT true ps ++ [tSg [93]]) = ws := ⟨_, rfl⟩
 rw [hws]
 have HQ : Hid (soFar [91] ps ps.length ++ [tSg [93]] = ws) := by show _ = _; rw [← hws, soFar, List.take_length]; rfl
 have HO := Lib.hid h.on
 have hle := h.E.le
 have hbE := h.E.hb
 have hbw : b < W.heap.size := Nat.lt_of_lt_of_le h.E.hb h.on.size
 have i64 : IntKind.wrap .i64 ((i : Int) + 1) = (a0 : Int) := by rw [IntWalk.i64_in _ (by omega)]; omega
 obtain ⟨d0, d1, d2, d3⟩ := hNA
 obtain ⟨op, nn, s, t⟩ := n
 have ho : op = 5 := ho
 subst ho
 have hnn : nn = ps.length := hnn
 subst hnn
 dsimp only at d0 d1 d2 d3
 clear h hi hd0 hws ha0 hps
 go_enter Tryz.func54, Tryz.ntmps54
 go_wp2_with fail
 have HXa := Lib.hid (Blk.new W 29 #[.int .i64 5, .int .i64 (ps.length : Int), .string s, .string t])
 have hx : RowKit.Below W.heap.size W (W.alloc (.cells #[.int .i64 5, .int .i64 (ps.length : Int), .string s, .string t] 29)) := by (repeat (first | assumption | exact Below.refl _ _ | apply Below.drew | apply below_drewN | (refine Below.alloc ?_ (by first | exact Nat.le_refl _ | omega | (simp; done) | (simp; omega)) _)))
 generalize (W.alloc (.cells #[.int .i64 5, .int .i64 (ps.length : Int), .string s, .string t] 29)) = wa at HXa hx ⊢
 have HBa := Lib.hid hx
 clear hx d0 d1 d2 d3
 refine (r2_word 5 ⟨#[91]⟩ wa).mono ?_
 rintro r w1 ⟨A1, c1, rfl, h1, m1, s1, b1⟩
 have HB1 := Lib.hid (HBa.out.trans (b1.mono HBa.out.size))
 have HX1 := Lib.hid (HXa.out.below b1 HXa.out.lt)
 have HS1 : Hid (TkSl w1 w1.heap.size A1 (soFar [91] ps 0)) := s1
 clear s1 b1 HXa HBa h1
 go_wp2_with fail
 go_loopw [12, 13, 14] (fun oo xx ii wr => ∃ (k m ck a : Nat) (Ak : Option Addr), oo = .slice Ak m ck ∧ xx = .int .i64 a ∧ ii = .int .i64 k ∧ k ≤ ps.length ∧ Hid (a = a0 + (ps.take k).flatten.length ∧ m = (soFar [91] ps k).length) ∧ Hid (TkSl wr wr.heap.size Ak (soFar [91] ps k)) ∧ Hid (Blk wr W.heap.size 29 #[.int .i64 5, .int .i64 (ps.length : Int), .string s, .string t]) ∧ RowKit.Below W.heap.size W wr) (fun _ _ ii _ => ps.length - (intOf ii).toNat)
 case atStart => exact ⟨0, 1, c1, a0, A1, rfl, rfl, rfl, by omega, ⟨by simp, rfl⟩, HS1.out, HX1.out, HB1.out⟩
 case round =>
   obtain ⟨k, m, ck, a, Ak, rfl, rfl, rfl, hk, HM, HS, HXr, hbr⟩ := hrel
   have HBR := Lib.hid hbr
   clear hbr
   have hsl := soFar_len (lo := [91]) HLN.out k
   have k0 : wr.cell? ⟨W.heap.size, 0, none⟩ = some (.int .i64 5) := HXr.out.cell 0
   have k1 : wr.cell? ⟨W.heap.size, 1, none⟩ = some (.int .i64 (ps.length : Int)) := HXr.out.cell 1
   by_cases hlt2 : k < ps.length
   case pos =>
     obtain ⟨p, hp⟩ : ∃ p, ps[k]? = some p := ⟨_, List.getElem?_eq_getElem hlt2⟩
     have hpm := List.mem_of_getElem? hp
     have hdp := drop_part HD.out hp
     rw [← HM.out.1] at hdp
     have htl := take_len hp
     have hnx := soFar_next (lo := [91]) hp
     have hsl1 := soFar_len (lo := [91]) HLN.out (k + 1)
     obtain ⟨hpN, hpx, hpk, hp7⟩ := HPS.out p hpm
     obtain ⟨a', ha'⟩ : ∃ a', a + p.length = a' := ⟨_, rfl⟩
     have HW := Lib.hid (fun W' (hb : RowKit.Below w0.heap.size w0 W') => HOK.out p _ a a' W' hpN hpx hpk hdp ha' hb)
     have hit : itemT p = wordsW p := by unfold itemT; rw [if_neg hp7]
     rw [hit] at hnx
     obtain ⟨wp, hwp⟩ : ∃ wp, wordsW p = wp := ⟨_, rfl⟩
     rw [hwp] at HW hnx
     have HA' : Hid (a' = a0 + (ps.take (k + 1)).flatten.length) := by show _ = _; rw [htl, ← ha', HM.out.1]; omega
     have HNX := Lib.hid hnx
     have hwl : wp.length ≤ 4001 := by
       rw [hnx] at hsl1
       simp only [List.length_append] at hsl1
       omega
     obtain ⟨sf, hsf⟩ : ∃ sf, soFar [91] ps k = sf := ⟨_, rfl⟩
     rw [hsf] at HS HNX hsl HM
     have hm := HM.out.2
     subst hm
     have t1 : decide (k < ps.length) = true := by simpa using hlt2
     have t1' : decide ((k : Int) < (ps.length : Int)) = true := by simp; omega
     clear hp hpm hdp htl hnx hsl1 hit hwp hsf ha' HM hpN hpx hpk hp7
     by_cases hk0 : k = 0
     case pos =>
       as_aux_lemma =>
         subst hk0
         have hnx : soFar [91] ps (0 + 1) = sf ++ (wp) := by have := HNX.out; simpa using this
         go_wp2_with fail
         refine (HW.out wr (HO.out.trans (HBR.out.mono HO.out.size))).mono ?_
         rintro r w8 ⟨A8, c8, rfl, -, -, s8, b8⟩
         have HB8 := Lib.hid (HBR.out.trans (b8.mono HBR.out.size))
         have HX8 := Lib.hid (HXr.out.below b8 HXr.out.lt)
         have HT8 := Lib.hid ((HS.out.below b8).more b8.size)
         have HS8 := Lib.hid s8
         clear s8 b8 HBR HXr HS k0 k1
         go_wp2_with fail
         refine Calls.mono (r2_gluedN (sf) wp Ak A8 ck c8 w8 HT8.out HS8.out (by first | omega | (simp; omega)) (by first | rfl | simp) rfl) ?_
         rintro r w9 ⟨A9, c9, rfl, -, -, s9, b9⟩
         have HB9 := Lib.hid (HB8.out.trans (b9.mono HB8.out.size))
         have HX9 := Lib.hid (HX8.out.below b9 HX8.out.lt)
         have hwq : (sf) ++ wp = soFar [91] ps (0 + 1) := by first | exact hnx.symm | (rw [hnx]; simp)
         have HLL := Lib.hid (congrArg List.length hwq)
         rw [hwq] at s9
         have HS9 := Lib.hid s9
         clear s9 b9 HT8 HS8 HB8 HX8 hwq hnx
         go_wp2_with fail
         exact ⟨⟨0 + 1, _, c9, a', A9, rfl, rfl, by first | rfl | go_num, by omega, ⟨HA'.out, by rw [← HLL.out]; simp⟩, HS9.out, HX9.out, HB9.out⟩, by simp [intOf]; omega⟩
     case neg =>
       as_aux_lemma =>
         have hnx : soFar [91] ps (k + 1) = sf ++ (tSg [44] :: (wp)) := by have := HNX.out; rw [if_neg hk0] at this; simpa using this
         have t2 : decide (0 < k) = true := by simp; omega
         have t2' : decide ((0 : Int) < (k : Int)) = true := by simp; omega
         have hk1 : 1 ≤ k := by omega
         clear hk0
         go_wp2_with fail
         refine (r2_word 5 ⟨#[44]⟩ wr).mono ?_
         rintro r w2 ⟨A2, c2, rfl, -, -, s2, b2⟩
         have HB2 := Lib.hid (HBR.out.trans (b2.mono HBR.out.size))
         have HX2 := Lib.hid (HXr.out.below b2 HXr.out.lt)
         have HT2 := Lib.hid ((HS.out.below b2).more b2.size)
         have HC2 := Lib.hid s2
         clear s2 b2 HXr HS k0 k1
         go_wp2_with fail
         refine Calls.mono (r2_gluedN sf [tSg [44]] Ak A2 ck c2 w2 HT2.out HC2.out (by simp; omega) rfl rfl) ?_
         rintro r w3 ⟨A3, c3, rfl, -, -, s3, b3⟩
         have HB3 := Lib.hid (HB2.out.trans (b3.mono HB2.out.size))
         have HX3 := Lib.hid (HX2.out.below b3 HX2.out.lt)
         have HS3 := Lib.hid s3
         clear s3 b3 HX2 HT2 HC2 HB2
         have k0 : w3.cell? ⟨W.heap.size, 0, none⟩ = some (.int .i64 5) := HX3.out.cell 0
         go_wp2_with fail
         refine (HW.out w3 (HO.out.trans (HB3.out.mono HO.out.size))).mono ?_
         rintro r w8 ⟨A8, c8, rfl, -, -, s8, b8⟩
         have HB8 := Lib.hid (HB3.out.trans (b8.mono HB3.out.size))
         have HX8 := Lib.hid (HX3.out.below b8 HX3.out.lt)
         have HT8 := Lib.hid ((HS3.out.below b8).more b8.size)
         have HS8 := Lib.hid s8
         clear s8 b8 HB3 HX3 HS3 k0
         go_wp2_with fail
         refine Calls.mono (r2_gluedN (sf ++ [tSg [44]]) wp A3 A8 c3 c8 w8 HT8.out HS8.out (by first | omega | (simp; omega)) (by first | rfl | simp) rfl) ?_
         rintro r w9 ⟨A9, c9, rfl, -, -, s9, b9⟩
         have HB9 := Lib.hid (HB8.out.trans (b9.mono HB8.out.size))
         have HX9 := Lib.hid (HX8.out.below b9 HX8.out.lt)
         have hwq : (sf ++ [tSg [44]]) ++ wp = soFar [91] ps (k + 1) := by first | exact hnx.symm | (rw [hnx]; simp)
         have HLL := Lib.hid (congrArg List.length hwq)
         rw [hwq] at s9
         have HS9 := Lib.hid s9
         clear s9 b9 HT8 HS8 HB8 HX8 hwq hnx
         go_wp2_with fail
         exact ⟨⟨k + 1, _, c9, a', A9, rfl, rfl, by first | rfl | go_num, by omega, ⟨HA'.out, by rw [← HLL.out]; simp⟩, HS9.out, HX9.out, HB9.out⟩, by simp [intOf]; omega⟩
   case neg =>
     as_aux_lemma =>
       obtain rfl : k = ps.length := by omega
       have HAJ : Hid (a = j) := by show _ = _; rw [HM.out.1, ← HJ.out, List.take_length]
       obtain ⟨sf, hsf⟩ : ∃ sf, soFar [91] ps ps.length = sf := ⟨_, rfl⟩
       rw [hsf] at HS HM hsl HQ
       have hm := HM.out.2
       subst hm
       clear hlt2 hsf HM
       go_wp2_with fail
       refine (r2_word 5 ⟨#[93]⟩ wr).mono ?_
       rintro r w2 ⟨A2, c2, rfl, -, -, s2, b2⟩
       have HB2 := Lib.hid (HBR.out.trans (b2.mono HBR.out.size))
       have HT2 := Lib.hid ((HS.out.below b2).more b2.size)
       have HC2 := Lib.hid s2
       clear s2 b2 HS k0 k1
       go_wp2_with fail
       refine Calls.mono (r2_gluedN sf [tSg [93]] Ak A2 ck c2 w2 HT2.out HC2.out (by simp; omega) rfl rfl) ?_
       rintro r w3 ⟨A3, c3, rfl, h3, m3, s3, b3⟩
       have HB3 := Lib.hid (HB2.out.trans (b3.mono HB2.out.size))
       have HS3 := Lib.hid s3
       clear s3 b3 HT2 HC2 HB2
       go_wp2_with fail
       refine bodyPost_ret (results_tmp2 rfl _ _ _) rfl ?_
       exact WBack.of HQ.out (by simp) (by rw [HAJ.out]) h3 m3 HS3.out HB3.out
set_option maxHeartbeats 12800000 in
theorem aw_6 {e : List Nd} {b o c N i j : Nat} {w0 W : World} {n : Nd} {ps : List (List Nd)} {rest : List Nd} (h : LIn e b o c N w0 W n ps rest i j) (ho : n.op = 6) (hps : ∀ p ∈ ps, ∃ f v, p = f :: v ∧ f.op = 7 ∧ v.length ≤ N ∧ Ex (.one false) v ∧ NumK v) :
   Calls Tryz.prog 54 #[.slice (some ⟨b, o, none⟩) e.length c, .int .i64 i] W fun r w' => WBack W r w' (tSg [123] :: (itemsT true ps ++ [tSg [125]])) j := by
 obtain ⟨hi, hlt, hd0⟩ := drop_at h.at_
 have hNA := h.E.node h.on hi
 obtain ⟨a0, ha0⟩ : ∃ a, i + 1 = a := ⟨_, rfl⟩
 rw [ha0] at hd0
 have hnn := h.nn
 have hps2 := h.pl
 have hpl : ps.flatten.length ≤ e.length := by
   have := congrArg List.length hd0
   rw [List.length_drop, List.length_append] at this
   omega
 have HJ : Hid (a0 + ps.flatten.length = j) := by show _ = _; rw [← ha0]; exact h.en
 have HD := Lib.hid hd0
 have HE := Lib.hid h.E
 have HOK := Lib.hid h.ok
 have HPS := Lib.hid hps
 have HLN := Lib.hid h.ln
 obtain ⟨ws, hws⟩ : ∃ ws, tSg [123] :: (itemsT true ps ++ [tSg [125]]) = ws := ⟨_, rfl⟩
 rw [hws]
 have HQ : Hid (soFar [123] ps ps.length ++ [tSg [125]] = ws) := by show _ = _; rw [← hws, soFar, List.take_length]; rfl
 have HO := Lib.hid h.on
 have hle := h.E.le
 have hbE := h.E.hb
 have hbw : b < W.heap.size := Nat.lt_of_lt_of_le h.E.hb h.on.size
 have i64 : IntKind.wrap .i64 ((i : Int) + 1) = (a0 : Int) := by rw [IntWalk.i64_in _ (by omega)]; omega
 obtain ⟨d0, d1, d2, d3⟩ := hNA
 obtain ⟨op, nn, s, t⟩ := n
 have ho : op = 6 := ho
 subst ho
 have hnn : nn = ps.length := hnn
 subst hnn
 dsimp only at d0 d1 d2 d3
 clear h hi hd0 hws ha0 hps
 go_enter Tryz.func54, Tryz.ntmps54
 go_wp2_with fail
 have HXa := Lib.hid (Blk.new W 29 #[.int .i64 6, .int .i64 (ps.length : Int), .string s, .string t])
 have hx : RowKit.Below W.heap.size W (W.alloc (.cells #[.int .i64 6, .int .i64 (ps.length : Int), .string s, .string t] 29)) := by (repeat (first | assumption | exact Below.refl _ _ | apply Below.drew | apply below_drewN | (refine Below.alloc ?_ (by first | exact Nat.le_refl _ | omega | (simp; done) | (simp; omega)) _)))
 generalize (W.alloc (.cells #[.int .i64 6, .int .i64 (ps.length : Int), .string s, .string t] 29)) = wa at HXa hx ⊢
 have HBa := Lib.hid hx
 clear hx d0 d1 d2 d3
 refine (r2_word 5 ⟨#[123]⟩ wa).mono ?_
 rintro r w1 ⟨A1, c1, rfl, h1, m1, s1, b1⟩
 have HB1 := Lib.hid (HBa.out.trans (b1.mono HBa.out.size))
 have HX1 := Lib.hid (HXa.out.below b1 HXa.out.lt)
 have HS1 : Hid (TkSl w1 w1.heap.size A1 (soFar [123] ps 0)) := s1
 clear s1 b1 HXa HBa h1
 go_wp2_with fail
 go_loopw [12, 13, 14] (fun oo xx ii wr => ∃ (k m ck a : Nat) (Ak : Option Addr), oo = .slice Ak m ck ∧ xx = .int .i64 a ∧ ii = .int .i64 k ∧ k ≤ ps.length ∧ Hid (a = a0 + (ps.take k).flatten.length ∧ m = (soFar [123] ps k).length) ∧ Hid (TkSl wr wr.heap.size Ak (soFar [123] ps k)) ∧ Hid (Blk wr W.heap.size 29 #[.int .i64 6, .int .i64 (ps.length : Int), .string s, .string t]) ∧ RowKit.Below W.heap.size W wr) (fun _ _ ii _ => ps.length - (intOf ii).toNat)
 case atStart => exact ⟨0, 1, c1, a0, A1, rfl, rfl, rfl, by omega, ⟨by simp, rfl⟩, HS1.out, HX1.out, HB1.out⟩
 case round =>
   obtain ⟨k, m, ck, a, Ak, rfl, rfl, rfl, hk, HM, HS, HXr, hbr⟩ := hrel
   have HBR := Lib.hid hbr
   clear hbr
   have hsl := soFar_len (lo := [123]) HLN.out k
   have k0 : wr.cell? ⟨W.heap.size, 0, none⟩ = some (.int .i64 6) := HXr.out.cell 0
   have k1 : wr.cell? ⟨W.heap.size, 1, none⟩ = some (.int .i64 (ps.length : Int)) := HXr.out.cell 1
   by_cases hlt2 : k < ps.length
   case pos =>
     obtain ⟨p, hp⟩ : ∃ p, ps[k]? = some p := ⟨_, List.getElem?_eq_getElem hlt2⟩
     have hpm := List.mem_of_getElem? hp
     have hdp := drop_part HD.out hp
     rw [← HM.out.1] at hdp
     have htl := take_len hp
     have hnx := soFar_next (lo := [123]) hp
     have hsl1 := soFar_len (lo := [123]) HLN.out (k + 1)
     obtain ⟨f, v, rfl, hf7, hpN, hpx, hpk⟩ := HPS.out p hpm
     obtain ⟨hfi, hflt, hdv⟩ := drop_at (ys := v ++ ((ps.drop (k + 1)).flatten ++ rest)) hdp
     obtain ⟨a1, ha1⟩ : ∃ a1, a + 1 = a1 := ⟨_, rfl⟩
     rw [ha1] at hdv
     obtain ⟨a', ha'⟩ : ∃ a', a1 + v.length = a' := ⟨_, rfl⟩
     have HW := Lib.hid (fun W' (hb : RowKit.Below w0.heap.size w0 W') => HOK.out v _ a1 a' W' hpN hpx hpk hdv ha' hb)
     have HF := Lib.hid (fun W' (hb : RowKit.Below w0.heap.size w0 W') => HE.out.node hb hfi)
     have hit : itemT (f :: v) = ⟨1, f.s, 0⟩ :: tSg [58] :: wordsW v := by unfold itemT; rw [if_pos (show ((f :: v).headD ndQ).op = 7 from hf7)]; rfl
     rw [hit] at hnx
     obtain ⟨wp, hwp⟩ : ∃ wp, wordsW v = wp := ⟨_, rfl⟩
     rw [hwp] at HW hnx
     have a64 : IntKind.wrap .i64 ((a : Int) + 1) = (a1 : Int) := by rw [IntWalk.i64_in _ (by omega)]; omega
     have HA' : Hid (a' = a0 + (ps.take (k + 1)).flatten.length) := by show _ = _; rw [htl, ← ha', ← ha1, HM.out.1, List.length_cons]; omega
     have HNX := Lib.hid hnx
     have hwl : wp.length ≤ 4001 := by
       rw [hnx] at hsl1
       simp only [List.length_append, List.length_cons] at hsl1
       omega
     obtain ⟨sf, hsf⟩ : ∃ sf, soFar [123] ps k = sf := ⟨_, rfl⟩
     rw [hsf] at HS HNX hsl HM
     have hm := HM.out.2
     subst hm
     have t1 : decide (k < ps.length) = true := by simpa using hlt2
     have t1' : decide ((k : Int) < (ps.length : Int)) = true := by simp; omega
     clear hp hpm hdp htl hnx hsl1 hit hwp hsf ha' HM hpN hpx hpk hf7 hfi hdv ha1
     by_cases hk0 : k = 0
     case pos =>
       as_aux_lemma =>
         subst hk0
         have hnx : soFar [123] ps (0 + 1) = sf ++ (⟨1, f.s, 0⟩ :: tSg [58] :: wp) := by have := HNX.out; simpa using this
         obtain ⟨-, -, f2, -⟩ := HF.out wr (HO.out.trans (HBR.out.mono HO.out.size))
         have hbf : b < wr.heap.size := Nat.lt_of_lt_of_le hbw HBR.out.size
         go_wp2_with fail
         refine (r2_word 1 f.s wr).mono ?_
         rintro r w4 ⟨A4, c4, rfl, -, -, s4, b4⟩
         have HB4 := Lib.hid (HBR.out.trans (b4.mono HBR.out.size))
         have HX4 := Lib.hid (HXr.out.below b4 HXr.out.lt)
         have HT4 := Lib.hid ((HS.out.below b4).more b4.size)
         have HS4 := Lib.hid s4
         clear s4 b4 f2 hbf k0 HXr HS k1
         go_wp2_with fail
         refine (r2_word 5 ⟨#[58]⟩ w4).mono ?_
         rintro r w5 ⟨A5, c5, rfl, -, -, s5, b5⟩
         have HB5 := Lib.hid (HB4.out.trans (b5.mono HB4.out.size))
         have HX5 := Lib.hid (HX4.out.below b5 HX4.out.lt)
         have HT5 := Lib.hid ((HT4.out.below b5).more b5.size)
         have HU5 := Lib.hid ((HS4.out.below b5).more b5.size)
         have HS5 := Lib.hid s5
         clear s5 b5 HX4 HT4 HS4 HB4
         go_wp2_with fail
         refine Calls.mono (r2_gluedN [⟨1, f.s, 0⟩] [tSg [58]] A4 A5 c4 c5 w5 HU5.out HS5.out (by simp) rfl rfl) ?_
         rintro r w6 ⟨A6, c6, rfl, -, -, s6, b6⟩
         have HB6 := Lib.hid (HB5.out.trans (b6.mono HB5.out.size))
         have HX6 := Lib.hid (HX5.out.below b6 HX5.out.lt)
         have HT6 := Lib.hid ((HT5.out.below b6).more b6.size)
         have HS6 := Lib.hid s6
         clear s6 b6 HX5 HT5 HU5 HS5 HB5
         go_wp2_with fail
         refine Calls.mono (r2_gluedN (sf) ([⟨1, f.s, 0⟩] ++ [tSg [58]]) Ak A6 ck c6 w6 HT6.out HS6.out (by first | omega | (simp; omega)) (by first | rfl | simp) rfl) ?_
         rintro r w7 ⟨A7, c7, rfl, -, -, s7, b7⟩
         have HB7 := Lib.hid (HB6.out.trans (b7.mono HB6.out.size))
         have HX7 := Lib.hid (HX6.out.below b7 HX6.out.lt)
         have HS7 := Lib.hid s7
         clear s7 b7 HX6 HT6 HS6 HB6
         go_wp2_with fail
         refine (HW.out w7 (HO.out.trans (HB7.out.mono HO.out.size))).mono ?_
         rintro r w8 ⟨A8, c8, rfl, -, -, s8, b8⟩
         have HB8 := Lib.hid (HB7.out.trans (b8.mono HB7.out.size))
         have HX8 := Lib.hid (HX7.out.below b8 HX7.out.lt)
         have HT8 := Lib.hid ((HS7.out.below b8).more b8.size)
         have HS8 := Lib.hid s8
         clear s8 b8 HB7 HX7 HS7
         go_wp2_with fail
         refine Calls.mono (r2_gluedN ((sf) ++ ([⟨1, f.s, 0⟩] ++ [tSg [58]])) wp A7 A8 c7 c8 w8 HT8.out HS8.out (by first | omega | (simp; omega)) (by first | rfl | simp) rfl) ?_
         rintro r w9 ⟨A9, c9, rfl, -, -, s9, b9⟩
         have HB9 := Lib.hid (HB8.out.trans (b9.mono HB8.out.size))
         have HX9 := Lib.hid (HX8.out.below b9 HX8.out.lt)
         have hwq : ((sf) ++ ([⟨1, f.s, 0⟩] ++ [tSg [58]])) ++ wp = soFar [123] ps (0 + 1) := by first | exact hnx.symm | (rw [hnx]; simp)
         have HLL := Lib.hid (congrArg List.length hwq)
         rw [hwq] at s9
         have HS9 := Lib.hid s9
         clear s9 b9 HT8 HS8 HB8 HX8 hwq hnx
         go_wp2_with fail
         exact ⟨⟨0 + 1, _, c9, a', A9, rfl, rfl, by first | rfl | go_num, by omega, ⟨HA'.out, by rw [← HLL.out]; simp⟩, HS9.out, HX9.out, HB9.out⟩, by simp [intOf]; omega⟩
     case neg =>
       as_aux_lemma =>
         have hnx : soFar [123] ps (k + 1) = sf ++ (tSg [44] :: (⟨1, f.s, 0⟩ :: tSg [58] :: wp)) := by have := HNX.out; rw [if_neg hk0] at this; simpa using this
         have t2 : decide (0 < k) = true := by simp; omega
         have t2' : decide ((0 : Int) < (k : Int)) = true := by simp; omega
         have hk1 : 1 ≤ k := by omega
         clear hk0
         go_wp2_with fail
         refine (r2_word 5 ⟨#[44]⟩ wr).mono ?_
         rintro r w2 ⟨A2, c2, rfl, -, -, s2, b2⟩
         have HB2 := Lib.hid (HBR.out.trans (b2.mono HBR.out.size))
         have HX2 := Lib.hid (HXr.out.below b2 HXr.out.lt)
         have HT2 := Lib.hid ((HS.out.below b2).more b2.size)
         have HC2 := Lib.hid s2
         clear s2 b2 HXr HS k0 k1
         go_wp2_with fail
         refine Calls.mono (r2_gluedN sf [tSg [44]] Ak A2 ck c2 w2 HT2.out HC2.out (by simp; omega) rfl rfl) ?_
         rintro r w3 ⟨A3, c3, rfl, -, -, s3, b3⟩
         have HB3 := Lib.hid (HB2.out.trans (b3.mono HB2.out.size))
         have HX3 := Lib.hid (HX2.out.below b3 HX2.out.lt)
         have HS3 := Lib.hid s3
         clear s3 b3 HX2 HT2 HC2 HB2
         have k0 : w3.cell? ⟨W.heap.size, 0, none⟩ = some (.int .i64 6) := HX3.out.cell 0
         obtain ⟨-, -, f2, -⟩ := HF.out w3 (HO.out.trans (HB3.out.mono HO.out.size))
         have hbf : b < w3.heap.size := Nat.lt_of_lt_of_le hbw HB3.out.size
         go_wp2_with fail
         refine (r2_word 1 f.s w3).mono ?_
         rintro r w4 ⟨A4, c4, rfl, -, -, s4, b4⟩
         have HB4 := Lib.hid (HB3.out.trans (b4.mono HB3.out.size))
         have HX4 := Lib.hid (HX3.out.below b4 HX3.out.lt)
         have HT4 := Lib.hid ((HS3.out.below b4).more b4.size)
         have HS4 := Lib.hid s4
         clear s4 b4 f2 hbf k0 HX3 HS3
         go_wp2_with fail
         refine (r2_word 5 ⟨#[58]⟩ w4).mono ?_
         rintro r w5 ⟨A5, c5, rfl, -, -, s5, b5⟩
         have HB5 := Lib.hid (HB4.out.trans (b5.mono HB4.out.size))
         have HX5 := Lib.hid (HX4.out.below b5 HX4.out.lt)
         have HT5 := Lib.hid ((HT4.out.below b5).more b5.size)
         have HU5 := Lib.hid ((HS4.out.below b5).more b5.size)
         have HS5 := Lib.hid s5
         clear s5 b5 HX4 HT4 HS4 HB4
         go_wp2_with fail
         refine Calls.mono (r2_gluedN [⟨1, f.s, 0⟩] [tSg [58]] A4 A5 c4 c5 w5 HU5.out HS5.out (by simp) rfl rfl) ?_
         rintro r w6 ⟨A6, c6, rfl, -, -, s6, b6⟩
         have HB6 := Lib.hid (HB5.out.trans (b6.mono HB5.out.size))
         have HX6 := Lib.hid (HX5.out.below b6 HX5.out.lt)
         have HT6 := Lib.hid ((HT5.out.below b6).more b6.size)
         have HS6 := Lib.hid s6
         clear s6 b6 HX5 HT5 HU5 HS5 HB5
         go_wp2_with fail
         refine Calls.mono (r2_gluedN (sf ++ [tSg [44]]) ([⟨1, f.s, 0⟩] ++ [tSg [58]]) A3 A6 c3 c6 w6 HT6.out HS6.out (by first | omega | (simp; omega)) (by first | rfl | simp) rfl) ?_
         rintro r w7 ⟨A7, c7, rfl, -, -, s7, b7⟩
         have HB7 := Lib.hid (HB6.out.trans (b7.mono HB6.out.size))
         have HX7 := Lib.hid (HX6.out.below b7 HX6.out.lt)
         have HS7 := Lib.hid s7
         clear s7 b7 HX6 HT6 HS6 HB6
         go_wp2_with fail
         refine (HW.out w7 (HO.out.trans (HB7.out.mono HO.out.size))).mono ?_
         rintro r w8 ⟨A8, c8, rfl, -, -, s8, b8⟩
         have HB8 := Lib.hid (HB7.out.trans (b8.mono HB7.out.size))
         have HX8 := Lib.hid (HX7.out.below b8 HX7.out.lt)
         have HT8 := Lib.hid ((HS7.out.below b8).more b8.size)
         have HS8 := Lib.hid s8
         clear s8 b8 HB7 HX7 HS7
         go_wp2_with fail
         refine Calls.mono (r2_gluedN ((sf ++ [tSg [44]]) ++ ([⟨1, f.s, 0⟩] ++ [tSg [58]])) wp A7 A8 c7 c8 w8 HT8.out HS8.out (by first | omega | (simp; omega)) (by first | rfl | simp) rfl) ?_
         rintro r w9 ⟨A9, c9, rfl, -, -, s9, b9⟩
         have HB9 := Lib.hid (HB8.out.trans (b9.mono HB8.out.size))
         have HX9 := Lib.hid (HX8.out.below b9 HX8.out.lt)
         have hwq : ((sf ++ [tSg [44]]) ++ ([⟨1, f.s, 0⟩] ++ [tSg [58]])) ++ wp = soFar [123] ps (k + 1) := by first | exact hnx.symm | (rw [hnx]; simp)
         have HLL := Lib.hid (congrArg List.length hwq)
         rw [hwq] at s9
         have HS9 := Lib.hid s9
         clear s9 b9 HT8 HS8 HB8 HX8 hwq hnx
         go_wp2_with fail
         exact ⟨⟨k + 1, _, c9, a', A9, rfl, rfl, by first | rfl | go_num, by omega, ⟨HA'.out, by rw [← HLL.out]; simp⟩, HS9.out, HX9.out, HB9.out⟩, by simp [intOf]; omega⟩
   case neg =>
     as_aux_lemma =>
       obtain rfl : k = ps.length := by omega
       have HAJ : Hid (a = j) := by show _ = _; rw [HM.out.1, ← HJ.out, List.take_length]
       obtain ⟨sf, hsf⟩ : ∃ sf, soFar [123] ps ps.length = sf := ⟨_, rfl⟩
       rw [hsf] at HS HM hsl HQ
       have hm := HM.out.2
       subst hm
       clear hlt2 hsf HM
       go_wp2_with fail
       refine (r2_word 5 ⟨#[125]⟩ wr).mono ?_
       rintro r w2 ⟨A2, c2, rfl, -, -, s2, b2⟩
       have HB2 := Lib.hid (HBR.out.trans (b2.mono HBR.out.size))
       have HT2 := Lib.hid ((HS.out.below b2).more b2.size)
       have HC2 := Lib.hid s2
       clear s2 b2 HS k0 k1
       go_wp2_with fail
       refine Calls.mono (r2_gluedN sf [tSg [125]] Ak A2 ck c2 w2 HT2.out HC2.out (by simp; omega) rfl rfl) ?_
       rintro r w3 ⟨A3, c3, rfl, h3, m3, s3, b3⟩
       have HB3 := Lib.hid (HB2.out.trans (b3.mono HB2.out.size))
       have HS3 := Lib.hid s3
       clear s3 b3 HT2 HC2 HB2
       go_wp2_with fail
       refine bodyPost_ret (results_tmp2 rfl _ _ _) rfl ?_
       exact WBack.of HQ.out (by simp) (by rw [HAJ.out]) h3 m3 HS3.out HB3.out
end Go.Proofs.YtbggbcnfkcadjaaGreatDoor
