/-
  THE WALKS: (*parser).whole.
  THE WALKS: (*parser).rel.
  A MAP of signs and what they stand for.
  THE WALKS: (*parser).chain.
  THE WALKS: (*parser).either, both, sum, prod.
-/
import Derived.Test.YtbggbcnfkcadjaaGreatDoorPe06
import Derived.Maps.OwnSet
import Derived.StringKeys
import Derived.Maps.Views
import Derived.Deep.LoopGhost
namespace Go.Proofs.YtbggbcnfkcadjaaGreatDoor
set_option maxRecDepth 100000
open Go.RowKit Go.Sort
theorem l_if : (⟨#[105, 102]⟩ : ByteArray).toList = wIf := bsOf_list [105, 102]
theorem l_then : (⟨#[116, 104, 101, 110]⟩ : ByteArray).toList = wThen := bsOf_list [116, 104, 101, 110]
theorem l_else : (⟨#[101, 108, 115, 101]⟩ : ByteArray).toList = wElse := bsOf_list [101, 108, 115, 101]
theorem l_col : (⟨#[58, 58]⟩ : ByteArray).toList = wCol := bsOf_list [58, 58]
set_option maxHeartbeats 6400000 in
theorem ph_whole (x : Px) (f : Nat) (hw : Does x 30 (pa f .whole)) (h1 : Does x 60 (pa f (.ch 1))) : Does x 30 (pa (f + 1) .whole) := by
 intro w i hx hB hi hnb
 have S0 := St.start hx hB hi
 have n1 : hdW wIf (x.ts.drop i) = hdN wIf (x.ts.drop i) := S0.nm (by decide) i
 have n2 : hdW wCol (x.ts.drop (i + 1)) = hdS wCol (x.ts.drop (i + 1)) := S0.sg (by decide) (i + 1)
 have HS0 := Lib.hid S0
 have HLT := Lib.hid hB.lt
 have HW := Lib.hid hw
 have H1 := Lib.hid h1
 obtain ⟨Q, hQ⟩ : ∃ Q, pa (f + 1) .whole (x.ts.drop i) = Q := ⟨_, rfl⟩
 rw [hQ] at hnb ⊢
 have HN := Lib.hid hnb
 clear hx hB hi hw h1 hnb S0
 by_cases hif : hdN wIf (x.ts.drop i) = true ∧ hdS wCol (x.ts.drop (i + 1)) = false
 · have HQ0 : Hid ((pa f .whole (x.ts.drop (i + 1))).bind (fun c r => needN wThen r fun r => (pa f .whole r).bind fun a r => needN wElse r fun r => (pa f .whole r).bind fun b r => .ok (opX 13 (c ++ a ++ b)) r) = Q) := by
     show _ = _
     rw [← hQ]
     show _ = if hdN wIf (x.ts.drop i) = true ∧ hdS wCol (x.ts.drop i).tail = false then _ else _
     rw [tail_drop', if_pos hif]
   have HL := Lib.hid (hd_lt (f := hdN wIf) rfl hif.1)
   rw [hif.1] at n1
   rw [hif.2] at n2
   have N1 := Lib.hid n1
   have N2 := Lib.hid n2
   clear n1 n2 hif hQ H1
   go_enter Tryz.func30, Tryz.ntmps30
   go_wp2_with fail
   refine (HS0.out.is ⟨#[105, 102]⟩ _ l_if true N1.out).mono ?_
   rintro r w1 ⟨rfl, S1, o1⟩
   have XS1 := Lib.hid S1
   clear S1 o1  HS0
   go_wp2_with fail
   refine (XS1.out.ahead ⟨#[58, 58]⟩ _ l_col false N2.out).mono ?_
   rintro r w2 ⟨rfl, S2, o2⟩
   have XS2 := Lib.hid S2
   clear S2 o2  XS1
   have sc := XS2.out.blk.cell 1
   have sf := XS2.out.blk.frozen 1
   have s64 := XS2.out.i64
   have sc1 : w2.cell? ⟨x.pb, 1, none⟩ = some (.int .i64 (i : Nat)) := sc
   clear sc
   go_wp2_with fail
   have XS3 := Lib.hid (XS2.out.step HL.out)
   clear sc1 sf s64  XS2
   generalize w2.setCell ⟨x.pb, 1, none⟩ (.int .i64 (((i : Nat) : Int) + 1)) = w3 at XS3  ⊢
   go_wp2_with fail
   refine (XS3.out.call HW.out HN.out trivial HQ0.out).mono ?_
   rintro r w4 (⟨k, j, rfl, hp⟩ | ⟨A4, c4, e4, j4, rfl, E4, S4, o4, q4, l4, b4⟩)
   · have HP := Lib.hid hp
     clear hp
     go_wp2_with fail
     exact ⟨rfl, HP.out⟩
   have HE4 := Lib.hid E4
   have XS4 := Lib.hid S4
   have XQ4 := Lib.hid q4
   have HL4 : Hid (e4.length ≤ 300) := l4
   have HG4 := Lib.hid b4
   clear E4 S4 q4 l4 b4 o4  XS3 HQ0
   go_wp2_with fail
   refine (XS4.out.needN ⟨#[116, 104, 101, 110]⟩ l_then (by decide) XQ4.out).mono ?_
   rintro r w5 (⟨k, j, rfl, hp⟩ | ⟨rfl, S5, o5, q5⟩)
   · have HP := Lib.hid hp
     clear hp
     go_wp2_with fail
     exact ⟨rfl, HP.out⟩
   have HE4_5 := Lib.hid (HE4.out.on o5 HLT.out)
   have XS5 := Lib.hid S5
   have XQ5 := Lib.hid q5
   clear S5 q5 o5 HE4 XS4 XQ4
   go_wp2_with fail
   refine (XS5.out.call HW.out HN.out trivial XQ5.out).mono ?_
   rintro r w6 (⟨k, j, rfl, hp⟩ | ⟨A6, c6, e6, j6, rfl, E6, S6, o6, q6, l6, b6⟩)
   · have HP := Lib.hid hp
     clear hp
     go_wp2_with fail
     exact ⟨rfl, HP.out⟩
   have HE4_6 := Lib.hid (HE4_5.out.on o6 HLT.out)
   have HE6 := Lib.hid E6
   have XS6 := Lib.hid S6
   have XQ6 := Lib.hid q6
   have HL6 : Hid (e6.length ≤ 300) := l6
   have HG6 := Lib.hid b6
   clear E6 S6 q6 l6 b6 o6 HE4_5 XS5 XQ5
   go_wp2_with fail
   refine (XS6.out.needN ⟨#[101, 108, 115, 101]⟩ l_else (by decide) XQ6.out).mono ?_
   rintro r w7 (⟨k, j, rfl, hp⟩ | ⟨rfl, S7, o7, q7⟩)
   · have HP := Lib.hid hp
     clear hp
     go_wp2_with fail
     exact ⟨rfl, HP.out⟩
   have HE4_7 := Lib.hid (HE4_6.out.on o7 HLT.out)
   have HE6_7 := Lib.hid (HE6.out.on o7 HLT.out)
   have XS7 := Lib.hid S7
   have XQ7 := Lib.hid q7
   clear S7 q7 o7 HE4_6 HE6 XS6 XQ6
   go_wp2_with fail
   refine (XS7.out.call HW.out HN.out trivial XQ7.out).mono ?_
   rintro r w8 (⟨k, j, rfl, hp⟩ | ⟨A8, c8, e8, j8, rfl, E8, S8, o8, q8, l8, b8⟩)
   · have HP := Lib.hid hp
     clear hp
     go_wp2_with fail
     exact ⟨rfl, HP.out⟩
   have HE4_8 := Lib.hid (HE4_7.out.on o8 HLT.out)
   have HE6_8 := Lib.hid (HE6_7.out.on o8 HLT.out)
   have HE8 := Lib.hid E8
   have XS8 := Lib.hid S8
   have XQ8 := Lib.hid q8
   have HL8 : Hid (e8.length ≤ 300) := l8
   have HG8 := Lib.hid b8
   clear E8 S8 q8 l8 b8 o8 HE4_7 HE6_7 XS7 XQ7
   go_wp2_with fail
   refine (XS8.out.op 13 22 [⟨A4, c4, e4⟩, ⟨A6, c6, e6⟩, ⟨A8, c8, e8⟩] #[.slice A4 e4.length c4, .slice A6 e6.length c6, .slice A8 e8.length c8] rfl (mem3 HE4_8.out HE6_8.out HE8.out) (by have := HL4.out; have := HL6.out; have := HL8.out; simp [catN]; omega) (by simp) (E := opX 13 (e4 ++ e6 ++ e8)) (by simp [catN, opX])).mono ?_
   rintro r w9 ⟨A9, c9, rfl, E9, S9, o9⟩
   have HF := Lib.hid (S9.fin E9 XQ8.out)
   clear E9 S9 o9
   generalize opX 13 (e4 ++ e6 ++ e8) = EE at HF ⊢
   go_wp2_with fail
   go_ret
   exact HF.out
 · have HQ0 : Hid (pa f (.ch 1) (x.ts.drop i) = Q) := by
     show _ = _
     rw [← hQ]
     show _ = if hdN wIf (x.ts.drop i) = true ∧ hdS wCol (x.ts.drop i).tail = false then _ else _
     rw [tail_drop', if_neg hif]
   cases hb : hdN wIf (x.ts.drop i) with
   | false =>
     rw [hb] at n1
     have N1 := Lib.hid n1
     clear n1 n2 hif hQ hb
     go_enter Tryz.func30, Tryz.ntmps30
     go_wp2_with fail
     refine (HS0.out.is ⟨#[105, 102]⟩ _ l_if false N1.out).mono ?_
     rintro r w1 ⟨rfl, S1, o1⟩
     have XS1 := Lib.hid S1
     clear S1 o1  HS0
     go_wp2_with fail
     refine (XS1.out.last H1.out HN.out HQ0.out).mono ?_
     rintro r w9 (⟨k, j, rfl, hp⟩ | ⟨A9, c9, n9, rfl, hp⟩)
     · have HP := Lib.hid hp
       clear hp
       go_wp2_with fail
       exact ⟨rfl, HP.out⟩
     have HP := Lib.hid hp
     clear hp
     go_wp2_with fail
     go_ret
     exact HP.out
   | true =>
     have h2 : hdS wCol (x.ts.drop (i + 1)) = true := by
       cases h : hdS wCol (x.ts.drop (i + 1)) with
       | true => rfl
       | false => exact absurd ⟨hb, h⟩ hif
     rw [hb] at n1
     rw [h2] at n2
     have N1 := Lib.hid n1
     have N2 := Lib.hid n2
     clear n1 n2 hif hQ hb h2
     go_enter Tryz.func30, Tryz.ntmps30
     go_wp2_with fail
     refine (HS0.out.is ⟨#[105, 102]⟩ _ l_if true N1.out).mono ?_
     rintro r w1 ⟨rfl, S1, o1⟩
     have XS1 := Lib.hid S1
     clear S1 o1  HS0
     go_wp2_with fail
     refine (XS1.out.ahead ⟨#[58, 58]⟩ _ l_col true N2.out).mono ?_
     rintro r w2 ⟨rfl, S2, o2⟩
     have XS2 := Lib.hid S2
     clear S2 o2  XS1
     go_wp2_with fail
     refine (XS2.out.last H1.out HN.out HQ0.out).mono ?_
     rintro r w9 (⟨k, j, rfl, hp⟩ | ⟨A9, c9, n9, rfl, hp⟩)
     · have HP := Lib.hid hp
       clear hp
       go_wp2_with fail
       exact ⟨rfl, HP.out⟩
     have HP := Lib.hid hp
     clear hp
     go_wp2_with fail
     go_ret
     exact HP.out
end Go.Proofs.YtbggbcnfkcadjaaGreatDoor
namespace Go.Proofs.YtbggbcnfkcadjaaGreatDoor
set_option maxRecDepth 100000
open Go.RowKit Go.Sort
theorem l_eq : (⟨#[61, 61]⟩ : ByteArray).toList = [61, 61] := bsOf_list [61, 61]
theorem l_lt : (⟨#[60]⟩ : ByteArray).toList = [60] := bsOf_list [60]
theorem l_le : (⟨#[60, 61]⟩ : ByteArray).toList = [60, 61] := bsOf_list [60, 61]
theorem l_in : (⟨#[105, 110]⟩ : ByteArray).toList = [105, 110] := bsOf_list [105, 110]
theorem l_has : (⟨#[104, 97, 115]⟩ : ByteArray).toList = [104, 97, 115] := bsOf_list [104, 97, 115]
theorem l_is : (⟨#[105, 115]⟩ : ByteArray).toList = [105, 115] := bsOf_list [105, 115]
theorem l_like : (⟨#[108, 105, 107, 101]⟩ : ByteArray).toList = [108, 105, 107, 101] := bsOf_list [108, 105, 107, 101]
set_option maxHeartbeats 12800000 in
theorem ph_rel (x : Px) (f : Nat) (h4 : Does x 159 (pa f (.ch 4))) : Does x 134 (pa (f + 1) .rel) := by
 intro w i hx hB hi hnb
 have S0 := St.start hx hB hi
 have HS0 := Lib.hid S0
 have HLT := Lib.hid hB.lt
 have H4 := Lib.hid h4
 obtain ⟨Q, hQ⟩ : ∃ Q, pa (f + 1) .rel (x.ts.drop i) = Q := ⟨_, rfl⟩
 rw [hQ] at hnb ⊢
 have HN := Lib.hid hnb
 have HQ0 : Hid ((pa f (.ch 4) (x.ts.drop i)).bind (fun e r => if relOp r ≠ 0 then (pa f (.ch 4) r.tail).bind fun e2 r2 => .ok (opX (relOp r) (e ++ e2)) r2 else if relWd r ≠ 0 then wordR (if relWd r = 23 then 3 else 1) r.tail fun s r2 => .ok (opS (relWd r) s e) r2 else .ok e r) = Q) := hQ
 clear hx hB hi h4 hnb S0 hQ
 go_enter Tryz.func134, Tryz.ntmps134
 go_wp2_with fail
 refine (HS0.out.call H4.out HN.out trivial HQ0.out).mono ?_
 rintro r w1 (⟨k, j, rfl, hp⟩ | ⟨A1, c1, e1, j1, rfl, E1, S1, o1, q1, l1, b1⟩)
 · have HP := Lib.hid hp
   clear hp
   go_wp2_with fail
   exact ⟨rfl, HP.out⟩
 have HE1 := Lib.hid E1
 have XS1 := Lib.hid S1
 have XQ1 := Lib.hid q1
 have HL1 : Hid (e1.length ≤ 300) := l1
 have HG1 := Lib.hid b1
 clear E1 S1 q1 l1 b1 o1  HS0 HQ0
 have q0 : (if relOp (x.ts.drop j1) ≠ 0 then (pa f (.ch 4) (x.ts.drop j1).tail).bind (fun e2 r2 => .ok (opX (relOp (x.ts.drop j1)) (e1 ++ e2)) r2) else if relWd (x.ts.drop j1) ≠ 0 then wordR (if relWd (x.ts.drop j1) = 23 then 3 else 1) (x.ts.drop j1).tail (fun s r2 => .ok (opS (relWd (x.ts.drop j1)) s e1) r2) else .ok e1 (x.ts.drop j1)) = Q := XQ1.out
 have HR := Lib.hid q0
 clear q0 XQ1
 cases b0 : hdS [61, 61] (x.ts.drop j1) with
 | true =>
   have HB0 := Lib.hid b0
   clear b0
   have ro : relOp (x.ts.drop j1) = 14 := by simp [relOp, HB0.out]
   have q := HR.out
   rw [ro, if_pos (by decide), tail_drop'] at q
   have HQr := Lib.hid q
   clear q ro HR
   go_wp2_with fail
   refine (XS1.out.take_yes ⟨#[61, 61]⟩ _ l_eq (by rw [XS1.out.sg (c := 61) (r := [61]) (by decide)]; exact HB0.out)).mono ?_
   rintro r w2 ⟨rfl, S2, o2⟩
   have HE1_2 := Lib.hid (HE1.out.on o2 HLT.out)
   have XS2 := Lib.hid S2
   clear S2 o2 HE1 XS1
   go_wp2_with fail
   refine (XS2.out.call H4.out HN.out trivial HQr.out).mono ?_
   rintro r w3 (⟨k, j, rfl, hp⟩ | ⟨A3, c3, e3, j3, rfl, E3, S3, o3, q3, l3, b3⟩)
   · have HP := Lib.hid hp
     clear hp
     go_wp2_with fail
     exact ⟨rfl, HP.out⟩
   have HE1_3 := Lib.hid (HE1_2.out.on o3 HLT.out)
   have HE3 := Lib.hid E3
   have XS3 := Lib.hid S3
   have XQ3 := Lib.hid q3
   have HL3 : Hid (e3.length ≤ 300) := l3
   have HG3 := Lib.hid b3
   clear E3 S3 q3 l3 b3 o3 HE1_2 XS2 HQr
   go_wp2_with fail
   refine (XS3.out.op 14 22 [⟨A1, c1, e1⟩, ⟨A3, c3, e3⟩] #[.slice A1 e1.length c1, .slice A3 e3.length c3] rfl (mem2 HE1_3.out HE3.out) (by have := HL1.out; have := HL3.out; simp [catN]; omega) (by simp) (E := opX 14 (e1 ++ e3)) (by simp [catN, opX])).mono ?_
   rintro r w4 ⟨A4, c4, rfl, E4, S4, o4⟩
   have HF := Lib.hid (S4.fin E4 XQ3.out)
   clear E4 S4 o4
   generalize opX 14 (e1 ++ e3) = EE at HF ⊢
   go_wp2_with fail
   go_ret
   exact HF.out
 | false =>
   have HB0 := Lib.hid b0
   clear b0
   go_wp2_with fail
   refine (XS1.out.take_no ⟨#[61, 61]⟩ _ l_eq (by rw [XS1.out.sg (c := 61) (r := [61]) (by decide)]; exact HB0.out)).mono ?_
   rintro r w2 ⟨rfl, S2, o2⟩
   have HE1_2 := Lib.hid (HE1.out.on o2 HLT.out)
   have XS2 := Lib.hid S2
   clear S2 o2 HE1 XS1
   cases b1 : hdS [60] (x.ts.drop j1) with
   | true =>
     have HB1 := Lib.hid b1
     clear b1
     have ro : relOp (x.ts.drop j1) = 15 := by simp [relOp, HB0.out, HB1.out]
     have q := HR.out
     rw [ro, if_pos (by decide), tail_drop'] at q
     have HQr := Lib.hid q
     clear q ro HR
     go_wp2_with fail
     refine (XS2.out.take_yes ⟨#[60]⟩ _ l_lt (by rw [XS2.out.sg (c := 60) (r := []) (by decide)]; exact HB1.out)).mono ?_
     rintro r w3 ⟨rfl, S3, o3⟩
     have HE1_3 := Lib.hid (HE1_2.out.on o3 HLT.out)
     have XS3 := Lib.hid S3
     clear S3 o3 HE1_2 XS2
     go_wp2_with fail
     refine (XS3.out.call H4.out HN.out trivial HQr.out).mono ?_
     rintro r w4 (⟨k, j, rfl, hp⟩ | ⟨A4, c4, e4, j4, rfl, E4, S4, o4, q4, l4, b4⟩)
     · have HP := Lib.hid hp
       clear hp
       go_wp2_with fail
       exact ⟨rfl, HP.out⟩
     have HE1_4 := Lib.hid (HE1_3.out.on o4 HLT.out)
     have HE4 := Lib.hid E4
     have XS4 := Lib.hid S4
     have XQ4 := Lib.hid q4
     have HL4 : Hid (e4.length ≤ 300) := l4
     have HG4 := Lib.hid b4
     clear E4 S4 q4 l4 b4 o4 HE1_3 XS3 HQr
     go_wp2_with fail
     refine (XS4.out.op 15 22 [⟨A1, c1, e1⟩, ⟨A4, c4, e4⟩] #[.slice A1 e1.length c1, .slice A4 e4.length c4] rfl (mem2 HE1_4.out HE4.out) (by have := HL1.out; have := HL4.out; simp [catN]; omega) (by simp) (E := opX 15 (e1 ++ e4)) (by simp [catN, opX])).mono ?_
     rintro r w5 ⟨A5, c5, rfl, E5, S5, o5⟩
     have HF := Lib.hid (S5.fin E5 XQ4.out)
     clear E5 S5 o5
     generalize opX 15 (e1 ++ e4) = EE at HF ⊢
     go_wp2_with fail
     go_ret
     exact HF.out
   | false =>
     have HB1 := Lib.hid b1
     clear b1
     go_wp2_with fail
     refine (XS2.out.take_no ⟨#[60]⟩ _ l_lt (by rw [XS2.out.sg (c := 60) (r := []) (by decide)]; exact HB1.out)).mono ?_
     rintro r w3 ⟨rfl, S3, o3⟩
     have HE1_3 := Lib.hid (HE1_2.out.on o3 HLT.out)
     have XS3 := Lib.hid S3
     clear S3 o3 HE1_2 XS2
     cases b2 : hdS [60, 61] (x.ts.drop j1) with
     | true =>
       have HB2 := Lib.hid b2
       clear b2
       have ro : relOp (x.ts.drop j1) = 16 := by simp [relOp, HB0.out, HB1.out, HB2.out]
       have q := HR.out
       rw [ro, if_pos (by decide), tail_drop'] at q
       have HQr := Lib.hid q
       clear q ro HR
       go_wp2_with fail
       refine (XS3.out.take_yes ⟨#[60, 61]⟩ _ l_le (by rw [XS3.out.sg (c := 60) (r := [61]) (by decide)]; exact HB2.out)).mono ?_
       rintro r w4 ⟨rfl, S4, o4⟩
       have HE1_4 := Lib.hid (HE1_3.out.on o4 HLT.out)
       have XS4 := Lib.hid S4
       clear S4 o4 HE1_3 XS3
       go_wp2_with fail
       refine (XS4.out.call H4.out HN.out trivial HQr.out).mono ?_
       rintro r w5 (⟨k, j, rfl, hp⟩ | ⟨A5, c5, e5, j5, rfl, E5, S5, o5, q5, l5, b5⟩)
       · have HP := Lib.hid hp
         clear hp
         go_wp2_with fail
         exact ⟨rfl, HP.out⟩
       have HE1_5 := Lib.hid (HE1_4.out.on o5 HLT.out)
       have HE5 := Lib.hid E5
       have XS5 := Lib.hid S5
       have XQ5 := Lib.hid q5
       have HL5 : Hid (e5.length ≤ 300) := l5
       have HG5 := Lib.hid b5
       clear E5 S5 q5 l5 b5 o5 HE1_4 XS4 HQr
       go_wp2_with fail
       refine (XS5.out.op 16 22 [⟨A1, c1, e1⟩, ⟨A5, c5, e5⟩] #[.slice A1 e1.length c1, .slice A5 e5.length c5] rfl (mem2 HE1_5.out HE5.out) (by have := HL1.out; have := HL5.out; simp [catN]; omega) (by simp) (E := opX 16 (e1 ++ e5)) (by simp [catN, opX])).mono ?_
       rintro r w6 ⟨A6, c6, rfl, E6, S6, o6⟩
       have HF := Lib.hid (S6.fin E6 XQ5.out)
       clear E6 S6 o6
       generalize opX 16 (e1 ++ e5) = EE at HF ⊢
       go_wp2_with fail
       go_ret
       exact HF.out
     | false =>
       have HB2 := Lib.hid b2
       clear b2
       go_wp2_with fail
       refine (XS3.out.take_no ⟨#[60, 61]⟩ _ l_le (by rw [XS3.out.sg (c := 60) (r := [61]) (by decide)]; exact HB2.out)).mono ?_
       rintro r w4 ⟨rfl, S4, o4⟩
       have HE1_4 := Lib.hid (HE1_3.out.on o4 HLT.out)
       have XS4 := Lib.hid S4
       clear S4 o4 HE1_3 XS3
       cases b3 : hdN [105, 110] (x.ts.drop j1) with
       | true =>
         have HB3 := Lib.hid b3
         clear b3
         have ro : relOp (x.ts.drop j1) = 20 := by simp [relOp, HB0.out, HB1.out, HB2.out, HB3.out]
         have q := HR.out
         rw [ro, if_pos (by decide), tail_drop'] at q
         have HQr := Lib.hid q
         clear q ro HR
         go_wp2_with fail
         refine (XS4.out.take_yes ⟨#[105, 110]⟩ _ l_in (by rw [XS4.out.nm (c := 105) (r := [110]) (by decide)]; exact HB3.out)).mono ?_
         rintro r w5 ⟨rfl, S5, o5⟩
         have HE1_5 := Lib.hid (HE1_4.out.on o5 HLT.out)
         have XS5 := Lib.hid S5
         clear S5 o5 HE1_4 XS4
         go_wp2_with fail
         refine (XS5.out.call H4.out HN.out trivial HQr.out).mono ?_
         rintro r w6 (⟨k, j, rfl, hp⟩ | ⟨A6, c6, e6, j6, rfl, E6, S6, o6, q6, l6, b6⟩)
         · have HP := Lib.hid hp
           clear hp
           go_wp2_with fail
           exact ⟨rfl, HP.out⟩
         have HE1_6 := Lib.hid (HE1_5.out.on o6 HLT.out)
         have HE6 := Lib.hid E6
         have XS6 := Lib.hid S6
         have XQ6 := Lib.hid q6
         have HL6 : Hid (e6.length ≤ 300) := l6
         have HG6 := Lib.hid b6
         clear E6 S6 q6 l6 b6 o6 HE1_5 XS5 HQr
         go_wp2_with fail
         refine (XS6.out.op 20 22 [⟨A1, c1, e1⟩, ⟨A6, c6, e6⟩] #[.slice A1 e1.length c1, .slice A6 e6.length c6] rfl (mem2 HE1_6.out HE6.out) (by have := HL1.out; have := HL6.out; simp [catN]; omega) (by simp) (E := opX 20 (e1 ++ e6)) (by simp [catN, opX])).mono ?_
         rintro r w7 ⟨A7, c7, rfl, E7, S7, o7⟩
         have HF := Lib.hid (S7.fin E7 XQ6.out)
         clear E7 S7 o7
         generalize opX 20 (e1 ++ e6) = EE at HF ⊢
         go_wp2_with fail
         go_ret
         exact HF.out
       | false =>
         have HB3 := Lib.hid b3
         clear b3
         go_wp2_with fail
         refine (XS4.out.take_no ⟨#[105, 110]⟩ _ l_in (by rw [XS4.out.nm (c := 105) (r := [110]) (by decide)]; exact HB3.out)).mono ?_
         rintro r w5 ⟨rfl, S5, o5⟩
         have HE1_5 := Lib.hid (HE1_4.out.on o5 HLT.out)
         have XS5 := Lib.hid S5
         clear S5 o5 HE1_4 XS4
         cases b4 : hdN [104, 97, 115] (x.ts.drop j1) with
         | true =>
           have HB4 := Lib.hid b4
           clear b4
           have ro : relOp (x.ts.drop j1) = 0 := by simp [relOp, HB0.out, HB1.out, HB2.out, HB3.out]
           have rw_ : relWd (x.ts.drop j1) = 21 := by simp [relWd, HB4.out]
           have q := HR.out
           rw [ro, if_neg (by decide), rw_, if_pos (by decide), if_neg (by decide), tail_drop'] at q
           have HQr := Lib.hid q
           clear q ro rw_ HR
           go_wp2_with fail
           refine (XS5.out.take_yes ⟨#[104, 97, 115]⟩ _ l_has (by rw [XS5.out.nm (c := 104) (r := [97, 115]) (by decide)]; exact HB4.out)).mono ?_
           rintro r w6 ⟨rfl, S6, o6⟩
           have HE1_6 := Lib.hid (HE1_5.out.on o6 HLT.out)
           have XS6 := Lib.hid S6
           clear S6 o6 HE1_5 XS5
           go_wp2_with fail
           refine (XS6.out.word 1 (by decide) HQr.out).mono ?_
           rintro r w7 (⟨k, j, rfl, hp⟩ | ⟨t7, ht7, rfl, S7, o7, z7, kd7, q7⟩)
           · have HP := Lib.hid hp
             clear hp
             go_wp2_with fail
             exact ⟨rfl, HP.out⟩
           have HE1_7 := Lib.hid (HE1_6.out.on o7 HLT.out)
           have XS7 := Lib.hid S7
           have XQ7 := Lib.hid q7
           have HT7 := Lib.hid ht7
           have HZ7 := Lib.hid z7
           have HKD7 := Lib.hid kd7
           clear S7 q7 o7 ht7 z7 kd7 HE1_6 XS6 HQr
           go_wp2_with fail
           refine (XS7.out.node ⟨21, 0, t7.s, ⟨#[]⟩⟩ 22 [⟨A1, c1, e1⟩] #[.slice A1 e1.length c1] rfl (mem1 HE1_7.out) (by have := HL1.out; simp [catN]; omega) (by simp) (E := opS 21 t7.s e1) (by simp [catN, opS])).mono ?_
           rintro r w8 ⟨A8, c8, rfl, E8, S8, o8⟩
           have HF := Lib.hid (S8.fin E8 XQ7.out)
           clear E8 S8 o8
           generalize opS 21 t7.s e1 = EE at HF ⊢
           go_wp2_with fail
           go_ret
           exact HF.out
         | false =>
           have HB4 := Lib.hid b4
           clear b4
           go_wp2_with fail
           refine (XS5.out.take_no ⟨#[104, 97, 115]⟩ _ l_has (by rw [XS5.out.nm (c := 104) (r := [97, 115]) (by decide)]; exact HB4.out)).mono ?_
           rintro r w6 ⟨rfl, S6, o6⟩
           have HE1_6 := Lib.hid (HE1_5.out.on o6 HLT.out)
           have XS6 := Lib.hid S6
           clear S6 o6 HE1_5 XS5
           cases b5 : hdN [105, 115] (x.ts.drop j1) with
           | true =>
             have HB5 := Lib.hid b5
             clear b5
             have ro : relOp (x.ts.drop j1) = 0 := by simp [relOp, HB0.out, HB1.out, HB2.out, HB3.out]
             have rw_ : relWd (x.ts.drop j1) = 24 := by simp [relWd, HB4.out, HB5.out]
             have q := HR.out
             rw [ro, if_neg (by decide), rw_, if_pos (by decide), if_neg (by decide), tail_drop'] at q
             have HQr := Lib.hid q
             clear q ro rw_ HR
             go_wp2_with fail
             refine (XS6.out.take_yes ⟨#[105, 115]⟩ _ l_is (by rw [XS6.out.nm (c := 105) (r := [115]) (by decide)]; exact HB5.out)).mono ?_
             rintro r w7 ⟨rfl, S7, o7⟩
             have HE1_7 := Lib.hid (HE1_6.out.on o7 HLT.out)
             have XS7 := Lib.hid S7
             clear S7 o7 HE1_6 XS6
             go_wp2_with fail
             refine (XS7.out.word 1 (by decide) HQr.out).mono ?_
             rintro r w8 (⟨k, j, rfl, hp⟩ | ⟨t8, ht8, rfl, S8, o8, z8, kd8, q8⟩)
             · have HP := Lib.hid hp
               clear hp
               go_wp2_with fail
               exact ⟨rfl, HP.out⟩
             have HE1_8 := Lib.hid (HE1_7.out.on o8 HLT.out)
             have XS8 := Lib.hid S8
             have XQ8 := Lib.hid q8
             have HT8 := Lib.hid ht8
             have HZ8 := Lib.hid z8
             have HKD8 := Lib.hid kd8
             clear S8 q8 o8 ht8 z8 kd8 HE1_7 XS7 HQr
             go_wp2_with fail
             refine (XS8.out.node ⟨24, 0, t8.s, ⟨#[]⟩⟩ 22 [⟨A1, c1, e1⟩] #[.slice A1 e1.length c1] rfl (mem1 HE1_8.out) (by have := HL1.out; simp [catN]; omega) (by simp) (E := opS 24 t8.s e1) (by simp [catN, opS])).mono ?_
             rintro r w9 ⟨A9, c9, rfl, E9, S9, o9⟩
             have HF := Lib.hid (S9.fin E9 XQ8.out)
             clear E9 S9 o9
             generalize opS 24 t8.s e1 = EE at HF ⊢
             go_wp2_with fail
             go_ret
             exact HF.out
           | false =>
             have HB5 := Lib.hid b5
             clear b5
             go_wp2_with fail
             refine (XS6.out.take_no ⟨#[105, 115]⟩ _ l_is (by rw [XS6.out.nm (c := 105) (r := [115]) (by decide)]; exact HB5.out)).mono ?_
             rintro r w7 ⟨rfl, S7, o7⟩
             have HE1_7 := Lib.hid (HE1_6.out.on o7 HLT.out)
             have XS7 := Lib.hid S7
             clear S7 o7 HE1_6 XS6
             cases b6 : hdN [108, 105, 107, 101] (x.ts.drop j1) with
             | true =>
               have HB6 := Lib.hid b6
               clear b6
               have ro : relOp (x.ts.drop j1) = 0 := by simp [relOp, HB0.out, HB1.out, HB2.out, HB3.out]
               have rw_ : relWd (x.ts.drop j1) = 23 := by simp [relWd, HB4.out, HB5.out, HB6.out]
               have q := HR.out
               rw [ro, if_neg (by decide), rw_, if_pos (by decide), if_pos rfl, tail_drop'] at q
               have HQr := Lib.hid q
               clear q ro rw_ HR
               go_wp2_with fail
               refine (XS7.out.take_yes ⟨#[108, 105, 107, 101]⟩ _ l_like (by rw [XS7.out.nm (c := 108) (r := [105, 107, 101]) (by decide)]; exact HB6.out)).mono ?_
               rintro r w8 ⟨rfl, S8, o8⟩
               have HE1_8 := Lib.hid (HE1_7.out.on o8 HLT.out)
               have XS8 := Lib.hid S8
               clear S8 o8 HE1_7 XS7
               go_wp2_with fail
               refine (XS8.out.word 3 (by decide) HQr.out).mono ?_
               rintro r w9 (⟨k, j, rfl, hp⟩ | ⟨t9, ht9, rfl, S9, o9, z9, kd9, q9⟩)
               · have HP := Lib.hid hp
                 clear hp
                 go_wp2_with fail
                 exact ⟨rfl, HP.out⟩
               have HE1_9 := Lib.hid (HE1_8.out.on o9 HLT.out)
               have XS9 := Lib.hid S9
               have XQ9 := Lib.hid q9
               have HT9 := Lib.hid ht9
               have HZ9 := Lib.hid z9
               have HKD9 := Lib.hid kd9
               clear S9 q9 o9 ht9 z9 kd9 HE1_8 XS8 HQr
               go_wp2_with fail
               refine (XS9.out.node ⟨23, 0, t9.s, ⟨#[]⟩⟩ 22 [⟨A1, c1, e1⟩] #[.slice A1 e1.length c1] rfl (mem1 HE1_9.out) (by have := HL1.out; simp [catN]; omega) (by simp) (E := opS 23 t9.s e1) (by simp [catN, opS])).mono ?_
               rintro r w10 ⟨A10, c10, rfl, E10, S10, o10⟩
               have HF := Lib.hid (S10.fin E10 XQ9.out)
               clear E10 S10 o10
               generalize opS 23 t9.s e1 = EE at HF ⊢
               go_wp2_with fail
               go_ret
               exact HF.out
             | false =>
               have HB6 := Lib.hid b6
               clear b6
               go_wp2_with fail
               refine (XS7.out.take_no ⟨#[108, 105, 107, 101]⟩ _ l_like (by rw [XS7.out.nm (c := 108) (r := [105, 107, 101]) (by decide)]; exact HB6.out)).mono ?_
               rintro r w8 ⟨rfl, S8, o8⟩
               have HE1_8 := Lib.hid (HE1_7.out.on o8 HLT.out)
               have XS8 := Lib.hid S8
               clear S8 o8 HE1_7 XS7
               have ro : relOp (x.ts.drop j1) = 0 := by simp [relOp, HB0.out, HB1.out, HB2.out, HB3.out]
               have rw_ : relWd (x.ts.drop j1) = 0 := by simp [relWd, HB4.out, HB5.out, HB6.out]
               have q := HR.out
               rw [ro, if_neg (by decide), rw_, if_neg (by decide)] at q
               have HF := Lib.hid (XS8.out.fin HE1_8.out q)
               clear q ro rw_ HR
               go_wp2_with fail
               go_ret
               exact HF.out
end Go.Proofs.YtbggbcnfkcadjaaGreatDoor
namespace Go.Proofs.YtbggbcnfkcadjaaGreatDoor
set_option maxRecDepth 100000
open Go.RowKit Go.Sort Go.Maps
theorem strk_law : Maps.Keyed Tryz.prog 9 := Maps.string_keyed Tryz.underlying9
theorem strk_eq {s : ByteArray} (h : s.size ≤ maxLen) : keyOf Tryz.prog 9 (.string s) = some (.string s.data.toList) := Go.WideMaps.keyOf_string_mk Tryz.underlying9 h
theorem lstr_key {s : ByteArray} : (Lit.string s.data.toList) = .string s.toList := by rw [ByteArray.toList_eq]
theorem int_zero2 (w : World) : (zeroValue 3).run Tryz.prog w = .ok (.int .i64 0) w := by kernel_rfl
theorem pe_inv {v : Value} {k : Int} {ps : List MemPlace} (h : plainElem (H := Unit) Tryz.prog 3 v = some (.lit (.int .i64 k), ps)) : v = .int .i64 k := by
 unfold plainElem at h
 rw [Tryz.underlying3] at h
 cases v with
 | int q a =>
   dsimp only at h
   split at h
   · rename_i hq
     injection h with h
     injection h with h1 h2
     injection h1 with h1
     injection h1 with h1 h3
     rw [hq.1, h3]
   · cases h
 | _ => cases h
def SgOk (v : List UInt8 → Int) (D : DataW Unit) : Prop := ∀ l : List UInt8, Maps.has D (.string l) = decide (v l ≠ 0) ∧ (v l ≠ 0 → ∀ z, D.atKey (.string l) z = .lit (.int .i64 (v l)))
def SgAt (w : World) (mb n : Nat) (v : List UInt8 → Int) : Prop := ∃ D, w.ownsMap Tryz.prog 9 (plainElem (H := Unit) Tryz.prog 3) mb n D ∧ SgOk v D
theorem SgAt.kept {w w' : World} {mb n : Nat} {v : List UInt8 → Int} (h : SgAt w mb n v) {row : Option Nat} (hg : w.grownBy w' row) (hne : some mb ≠ row) : SgAt w' mb n v := by
 obtain ⟨D, h1, h2⟩ := h
 exact ⟨D, h1.kept hg hne, h2⟩
theorem SgAt.lt {w : World} {mb n : Nat} {v : List UInt8 → Int} (h : SgAt w mb n v) : mb < w.heap.size := by
 obtain ⟨D, h1, _⟩ := h
 exact h1.lt
theorem SgAt.only {w w' : World} {mb n pb : Nat} {v : List UInt8 → Int} (h : SgAt w mb n v) (ho : Only w.heap.size pb w w') (hne : mb ≠ pb) : SgAt w' mb n v :=
 h.kept (row := some pb) ⟨ho.os, ho.tape, ho.output, ho.size, fun k hk hn => ho.block k hk (fun e => hn (by rw [e]))⟩ (by intro e; injection e with e; exact hne e)
theorem sg_made (w : World) : SgAt (w.alloc (.map #[] 0)) w.heap.size 0 (fun _ => 0) := ⟨_, World.ownsMap_made _ _ _ _, fun l => ⟨by simp [Maps.has], fun h => absurd rfl h⟩⟩
theorem sg_put {w : World} {mb n : Nat} {v : List UInt8 → Int} (h : SgAt w mb n v) {s : ByteArray} {l0 : List UInt8} (hl0 : s.toList = l0) (hs : s.size ≤ maxLen) (hn : n ≤ 1000) {i : Int} (h0 : 1 ≤ i) (h1 : i ≤ 1000) :
   ∃ w', (Instr.mapUpdate 142 (.map (some mb)) (.string s) (.int .i64 i)).run Tryz.prog w = .ok () w' ∧ SgAt w' mb (n + 1) (fun l => if l = l0 then i else v l) ∧ w.grownBy w' (some mb) := by
 subst hl0
 obtain ⟨D, g1, g2⟩ := h
 have hv : plainElem (H := Unit) Tryz.prog 3 (.int .i64 i) = some (.lit (.int .i64 i), []) := plainElem_int Tryz.underlying3 (by unfold Lit.wf; rw [Bool.and_eq_true, decide_eq_true_eq, decide_eq_true_eq]; exact ⟨by show (-9223372036854775808 : Int) ≤ i; omega, by show i ≤ 9223372036854775807; omega⟩)
 obtain ⟨w', hr, h3, h4⟩ := g1.update strk_law Tryz.underlying142 (by unfold maxLen; omega) (strk_eq hs) hv
 rw [lstr_key] at h3
 refine ⟨w', hr, ⟨_, h3, fun l => ?_⟩, h4⟩
 have hkey : WideAt.IsKeyLit (.string s.toList) := by rw [← lstr_key]; exact strk_law.key (strk_eq hs)
 by_cases e : l = s.toList
 · subst e
   rw [has_put_same g1.isMap hkey]
   refine ⟨by simp; omega, fun _ z => ?_⟩
   rw [atKey_put_same g1.isMap hkey]
   simp
 · have hne : (Lit.string l) ≠ .string s.toList := fun h => e (by injection h)
   rw [has_put_other hne]
   simp only [if_neg e]
   exact ⟨(g2 l).1, fun h z => by rw [atKey_put_other hne]; exact (g2 l).2 h z⟩
theorem sg_look {w : World} {mb n : Nat} {v : List UInt8 → Int} (h : SgAt w mb n v) {s : ByteArray} (hs : s.size ≤ maxLen) {k : Int} (hk : v s.toList = k) :
   (Instr.lookup 142 (.map (some mb)) (.string s) true).run Tryz.prog w = .ok (.tuple #[.int .i64 k, .bool (decide (k ≠ 0))]) w := by
 subst hk
 obtain ⟨D, g1, g2⟩ := h
 obtain ⟨u, ps, hr, hv⟩ := g1.look_ok strk_law Tryz.underlying142 (int_zero2 w) (zd := .lit (.int .i64 0)) (zp := []) (plainElem_int Tryz.underlying3 (by decide)) (strk_eq hs)
 rw [lstr_key] at hr hv
 rw [(g2 s.toList).1] at hr
 by_cases e : v s.toList = 0
 · have h0 : Maps.has D (.string s.toList) = false := by rw [(g2 s.toList).1]; simpa using e
   rw [atKey_of_not_has h0] at hv
   rw [hr, pe_inv hv, e]
 · rw [(g2 s.toList).2 e] at hv
   rw [hr, pe_inv hv]
end Go.Proofs.YtbggbcnfkcadjaaGreatDoor
namespace Go.Proofs.YtbggbcnfkcadjaaGreatDoor
set_option maxRecDepth 100000
open Go.RowKit Go.Sort
theorem SgAt.drewN {w : World} {mb n : Nat} {v : List UInt8 → Int} (h : SgAt w mb n v) (k : Nat) : SgAt (w.drewN k) mb n v := h.only (pb := mb + 1) ((Only.refl _ _ _).drewN k) (by omega)
theorem lp_end {g l : Nat} {e : List Nd} {ts : List Tk} (h : kdR ts ≠ 5) : pa (g + 1) (.lp l e) ts = .ok e ts := by
 cases ts with
 | nil => rfl
 | cons t r =>
   show (if chOp l t = 0 then _ else _) = _
   rw [if_pos (by unfold chOp; rw [if_pos (show t.kind ≠ 5 from h)])]
theorem lp_stop {g l : Nat} {e : List Nd} {ts : List Tk} {j : Nat} {t : Tk} (ht : ts[j]? = some t) (h : chOp l t = 0) : pa (g + 1) (.lp l e) (ts.drop j) = .ok e (ts.drop j) := by
 rw [drop_cons ht]
 show (if chOp l t = 0 then _ else _) = _
 rw [if_pos h]
theorem lp_go {g l : Nat} {e : List Nd} {ts : List Tk} {j : Nat} {t : Tk} (ht : ts[j]? = some t) (h : ¬ chOp l t = 0) : pa (g + 1) (.lp l e) (ts.drop j) = (pa g (subT l) (ts.drop (j + 1))).bind fun e2 r2 => pa g (.lp l (opX (chOp l t) (e ++ e2))) r2 := by
 rw [drop_cons ht]
 show (if chOp l t = 0 then _ else _) = _
 rw [if_neg h]
theorem sub_low (l : Nat) : (subT l).gd 300 := (subT_gd 300 l).1
set_option maxHeartbeats 12800000 in
theorem ph_chain (x : Px) (l n fb : Nat) (v : List UInt8 → Int) (f : Nat) (eg : ∀ args w, (callFunc fb args).run Tryz.prog w = .ok (.enter fb args) w) (hfb : ∀ g, g ≤ f → Does x fb (pa g (subT l))) (hv : ∀ t : Tk, t.kind = 5 → v t.s.toList = chOp l t) (w : World) (i mb : Nat) (hx : PxIn x w) (hB : PxB x w i) (hi : i ≤ x.ts.length) (hm : SgAt w mb n v) (hmb : mb ≠ x.pb) (hnb : ∀ r, pa (f + 1) (.ch l) (x.ts.drop i) ≠ .bad 0 r) :
   Calls Tryz.prog 97 #[.pointer (some ⟨x.pb, 0, none⟩), .func (.func fb) #[.pointer (some ⟨x.pb, 0, none⟩)] #[], .map (some mb)] w (PaPost x w (pa (f + 1) (.ch l) (x.ts.drop i))) := by
 have S0 := St.start hx hB hi
 have HS0 := Lib.hid S0
 have HLT := Lib.hid hB.lt
 have HF := Lib.hid hfb
 have HFF := Lib.hid (hfb f (Nat.le_refl _))
 have HV := Lib.hid hv
 have HM := Lib.hid hm
 have hlen := hx.len
 obtain ⟨Q, hQ⟩ : ∃ Q, pa (f + 1) (.ch l) (x.ts.drop i) = Q := ⟨_, rfl⟩
 rw [hQ] at hnb ⊢
 have HN := Lib.hid hnb
 have HQ0 : Hid ((pa f (subT l) (x.ts.drop i)).bind (fun e r => pa f (.lp l e) r) = Q) := hQ
 clear hx hB hi hfb hv hnb S0 hQ hm
 go_enter Tryz.func97, Tryz.ntmps97
 go_wp2_with fail
 refine (HS0.out.call HFF.out HN.out (sub_low l) HQ0.out).mono ?_
 rintro r w1 (⟨k, j, rfl, hp⟩ | ⟨A1, c1, e1, j1, rfl, E1, S1, o1, q1, l1, b1⟩)
 · have HP := Lib.hid hp
   clear hp
   go_wp2_with fail
   exact ⟨rfl, HP.out⟩
 have HM_1 := Lib.hid (HM.out.only o1 hmb)
 have HE1 := Lib.hid E1
 have XS1 := Lib.hid S1
 have XQ1 := Lib.hid q1
 have HL1 : Hid (e1.length ≤ 300) := by have := l1; rw [(subT_gd 300 l).2] at this; exact this
 have HG1 := Lib.hid b1
 clear E1 S1 q1 l1 b1 o1 HM HS0 HQ0
 go_wp2_with fail
 go_loopg [7, 8, 9] f (fun gg ev ov bv wr => ∃ (A : Option Addr) (c : Nat) (e : List Nd) (j : Nat), ev = .slice A e.length c ∧ gg ≤ f ∧ e.length ≤ 302 * (j + 1) ∧ Hid (Exm w.heap.size wr ⟨A, c, e⟩) ∧ Hid (St x w wr j) ∧ Hid (pa gg (.lp l e) (x.ts.drop j) = Q) ∧ Hid (SgAt wr mb n v))
 case atStart => exact ⟨A1, c1, e1, j1, rfl, Nat.le_refl _, by have := HL1.out; omega, HE1.out, XS1.out, XQ1.out, HM_1.out⟩
 case round =>
   obtain ⟨A, c, e, j, rfl, hgg, hle, HE, HS, HQ, HM⟩ := hrel
   clear HE1 XS1 XQ1 HL1 HG1 HM_1
   have hj300 : j ≤ 300 := Nat.le_trans HS.out.le hlen
   obtain ⟨gg, hgk⟩ : ∃ gg, gk = gg + 1 := by
     cases gk with
     | zero => exact absurd HQ.out.symm (HN.out _)
     | succ g => exact ⟨g, rfl⟩
   rw [hgk] at HQ
   have HGK := Lib.hid hgk
   have hggf : gg ≤ f := by omega
   clear hgk
   by_cases h5 : kdR (x.ts.drop j) = 5
   case neg =>
     have hqq : Pr.ok e (x.ts.drop j) = Q := by rw [← HQ.out, lp_end h5]
     obtain ⟨kd, hkd⟩ : ∃ kd, kdR (x.ts.drop j) = kd := ⟨_, rfl⟩
     have t5 : (kd == 5) = false := by rw [← hkd]; simpa using h5
     have HKD := Lib.hid hkd
     have HQQ := Lib.hid hqq
     clear h5 hqq hkd HQ
     go_wp2_with fail
     refine (HS.out.kind kd HKD.out).mono ?_
     rintro r w1 ⟨rfl, S1, o1⟩
     have HF1 := Lib.hid (S1.fin (HE.out.on o1 HLT.out) HQQ.out)
     clear S1 o1
     go_wp2_with fail
     go_ret
     exact HF1.out
   case pos =>
     obtain ⟨t, ht, htk⟩ := kd_some h5 (by decide)
     have HT := Lib.hid ht
     have htz := HS.out.inn.tk t (List.mem_of_getElem? ht)
     have htsz : t.s.size ≤ maxLen := by have := htz.sz; unfold maxLen; omega
     have HVT := Lib.hid (HV.out t htk)
     have HK5 := Lib.hid h5
     have hlt : j < x.ts.length := (List.getElem?_eq_some_iff.1 ht).1
     clear h5 ht htk htz
     go_wp2_with fail
     refine (HS.out.kind 5 HK5.out).mono ?_
     rintro r w1 ⟨rfl, S1, o1⟩
     have HE1 := Lib.hid (HE.out.on o1 HLT.out)
     have HS1 := Lib.hid S1
     have HM1 := Lib.hid (HM.out.only o1 hmb)
     clear S1 o1 HE HS HM
     have k0 := HS1.out.blk.cell 0
     have k1 : w1.cell? ⟨x.pb, 1, none⟩ = some (.int .i64 (j : Nat)) := HS1.out.blk.cell 1
     have f1 : w1.frozen? ⟨x.pb, 1, none⟩ = false := HS1.out.blk.frozen 1
     have s64 := HS1.out.i64
     obtain ⟨b, o, hA, hb, d0, d1, d2⟩ := HS1.out.inn.at_ HT.out
     have k0' : w1.cell? ⟨x.pb, 0, none⟩ = some (.slice (some ⟨b, o, none⟩) x.ts.length x.c) := by rw [← hA]; exact k0
     have ti := tok_at b o x.ts.length x.c j hlt
     have hpw := HS1.out.pb
     have hbw : b < w1.heap.size := Nat.lt_trans hb hpw
     clear k0 d0 d2 hA
     obtain ⟨oc, hoc⟩ : ∃ oc, chOp l t = oc := ⟨_, rfl⟩
     have hlk : ∀ k, (Instr.lookup 142 (.map (some mb)) (.string t.s) true).run Tryz.prog (w1.drewN k) = .ok (.tuple #[.int .i64 oc, .bool (decide (oc ≠ 0))]) (w1.drewN k) := fun k => sg_look (HM1.out.drewN k) htsz (HVT.out.trans hoc)
     by_cases h0 : oc = 0
     · have hqq : Pr.ok e (x.ts.drop j) = Q := by rw [← HQ.out, lp_stop HT.out (hoc.trans h0)]
       have td : decide (oc ≠ 0) = false := by simp [h0]
       rw [td] at hlk
       have HF1 := Lib.hid (fun k => (HS1.out.turn ((Only.refl _ _ _).drewN k) (HS1.out.blk.drewN k) HS1.out.le).fin (HE1.out.on ((Only.refl w1.heap.size x.pb w1).drewN k) HLT.out) hqq)
       clear hqq td h0 hoc HQ
       go_wp2_with fail
       go_quiet (fail)
       go_wp2_with fail
       go_ret
       exact HF1.out _
     · have hqq := HQ.out
       rw [lp_go HT.out (by rw [hoc]; exact h0), hoc] at hqq
       have HQQ := Lib.hid hqq
       have td : decide (oc ≠ 0) = true := by simp [h0]
       rw [td] at hlk
       have HDF := Lib.hid (HF.out gg hggf)
       have HW := Lib.hid (fun k => HS1.out.turn ((Only.refl _ _ _).drewN k) (HS1.out.blk.drewN k) HS1.out.le)
       have HX := Lib.hid (fun k => HE1.out.on ((Only.refl w1.heap.size x.pb w1).drewN k) HLT.out)
       have HY := Lib.hid (fun k => HM1.out.drewN k)
       clear hqq td h0 hoc HQ HVT HS1 HE1 HM1
       go_wp2_with fail
       go_quiet (fail)
       go_wp2_with fail
       have HS2 := Lib.hid ((HW.out nq).step hlt)
       have HE2 := Lib.hid ((HX.out nq).on (only_step (x := x) (RowKit.Below.refl _ _) (.int .i64 ((j : Nat) + 1))) HLT.out)
       have HM2 := Lib.hid ((HY.out nq).only (only_step (x := x) (RowKit.Below.refl _ _) (.int .i64 ((j : Nat) + 1))) hmb)
       clear hlk k1 f1 s64 d1 k0' hpw hbw HW HX HY
       generalize (w1.drewN nq).setCell ⟨x.pb, 1, none⟩ (.int .i64 (((j : Nat) : Int) + 1)) = w2 at HS2 HE2 HM2 ⊢
       have HLE := Lib.hid hle
       refine (HS2.out.call HDF.out HN.out (sub_low l) HQQ.out).mono ?_
       rintro r w3 (⟨k, j, rfl, hp⟩ | ⟨A3, c3, e3, j3, rfl, E3, S3, o3, q3, l3, b3⟩)
       · have HP := Lib.hid hp
         clear hp
         go_wp2_with fail
         exact ⟨rfl, HP.out⟩
       have HE2_3 := Lib.hid (HE2.out.on o3 HLT.out)
       have HM2_3 := Lib.hid (HM2.out.only o3 hmb)
       have HE3 := Lib.hid E3
       have XS3 := Lib.hid S3
       have XQ3 := Lib.hid q3
       have HL3 : Hid (e3.length ≤ 300) := by have := l3; rw [(subT_gd 300 l).2] at this; exact this
       have HG3 := Lib.hid b3
       clear E3 S3 q3 l3 b3 o3 HE2 HM2 HS2 HQQ
       go_wp2_with fail
       refine (XS3.out.op oc 22 [⟨A, c, e⟩, ⟨A3, c3, e3⟩] #[.slice A e.length c, .slice A3 e3.length c3] rfl (mem2 HE2_3.out HE3.out) (by have := HLE.out; have := HL3.out; simp [catN]; omega) (by simp) (E := opX oc (e ++ e3)) (by simp [catN, opX])).mono ?_
       rintro r w4 ⟨A4, c4, rfl, E4, S4, o4⟩
       have HEm := Lib.hid E4
       have HSm := Lib.hid S4
       have HMm := Lib.hid (HM2_3.out.only o4 hmb)
       have HGm : Hid (j + 1 + 1 ≤ j3) := by have := HG3.out; rw [subT_starts] at this; exact this
       have HLm : Hid ((opX oc (e ++ e3)).length ≤ 302 * (j3 + 1)) := by have h1 := HGm.out; have h2 := HL3.out; show _ ≤ _; simp [opX]; omega
       have HQm : Hid (pa gg (.lp l (opX oc (e ++ e3))) (x.ts.drop j3) = Q) := XQ3.out
       clear E4 S4 o4
       generalize opX oc (e ++ e3) = EE at HEm HLm HQm ⊢
       go_wp2_with fail
       go_roundg gg
       case measure => have := HGK.out; omega
       case rel => exact ⟨A4, c4, EE, j3, rfl, by omega, HLm.out, HEm.out, HSm.out, HQm.out, HMm.out⟩
end Go.Proofs.YtbggbcnfkcadjaaGreatDoor
namespace Go.Proofs.YtbggbcnfkcadjaaGreatDoor
set_option maxRecDepth 100000
open Go.RowKit Go.Sort Go.Maps
theorem chOp1 {t : Tk} (h : t.kind = 5) : chOp 1 t = if t.s.toList = [124, 124] then 12 else 0 := by
 unfold chOp; rw [if_neg (fun h' => h' h), if_pos rfl]
theorem chOp2 {t : Tk} (h : t.kind = 5) : chOp 2 t = if t.s.toList = [38, 38] then 11 else 0 := by
 unfold chOp; rw [if_neg (fun h' => h' h), if_neg (show ¬ (2 : Nat) = 1 by decide), if_pos rfl]
theorem chOp4 {t : Tk} (h : t.kind = 5) : chOp 4 t = if t.s.toList = [43] then 17 else if t.s.toList = [45] then 18 else 0 := by
 unfold chOp; rw [if_neg (fun h' => h' h), if_neg (show ¬ (4 : Nat) = 1 by decide), if_neg (show ¬ (4 : Nat) = 2 by decide), if_pos rfl]
theorem chOp5 {t : Tk} (h : t.kind = 5) : chOp 5 t = if t.s.toList = [42] then 19 else 0 := by
 unfold chOp; rw [if_neg (fun h' => h' h), if_neg (show ¬ (5 : Nat) = 1 by decide), if_neg (show ¬ (5 : Nat) = 2 by decide), if_neg (show ¬ (5 : Nat) = 4 by decide)]
set_option maxHeartbeats 6400000 in
theorem ph_either (x : Px) (f : Nat) (hfb : ∀ g, g ≤ f → Does x 98 (pa g (subT 1))) : Does x 60 (pa (f + 1) (.ch 1)) := by
 intro w i hx hB hi hnb
 have hmf : ∀ (fn : Fn) (first cap : Array Value) (w : World), (Instr.makeFunc fn first cap).run Tryz.prog w = .ok (.func fn first cap) w := fun _ _ _ _ => rfl
 have hmm := @run_makeMap Tryz.prog
 have hb0 : RowKit.Below w.heap.size w (w.alloc (.map #[] 0)) := by (repeat (first | assumption | exact Below.refl _ _ | apply Below.drew | apply below_drewN | (refine Below.alloc ?_ (by first | exact Nat.le_refl _ | omega | (simp; done) | (simp; omega)) _)))
 obtain ⟨w1, hr1, hs1, hg1⟩ := sg_put (sg_made w) (s := ⟨#[124, 124]⟩) (l0 := [124, 124]) (bsOf_list [124, 124]) (by decide) (by omega) (i := 12) (by decide) (by decide)
 have hb1 : RowKit.Below w.heap.size w w1 := hb0.grown hg1 hb0.size (fun q hq => by injection hq with hq; omega)
 have hpb := hB.lt
 have HC := Lib.hid (ph_chain x 1 _ 98 _ f (fun _ _ => by kernel_rfl) hfb (fun t ht => by
   rw [chOp1 ht]
   ) w1 i w.heap.size (hx.below hb1 hpb) (hB.below hb1) hi hs1 (by omega) hnb)
 have HO := Lib.hid (Only.of_below (g := x.pb) hb1 (Nat.le_refl _))
 clear hfb hx hB hi hnb hs1 hg1 hb1 hb0
 generalize pa (f + 1) (.ch 1) (x.ts.drop i) = Q at HC ⊢
 go_enter Tryz.func60, Tryz.ntmps60
 go_wp2_with fail
 refine HC.out.mono ?_
 rintro r w9 hp
 have hu := hp.up HO.out
 have HP := Lib.hid hu
 obtain ⟨-, hm⟩ := hu
 cases Q with
 | ok e rest =>
   obtain ⟨A, c, j, rfl, -⟩ := hm
   clear hp
   go_wp2_with fail
   go_ret
   exact HP.out
 | bad k rest =>
   obtain ⟨j, rfl, -⟩ := hm
   clear hp
   go_wp2_with fail
   exact ⟨rfl, HP.out⟩
set_option maxHeartbeats 6400000 in
theorem ph_both (x : Px) (f : Nat) (hfb : ∀ g, g ≤ f → Does x 134 (pa g (subT 2))) : Does x 98 (pa (f + 1) (.ch 2)) := by
 intro w i hx hB hi hnb
 have hmf : ∀ (fn : Fn) (first cap : Array Value) (w : World), (Instr.makeFunc fn first cap).run Tryz.prog w = .ok (.func fn first cap) w := fun _ _ _ _ => rfl
 have hmm := @run_makeMap Tryz.prog
 have hb0 : RowKit.Below w.heap.size w (w.alloc (.map #[] 0)) := by (repeat (first | assumption | exact Below.refl _ _ | apply Below.drew | apply below_drewN | (refine Below.alloc ?_ (by first | exact Nat.le_refl _ | omega | (simp; done) | (simp; omega)) _)))
 obtain ⟨w1, hr1, hs1, hg1⟩ := sg_put (sg_made w) (s := ⟨#[38, 38]⟩) (l0 := [38, 38]) (bsOf_list [38, 38]) (by decide) (by omega) (i := 11) (by decide) (by decide)
 have hb1 : RowKit.Below w.heap.size w w1 := hb0.grown hg1 hb0.size (fun q hq => by injection hq with hq; omega)
 have hpb := hB.lt
 have HC := Lib.hid (ph_chain x 2 _ 134 _ f (fun _ _ => by kernel_rfl) hfb (fun t ht => by
   rw [chOp2 ht]
   ) w1 i w.heap.size (hx.below hb1 hpb) (hB.below hb1) hi hs1 (by omega) hnb)
 have HO := Lib.hid (Only.of_below (g := x.pb) hb1 (Nat.le_refl _))
 clear hfb hx hB hi hnb hs1 hg1 hb1 hb0
 generalize pa (f + 1) (.ch 2) (x.ts.drop i) = Q at HC ⊢
 go_enter Tryz.func98, Tryz.ntmps98
 go_wp2_with fail
 refine HC.out.mono ?_
 rintro r w9 hp
 have hu := hp.up HO.out
 have HP := Lib.hid hu
 obtain ⟨-, hm⟩ := hu
 cases Q with
 | ok e rest =>
   obtain ⟨A, c, j, rfl, -⟩ := hm
   clear hp
   go_wp2_with fail
   go_ret
   exact HP.out
 | bad k rest =>
   obtain ⟨j, rfl, -⟩ := hm
   clear hp
   go_wp2_with fail
   exact ⟨rfl, HP.out⟩
set_option maxHeartbeats 6400000 in
theorem ph_sum (x : Px) (f : Nat) (hfb : ∀ g, g ≤ f → Does x 177 (pa g (subT 4))) : Does x 159 (pa (f + 1) (.ch 4)) := by
 intro w i hx hB hi hnb
 have hmf : ∀ (fn : Fn) (first cap : Array Value) (w : World), (Instr.makeFunc fn first cap).run Tryz.prog w = .ok (.func fn first cap) w := fun _ _ _ _ => rfl
 have hmm := @run_makeMap Tryz.prog
 have hb0 : RowKit.Below w.heap.size w (w.alloc (.map #[] 0)) := by (repeat (first | assumption | exact Below.refl _ _ | apply Below.drew | apply below_drewN | (refine Below.alloc ?_ (by first | exact Nat.le_refl _ | omega | (simp; done) | (simp; omega)) _)))
 obtain ⟨w1, hr1, hs1, hg1⟩ := sg_put (sg_made w) (s := ⟨#[43]⟩) (l0 := [43]) (bsOf_list [43]) (by decide) (by omega) (i := 17) (by decide) (by decide)
 have hb1 : RowKit.Below w.heap.size w w1 := hb0.grown hg1 hb0.size (fun q hq => by injection hq with hq; omega)
 obtain ⟨w2, hr2, hs2, hg2⟩ := sg_put hs1 (s := ⟨#[45]⟩) (l0 := [45]) (bsOf_list [45]) (by decide) (by omega) (i := 18) (by decide) (by decide)
 have hb2 : RowKit.Below w.heap.size w w2 := hb1.grown hg2 hb1.size (fun q hq => by injection hq with hq; omega)
 have hpb := hB.lt
 have HC := Lib.hid (ph_chain x 4 _ 177 _ f (fun _ _ => by kernel_rfl) hfb (fun t ht => by
   rw [chOp4 ht]
   by_cases h1 : t.s.toList = [43]
   · rw [h1]; rfl
   · rw [if_neg h1]; simp only [if_neg h1]) w2 i w.heap.size (hx.below hb2 hpb) (hB.below hb2) hi hs2 (by omega) hnb)
 have HO := Lib.hid (Only.of_below (g := x.pb) hb2 (Nat.le_refl _))
 clear hfb hx hB hi hnb hs1 hg1 hb1 hs2 hg2 hb2 hb0
 generalize pa (f + 1) (.ch 4) (x.ts.drop i) = Q at HC ⊢
 go_enter Tryz.func159, Tryz.ntmps159
 go_wp2_with fail
 refine HC.out.mono ?_
 rintro r w9 hp
 have hu := hp.up HO.out
 have HP := Lib.hid hu
 obtain ⟨-, hm⟩ := hu
 cases Q with
 | ok e rest =>
   obtain ⟨A, c, j, rfl, -⟩ := hm
   clear hp
   go_wp2_with fail
   go_ret
   exact HP.out
 | bad k rest =>
   obtain ⟨j, rfl, -⟩ := hm
   clear hp
   go_wp2_with fail
   exact ⟨rfl, HP.out⟩
set_option maxHeartbeats 6400000 in
theorem ph_prod (x : Px) (f : Nat) (hfb : ∀ g, g ≤ f → Does x 194 (pa g (subT 5))) : Does x 177 (pa (f + 1) (.ch 5)) := by
 intro w i hx hB hi hnb
 have hmf : ∀ (fn : Fn) (first cap : Array Value) (w : World), (Instr.makeFunc fn first cap).run Tryz.prog w = .ok (.func fn first cap) w := fun _ _ _ _ => rfl
 have hmm := @run_makeMap Tryz.prog
 have hb0 : RowKit.Below w.heap.size w (w.alloc (.map #[] 0)) := by (repeat (first | assumption | exact Below.refl _ _ | apply Below.drew | apply below_drewN | (refine Below.alloc ?_ (by first | exact Nat.le_refl _ | omega | (simp; done) | (simp; omega)) _)))
 obtain ⟨w1, hr1, hs1, hg1⟩ := sg_put (sg_made w) (s := ⟨#[42]⟩) (l0 := [42]) (bsOf_list [42]) (by decide) (by omega) (i := 19) (by decide) (by decide)
 have hb1 : RowKit.Below w.heap.size w w1 := hb0.grown hg1 hb0.size (fun q hq => by injection hq with hq; omega)
 have hpb := hB.lt
 have HC := Lib.hid (ph_chain x 5 _ 194 _ f (fun _ _ => by kernel_rfl) hfb (fun t ht => by
   rw [chOp5 ht]
   ) w1 i w.heap.size (hx.below hb1 hpb) (hB.below hb1) hi hs1 (by omega) hnb)
 have HO := Lib.hid (Only.of_below (g := x.pb) hb1 (Nat.le_refl _))
 clear hfb hx hB hi hnb hs1 hg1 hb1 hb0
 generalize pa (f + 1) (.ch 5) (x.ts.drop i) = Q at HC ⊢
 go_enter Tryz.func177, Tryz.ntmps177
 go_wp2_with fail
 refine HC.out.mono ?_
 rintro r w9 hp
 have hu := hp.up HO.out
 have HP := Lib.hid hu
 obtain ⟨-, hm⟩ := hu
 cases Q with
 | ok e rest =>
   obtain ⟨A, c, j, rfl, -⟩ := hm
   clear hp
   go_wp2_with fail
   go_ret
   exact HP.out
 | bad k rest =>
   obtain ⟨j, rfl, -⟩ := hm
   clear hp
   go_wp2_with fail
   exact ⟨rfl, HP.out⟩
end Go.Proofs.YtbggbcnfkcadjaaGreatDoor
