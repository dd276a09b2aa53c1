/-
  THE WALKS: (*parser).whole.
-/
import Derived.Test.YtbggbcnfkcadjaaGreatDoorPd06
namespace Go.Proofs.YtbggbcnfkcadjaaGreatDoor
set_option maxRecDepth 100000
open Go.RowKit Go.Sort
theorem l_if : (⟨#[105, 102]⟩ : ByteArray).toList = wIf := bsOf_list [105, 102]
theorem l_then : (⟨#[116, 104, 101, 110]⟩ : ByteArray).toList = wThen := bsOf_list [116, 104, 101, 110]
theorem l_else : (⟨#[101, 108, 115, 101]⟩ : ByteArray).toList = wElse := bsOf_list [101, 108, 115, 101]
theorem l_col : (⟨#[58, 58]⟩ : ByteArray).toList = wCol := bsOf_list [58, 58]
set_option maxHeartbeats 6400000 in
theorem ph_whole (x : Px) (f : Nat) (hw : Does x 30 (pa f .whole)) (h1 : Does x 60 (pa f (.ch 1))) : Does x 30 (pa (f + 1) .whole) := by
 intro w i hx hB hi hnb
 have S0 := St.start hx hB hi
 have n1 : hdW wIf (x.ts.drop i) = hdN wIf (x.ts.drop i) := S0.nm (by decide) i
 have n2 : hdW wCol (x.ts.drop (i + 1)) = hdS wCol (x.ts.drop (i + 1)) := S0.sg (by decide) (i + 1)
 have HS0 := Lib.hid S0
 have HLT := Lib.hid hB.lt
 have HW := Lib.hid hw
 have H1 := Lib.hid h1
 obtain ⟨Q, hQ⟩ : ∃ Q, pa (f + 1) .whole (x.ts.drop i) = Q := ⟨_, rfl⟩
 rw [hQ] at hnb ⊢
 have HN := Lib.hid hnb
 clear hx hB hi hw h1 hnb S0
 by_cases hif : hdN wIf (x.ts.drop i) = true ∧ hdS wCol (x.ts.drop (i + 1)) = false
 · have HQ0 : Hid ((pa f .whole (x.ts.drop (i + 1))).bind (fun c r => needN wThen r fun r => (pa f .whole r).bind fun a r => needN wElse r fun r => (pa f .whole r).bind fun b r => .ok (opX 13 (c ++ a ++ b)) r) = Q) := by
     show _ = _
     rw [← hQ]
     show _ = if hdN wIf (x.ts.drop i) = true ∧ hdS wCol (x.ts.drop i).tail = false then _ else _
     rw [tail_drop', if_pos hif]
   have HL := Lib.hid (hd_lt (f := hdN wIf) rfl hif.1)
   rw [hif.1] at n1
   rw [hif.2] at n2
   have N1 := Lib.hid n1
   have N2 := Lib.hid n2
   clear n1 n2 hif hQ H1
   go_enter Tryz.func30, Tryz.ntmps30
   go_wp2_with fail
   refine (HS0.out.is ⟨#[105, 102]⟩ _ l_if true N1.out).mono ?_
   rintro r w1 ⟨rfl, S1, o1⟩
   have XS1 := Lib.hid S1
   clear S1 o1  HS0
   go_wp2_with fail
   refine (XS1.out.ahead ⟨#[58, 58]⟩ _ l_col false N2.out).mono ?_
   rintro r w2 ⟨rfl, S2, o2⟩
   have XS2 := Lib.hid S2
   clear S2 o2  XS1
   have sc := XS2.out.blk.cell 1
   have sf := XS2.out.blk.frozen 1
   have s64 := XS2.out.i64
   have sc1 : w2.cell? ⟨x.pb, 1, none⟩ = some (.int .i64 (i : Nat)) := sc
   clear sc
   go_wp2_with fail
   have XS3 := Lib.hid (XS2.out.step HL.out)
   clear sc1 sf s64  XS2
   generalize w2.setCell ⟨x.pb, 1, none⟩ (.int .i64 (((i : Nat) : Int) + 1)) = w3 at XS3  ⊢
   go_wp2_with fail
   refine (XS3.out.call HW.out HN.out trivial HQ0.out).mono ?_
   rintro r w4 (⟨k, j, rfl, hp⟩ | ⟨A4, c4, e4, j4, rfl, E4, S4, o4, q4, l4, b4⟩)
   · have HP := Lib.hid hp
     clear hp
     go_wp2_with fail
     exact ⟨rfl, HP.out⟩
   have HE4 := Lib.hid E4
   have XS4 := Lib.hid S4
   have XQ4 := Lib.hid q4
   have HL4 : Hid (e4.length ≤ 300) := l4
   have HG4 := Lib.hid b4
   clear E4 S4 q4 l4 b4 o4  XS3 HQ0
   go_wp2_with fail
   refine (XS4.out.needN ⟨#[116, 104, 101, 110]⟩ l_then (by decide) XQ4.out).mono ?_
   rintro r w5 (⟨k, j, rfl, hp⟩ | ⟨rfl, S5, o5, q5⟩)
   · have HP := Lib.hid hp
     clear hp
     go_wp2_with fail
     exact ⟨rfl, HP.out⟩
   have HE4_5 := Lib.hid (HE4.out.on o5 HLT.out)
   have XS5 := Lib.hid S5
   have XQ5 := Lib.hid q5
   clear S5 q5 o5 HE4 XS4 XQ4
   go_wp2_with fail
   refine (XS5.out.call HW.out HN.out trivial XQ5.out).mono ?_
   rintro r w6 (⟨k, j, rfl, hp⟩ | ⟨A6, c6, e6, j6, rfl, E6, S6, o6, q6, l6, b6⟩)
   · have HP := Lib.hid hp
     clear hp
     go_wp2_with fail
     exact ⟨rfl, HP.out⟩
   have HE4_6 := Lib.hid (HE4_5.out.on o6 HLT.out)
   have HE6 := Lib.hid E6
   have XS6 := Lib.hid S6
   have XQ6 := Lib.hid q6
   have HL6 : Hid (e6.length ≤ 300) := l6
   have HG6 := Lib.hid b6
   clear E6 S6 q6 l6 b6 o6 HE4_5 XS5 XQ5
   go_wp2_with fail
   refine (XS6.out.needN ⟨#[101, 108, 115, 101]⟩ l_else (by decide) XQ6.out).mono ?_
   rintro r w7 (⟨k, j, rfl, hp⟩ | ⟨rfl, S7, o7, q7⟩)
   · have HP := Lib.hid hp
     clear hp
     go_wp2_with fail
     exact ⟨rfl, HP.out⟩
   have HE4_7 := Lib.hid (HE4_6.out.on o7 HLT.out)
   have HE6_7 := Lib.hid (HE6.out.on o7 HLT.out)
   have XS7 := Lib.hid S7
   have XQ7 := Lib.hid q7
   clear S7 q7 o7 HE4_6 HE6 XS6 XQ6
   go_wp2_with fail
   refine (XS7.out.call HW.out HN.out trivial XQ7.out).mono ?_
   rintro r w8 (⟨k, j, rfl, hp⟩ | ⟨A8, c8, e8, j8, rfl, E8, S8, o8, q8, l8, b8⟩)
   · have HP := Lib.hid hp
     clear hp
     go_wp2_with fail
     exact ⟨rfl, HP.out⟩
   have HE4_8 := Lib.hid (HE4_7.out.on o8 HLT.out)
   have HE6_8 := Lib.hid (HE6_7.out.on o8 HLT.out)
   have HE8 := Lib.hid E8
   have XS8 := Lib.hid S8
   have XQ8 := Lib.hid q8
   have HL8 : Hid (e8.length ≤ 300) := l8
   have HG8 := Lib.hid b8
   clear E8 S8 q8 l8 b8 o8 HE4_7 HE6_7 XS7 XQ7
   go_wp2_with fail
   refine (XS8.out.op 13 22 [⟨A4, c4, e4⟩, ⟨A6, c6, e6⟩, ⟨A8, c8, e8⟩] #[.slice A4 e4.length c4, .slice A6 e6.length c6, .slice A8 e8.length c8] rfl (mem3 HE4_8.out HE6_8.out HE8.out) (by have := HL4.out; have := HL6.out; have := HL8.out; simp [catN]; omega) (by simp) (E := opX 13 (e4 ++ e6 ++ e8)) (by simp [catN, opX])).mono ?_
   rintro r w9 ⟨A9, c9, rfl, E9, S9, o9⟩
   have HF := Lib.hid (S9.fin E9 XQ8.out)
   clear E9 S9 o9
   generalize opX 13 (e4 ++ e6 ++ e8) = EE at HF ⊢
   go_wp2_with fail
   go_ret
   exact HF.out
 · have HQ0 : Hid (pa f (.ch 1) (x.ts.drop i) = Q) := by
     show _ = _
     rw [← hQ]
     show _ = if hdN wIf (x.ts.drop i) = true ∧ hdS wCol (x.ts.drop i).tail = false then _ else _
     rw [tail_drop', if_neg hif]
   cases hb : hdN wIf (x.ts.drop i) with
   | false =>
     rw [hb] at n1
     have N1 := Lib.hid n1
     clear n1 n2 hif hQ hb
     go_enter Tryz.func30, Tryz.ntmps30
     go_wp2_with fail
     refine (HS0.out.is ⟨#[105, 102]⟩ _ l_if false N1.out).mono ?_
     rintro r w1 ⟨rfl, S1, o1⟩
     have XS1 := Lib.hid S1
     clear S1 o1  HS0
     go_wp2_with fail
     refine (XS1.out.last H1.out HN.out HQ0.out).mono ?_
     rintro r w9 (⟨k, j, rfl, hp⟩ | ⟨A9, c9, n9, rfl, hp⟩)
     · have HP := Lib.hid hp
       clear hp
       go_wp2_with fail
       exact ⟨rfl, HP.out⟩
     have HP := Lib.hid hp
     clear hp
     go_wp2_with fail
     go_ret
     exact HP.out
   | true =>
     have h2 : hdS wCol (x.ts.drop (i + 1)) = true := by
       cases h : hdS wCol (x.ts.drop (i + 1)) with
       | true => rfl
       | false => exact absurd ⟨hb, h⟩ hif
     rw [hb] at n1
     rw [h2] at n2
     have N1 := Lib.hid n1
     have N2 := Lib.hid n2
     clear n1 n2 hif hQ hb h2
     go_enter Tryz.func30, Tryz.ntmps30
     go_wp2_with fail
     refine (HS0.out.is ⟨#[105, 102]⟩ _ l_if true N1.out).mono ?_
     rintro r w1 ⟨rfl, S1, o1⟩
     have XS1 := Lib.hid S1
     clear S1 o1  HS0
     go_wp2_with fail
     refine (XS1.out.ahead ⟨#[58, 58]⟩ _ l_col true N2.out).mono ?_
     rintro r w2 ⟨rfl, S2, o2⟩
     have XS2 := Lib.hid S2
     clear S2 o2  XS1
     go_wp2_with fail
     refine (XS2.out.last H1.out HN.out HQ0.out).mono ?_
     rintro r w9 (⟨k, j, rfl, hp⟩ | ⟨A9, c9, n9, rfl, hp⟩)
     · have HP := Lib.hid hp
       clear hp
       go_wp2_with fail
       exact ⟨rfl, HP.out⟩
     have HP := Lib.hid hp
     clear hp
     go_wp2_with fail
     go_ret
     exact HP.out
end Go.Proofs.YtbggbcnfkcadjaaGreatDoor
