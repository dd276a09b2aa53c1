/-
  THE WALKS: name.Write.
-/
import Derived.Test.YtbommoefpekalaaGreatDoorQuote
import Derived.Test.YtbommoefpekalaaGreatDoorP
import Derived.Test.YtbommoefpekalaaGreatDoorSpPlain2
namespace Go.Proofs.YtbommoefpekalaaGreatDoor
open Go.RowKit Go.Sort

/-- A uid's text. -/
def writeV (u : Ud) : List UInt8 := if udErr u = 0 then u.ty.toList ++ 58 :: 58 :: quoteV u.id.toList else []
def Ud.val (u : Ud) : Value := .agg #[.string u.ty, .string u.id]
def UdOk (u : Ud) : Prop := u.ty.size ≤ 140737488351232 ∧ u.id.size ≤ 140737488351232
theorem uid_text (s : ByteArray) (l : List UInt8) : bsOf (s.toList ++ 58 :: 58 :: l) = s ++ ⟨#[58, 58]⟩ ++ bsOf l := by
  apply ByteArray.ext
  rw [ByteArray.toList_eq, ByteArray.data_append, ByteArray.data_append]
  apply Array.toList_inj.1
  rw [Array.toList_append, Array.toList_append]
  show s.data.toList ++ 58 :: 58 :: l = _
  rw [List.append_assoc]; rfl
theorem encStr_bs' (l : List UInt8) : encStr l = .string (bsOf l) := rfl
set_option maxRecDepth 100000 in
set_option maxHeartbeats 1600000 in
theorem name_Write (u : Ud) (w : World) (hu : UdOk u) :
    Calls Tryz.prog 69 #[.agg #[.string u.ty, .string u.id]] w fun e w' => e = .returned (.tuple #[encStr (writeV u), errV (udErr u)]) ∧ Below w.heap.size w w' := by
  have HN := Lib.hid (fun W => name_Check u.ty W hu.1)
  have HQ := Lib.hid (fun W => name_Quote u.id W hu.2)
  by_cases hn : nameErr u.ty.toList = 0
  · by_cases ht : textErr u.id.toList = 0
    · have HV : Hid (udErr u = 0) := by show _ = _; rw [udErr, if_pos hn, ht]
      have HL : Hid (writeV u = u.ty.toList ++ 58 :: 58 :: quoteV u.id.toList) := by show _ = _; rw [writeV, if_pos HV.out]
      have hz : u.ty.size ≤ 20 := by have := (nameErr_zero hn).2.1; rwa [toList_len] at this
      have hqz : (bsOf (quoteV u.id.toList)).size ≤ 122 := by rw [bsOf_sz]; exact quoteV_len _
      rw [hn] at HN
      rw [ht] at HQ
      clear hn ht
      generalize hq : bsOf (quoteV u.id.toList) = qs at hqz
      have HQS := Lib.hid hq
      rw [encStr_bs', hq] at HQ
      clear hq
      go_enter Tryz.func69, Tryz.ntmps69
      go_wp2_with fail
      refine (HN.out _).mono ?_
      rintro e w1 ⟨rfl, hb1⟩
      obtain ⟨hcc, hff⟩ := bcell hb1
      have hlt1 : w.heap.size < w1.heap.size := by have := hb1.size; simp at this; omega
      have hb0 : Below w.heap.size w w1 := ((Below.refl _ _).alloc (Nat.le_refl _) _).trans (hb1.mono (by simp))
      clear hb1
      rw [errV_zero]
      go_wp2_with fail
      refine (HQ.out _).mono ?_
      rintro e w2 ⟨rfl, hb2⟩
      rw [errV_zero]
      have hb02 : Below w.heap.size w w2 := hb0.trans (hb2.mono hb0.size)
      obtain ⟨hcc2, hff2⟩ := bcell hb2
      have hlt2 : w.heap.size < w2.heap.size := Nat.lt_of_lt_of_le hlt1 hb2.size
      clear hb2
      go_wp2_with fail
      go_ret2
      refine ⟨?_, hb02⟩
      rw [HL.out, HV.out, errV_zero, encStr_bs', ← HQS.out, uid_text]
      rfl
    · have HV : Hid (udErr u = textErr u.id.toList) := by show _ = _; rw [udErr, if_pos hn]
      have hw : writeV u = [] := by rw [writeV, if_neg (by rw [HV.out]; exact ht)]
      rw [hn] at HN
      have hne : (textErr u.id.toList != 0) = true := by simp [ht]
      have HW := Lib.hid hw
      clear hn ht hw
      go_enter Tryz.func69, Tryz.ntmps69
      go_wp2_with fail
      refine (HN.out _).mono ?_
      rintro e w1 ⟨rfl, hb1⟩
      obtain ⟨hcc, hff⟩ := bcell hb1
      have hlt1 : w.heap.size < w1.heap.size := by have := hb1.size; simp at this; omega
      have hb0 : Below w.heap.size w w1 := ((Below.refl _ _).alloc (Nat.le_refl _) _).trans (hb1.mono (by simp))
      clear hb1
      rw [errV_zero]
      go_wp2_with fail
      refine (HQ.out _).mono ?_
      rintro e w2 ⟨rfl, hb2⟩
      go_wp2_with fail
      go_ret2
      exact ⟨by rw [HV.out, HW.out]; rfl, hb0.trans (hb2.mono hb0.size)⟩
  · have HV : Hid (udErr u = nameErr u.ty.toList) := by show _ = _; rw [udErr, if_neg hn]
    have hw : writeV u = [] := by rw [writeV, if_neg (by rw [HV.out]; exact hn)]
    have hne : (nameErr u.ty.toList != 0) = true := by simp [hn]
    have HW := Lib.hid hw
    clear hn hw
    go_enter Tryz.func69, Tryz.ntmps69
    go_wp2_with fail
    refine (HN.out _).mono ?_
    rintro e w1 ⟨rfl, hb1⟩
    obtain ⟨hcc, hff⟩ := bcell hb1
    have hlt1 : w.heap.size < w1.heap.size := by have := hb1.size; simp at this; omega
    have hb0 : Below w.heap.size w w1 := ((Below.refl _ _).alloc (Nat.le_refl _) _).trans (hb1.mono (by simp))
    clear hb1
    go_wp2_with fail
    go_ret2
    exact ⟨by rw [HV.out, HW.out]; rfl, hb0⟩
end Go.Proofs.YtbommoefpekalaaGreatDoor
