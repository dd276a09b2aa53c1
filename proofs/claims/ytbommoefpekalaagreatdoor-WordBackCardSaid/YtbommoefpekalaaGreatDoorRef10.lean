/-
  THE WALKS of the reference: words: Word, the other cases.
-/
import Derived.Test.YtbommoefpekalaaGreatDoorRef9
namespace Go.Proofs.YtbommoefpekalaaGreatDoor
open Go.RowKit

set_option maxRecDepth 100000 in
set_option maxHeartbeats 3200000 in
theorem r2_Word_name (s : ByteArray) (i : Nat) (w : World) (hs : s.size ≤ 140737488351232) (hi : i < s.size) (hd : digitI (s[i].toNat : Int) = false) (hl : letterI (s[i].toNat : Int) = true) :
    Calls Tryz.prog 57 #[.string s, .int .i64 i] w (WdPost w i (wordP (s.toList.drop i))) := by
  have hq : wordP (s.toList.drop i) = namedP 1 (s.toList.drop i) 0 := by rw [toList_drop s i hi]; exact wordP_name hd hl
  rw [hq]
  have h63 : ((s[i].toNat : Int) == 63) = false := by
    rw [Bool.eq_false_iff]
    intro h
    rw [eq_of_beq h] at hl
    exact absurd hl (by decide)
  have hrl : runL nameI s i = i + ((s.toList.drop i).takeWhile nameB).length := rfl
  have hrle := runL_le nameI s (Nat.le_of_lt hi)
  have hsp : (s.extract i (runL nameI s i)).toList = (s.toList.drop i).takeWhile nameB := runL_span nameI s i
  have hbq : s.extract i (runL nameI s i) = bsOf ((s.toList.drop i).takeWhile nameB) := span_bs nameI s i
  have HRUN := Lib.hid (fun W => r2_run_name s i W hs (Nat.le_of_lt hi))
  have hxs : (s.extract i (runL nameI s i)).size ≤ 140737488351232 := by rw [ByteArray.size_extract]; omega
  have HNF := Lib.hid (fun W => r1_NameFault (s.extract i (runL nameI s i)) W hxs)
  rw [hsp] at HNF
  have hrge := runL_ge nameI s i
  unfold namedP
  generalize runL nameI s i = j at hrl hrle HRUN HNF hbq hrge
  have HBQ := Lib.hid hbq
  have HJ := Lib.hid hrl
  clear hq hsp hbq hrl hxs
  generalize hk : nameErr ((s.toList.drop i).takeWhile nameB) = k at HNF ⊢
  clear hk
  by_cases h0 : k = 0
  · rw [if_pos h0]
    have hv : Hid (Ending.returned (.tuple #[.agg #[.int .i64 1, .string (s.extract i j), .int .i64 i], .int .i64 j, .int .i64 0]) = Ending.returned (wdV i (.ok 1 ((s.toList.drop i).takeWhile nameB) (((s.toList.drop i).takeWhile nameB).length + 0)))) := by
      show _ = _
      exact wdV_ok HBQ.out (by have := HJ.out; omega)
    have hk0 : (k != 0) = false := by simp [h0]
    clear h0
    go_enter Tryz.func57, Tryz.ntmps57
    go_wp2_with (first | (go_at_call 79; refine (r2_isDigit _ _).mono ?_; rintro e w' ⟨rfl, rfl⟩) | (go_at_call 81; refine (r2_isLetter _ _).mono ?_; rintro e w' ⟨rfl, rfl⟩))
    refine Calls.mono (HRUN.out _) ?_
    rintro r w1 ⟨rfl, rfl⟩
    go_wp2_with fail
    refine Calls.mono (HNF.out _) ?_
    rintro r w2 ⟨rfl, rfl⟩
    go_wp2_with fail
    refine bodyPost_ret (v := .tuple #[.agg #[.int .i64 1, .string (s.extract i j), .int .i64 i], .int .i64 j, .int .i64 0]) (by simp [results, Tryz.results57, go_sem]) rfl (WdPost.mk hv.out (by (repeat (first | assumption | exact Below.refl _ _ | apply Below.drew | apply below_drewN | (refine Below.alloc ?_ (by first | exact Nat.le_refl _ | omega | (simp; done) | (simp; omega)) _)))))
  · rw [if_neg h0]
    have hk0 : (k != 0) = true := by simp [h0]
    clear h0
    go_enter Tryz.func57, Tryz.ntmps57
    go_wp2_with (first | (go_at_call 79; refine (r2_isDigit _ _).mono ?_; rintro e w' ⟨rfl, rfl⟩) | (go_at_call 81; refine (r2_isLetter _ _).mono ?_; rintro e w' ⟨rfl, rfl⟩))
    refine Calls.mono (HRUN.out _) ?_
    rintro r w1 ⟨rfl, rfl⟩
    go_wp2_with fail
    refine Calls.mono (HNF.out _) ?_
    rintro r w2 ⟨rfl, rfl⟩
    go_wp2_with fail
    refine bodyPost_ret (v := wdV i (.bad k)) (by simp [results, Tryz.results57, go_sem, wdV]) rfl (WdPost.mk rfl (by (repeat (first | assumption | exact Below.refl _ _ | apply Below.drew | apply below_drewN | (refine Below.alloc ?_ (by first | exact Nat.le_refl _ | omega | (simp; done) | (simp; omega)) _)))))

set_option maxRecDepth 100000 in
set_option maxHeartbeats 3200000 in
theorem r2_Word_slot (s : ByteArray) (i : Nat) (w : World) (hs : s.size ≤ 140737488351232) (hi : i < s.size) (hd : digitI (s[i].toNat : Int) = false) (hl : letterI (s[i].toNat : Int) = false) (h34 : ¬ s[i] = 34) (h63' : s[i] = 63) :
    Calls Tryz.prog 57 #[.string s, .int .i64 i] w (WdPost w i (wordP (s.toList.drop i))) := by
  have hq : wordP (s.toList.drop i) = namedP 4 (s.toList.drop (i + 1)) 1 := by rw [toList_drop s i hi]; exact wordP_slot hd hl h34 h63'
  rw [hq]
  have h63 : ((s[i].toNat : Int) == 63) = true := beq_lit h63'
  clear h34 h63'
  have hrl : runL nameI s (i + 1) = i + 1 + ((s.toList.drop (i + 1)).takeWhile nameB).length := rfl
  have hrle := runL_le nameI s (show i + 1 ≤ s.size from hi)
  have hsp : (s.extract (i + 1) (runL nameI s (i + 1))).toList = (s.toList.drop (i + 1)).takeWhile nameB := runL_span nameI s (i + 1)
  have hbq : s.extract (i + 1) (runL nameI s (i + 1)) = bsOf ((s.toList.drop (i + 1)).takeWhile nameB) := span_bs nameI s (i + 1)
  have HRUN := Lib.hid (fun W => r2_run_name s (i + 1) W hs hi)
  have hxs : (s.extract (i + 1) (runL nameI s (i + 1))).size ≤ 140737488351232 := by rw [ByteArray.size_extract]; omega
  have HNF := Lib.hid (fun W => r1_NameFault (s.extract (i + 1) (runL nameI s (i + 1))) W hxs)
  rw [hsp] at HNF
  have hrge := runL_ge nameI s (i + 1)
  unfold namedP
  generalize runL nameI s (i + 1) = j at hrl hrle HRUN HNF hbq hrge
  have HBQ := Lib.hid hbq
  have HJ := Lib.hid hrl
  clear hq hsp hbq hrl hxs
  generalize hk : nameErr ((s.toList.drop (i + 1)).takeWhile nameB) = k at HNF ⊢
  clear hk
  by_cases h0 : k = 0
  · rw [if_pos h0]
    have hv : Hid (Ending.returned (.tuple #[.agg #[.int .i64 4, .string (s.extract (i + 1) j), .int .i64 i], .int .i64 j, .int .i64 0]) = Ending.returned (wdV i (.ok 4 ((s.toList.drop (i + 1)).takeWhile nameB) (((s.toList.drop (i + 1)).takeWhile nameB).length + 1)))) := by
      show _ = _
      exact wdV_ok HBQ.out (by have := HJ.out; omega)
    have hk0 : (k != 0) = false := by simp [h0]
    clear h0
    go_enter Tryz.func57, Tryz.ntmps57
    go_wp2_with (first | (go_at_call 79; refine (r2_isDigit _ _).mono ?_; rintro e w' ⟨rfl, rfl⟩) | (go_at_call 81; refine (r2_isLetter _ _).mono ?_; rintro e w' ⟨rfl, rfl⟩))
    refine Calls.mono (HRUN.out _) ?_
    rintro r w1 ⟨rfl, rfl⟩
    go_wp2_with fail
    refine Calls.mono (HNF.out _) ?_
    rintro r w2 ⟨rfl, rfl⟩
    go_wp2_with fail
    refine bodyPost_ret (v := .tuple #[.agg #[.int .i64 4, .string (s.extract (i + 1) j), .int .i64 i], .int .i64 j, .int .i64 0]) (by simp [results, Tryz.results57, go_sem]) rfl (WdPost.mk hv.out (by (repeat (first | assumption | exact Below.refl _ _ | apply Below.drew | apply below_drewN | (refine Below.alloc ?_ (by first | exact Nat.le_refl _ | omega | (simp; done) | (simp; omega)) _)))))
  · rw [if_neg h0]
    have hk0 : (k != 0) = true := by simp [h0]
    clear h0
    go_enter Tryz.func57, Tryz.ntmps57
    go_wp2_with (first | (go_at_call 79; refine (r2_isDigit _ _).mono ?_; rintro e w' ⟨rfl, rfl⟩) | (go_at_call 81; refine (r2_isLetter _ _).mono ?_; rintro e w' ⟨rfl, rfl⟩))
    refine Calls.mono (HRUN.out _) ?_
    rintro r w1 ⟨rfl, rfl⟩
    go_wp2_with fail
    refine Calls.mono (HNF.out _) ?_
    rintro r w2 ⟨rfl, rfl⟩
    go_wp2_with fail
    refine bodyPost_ret (v := wdV i (.bad k)) (by simp [results, Tryz.results57, go_sem, wdV]) rfl (WdPost.mk rfl (by (repeat (first | assumption | exact Below.refl _ _ | apply Below.drew | apply below_drewN | (refine Below.alloc ?_ (by first | exact Nat.le_refl _ | omega | (simp; done) | (simp; omega)) _)))))

set_option maxRecDepth 100000 in
set_option maxHeartbeats 3200000 in
theorem r2_Word_quo (s : ByteArray) (i : Nat) (w : World) (hs : s.size ≤ 140737488351232) (hi : i < s.size) (hd : digitI (s[i].toNat : Int) = false) (hl : letterI (s[i].toNat : Int) = false) (h34' : s[i] = 34) :
    Calls Tryz.prog 57 #[.string s, .int .i64 i] w (WdPost w i (wordP (s.toList.drop i))) := by
  have hq : wordP (s.toList.drop i) = quoP (s.toList.drop (i + 1)) [] 1 := by rw [toList_drop s i hi]; exact wordP_quo hd hl h34'
  rw [hq]
  have h34 : ((s[i].toNat : Int) == 34) = true := beq_lit h34'
  have h63 : ((s[i].toNat : Int) == 63) = false := by rw [h34']; rfl
  have HQ := Lib.hid (fun W => r2_quoted s i W hs hi)
  clear hq h34'
  cases hqq : quoP (s.toList.drop (i + 1)) [] 1 with
  | bad k =>
    rw [hqq] at HQ
    clear hqq
    go_enter Tryz.func57, Tryz.ntmps57
    go_wp2_with (first | (go_at_call 79; refine (r2_isDigit _ _).mono ?_; rintro e w' ⟨rfl, rfl⟩) | (go_at_call 81; refine (r2_isLetter _ _).mono ?_; rintro e w' ⟨rfl, rfl⟩))
    refine Calls.mono (HQ.out _) ?_
    rintro r w2 ⟨he, hb2⟩
    have he : r = .returned (.tuple #[.agg #[.int .i64 0, .string ⟨#[]⟩, .int .i64 0], .int .i64 0, .int .i64 k]) := he
    subst he
    have hz : w.heap.size < w2.heap.size := by have := hb2.size; simp at this; omega
    have hbk : Blk w2 w.heap.size 28 #[.int .i64 0, .string ⟨#[]⟩, .int .i64 0] := (Blk.new w 28 _).below hb2 (by simp)
    have hk := hbk.cell
    have hf := hbk.frozen
    have hw2 : Below w.heap.size w w2 := ((Below.refl _ _).alloc (Nat.le_refl _) _).trans (hb2.mono (by simp))
    clear hb2
    go_wp2_with fail
    refine bodyPost_ret (v := wdV i (.bad k)) (by simp [results, Tryz.results57, go_sem, wdV, hk]) rfl (WdPost.mk rfl (((hw2.setCell (p := ⟨w.heap.size, 0, none⟩) (Nat.le_refl _) _).setCell (p := ⟨w.heap.size, 1, none⟩) (Nat.le_refl _) _).setCell (p := ⟨w.heap.size, 2, none⟩) (Nat.le_refl _) _))
  | ok kind t n =>
    rw [hqq] at HQ
    clear hqq
    go_enter Tryz.func57, Tryz.ntmps57
    go_wp2_with (first | (go_at_call 79; refine (r2_isDigit _ _).mono ?_; rintro e w' ⟨rfl, rfl⟩) | (go_at_call 81; refine (r2_isLetter _ _).mono ?_; rintro e w' ⟨rfl, rfl⟩))
    refine Calls.mono (HQ.out _) ?_
    rintro r w2 ⟨he, hb2⟩
    have he : r = .returned (.tuple #[.agg #[.int .i64 kind, .string (bsOf t), .int .i64 i], .int .i64 ((i : Int) + n), .int .i64 0]) := he
    subst he
    have hz : w.heap.size < w2.heap.size := by have := hb2.size; simp at this; omega
    have hbk : Blk w2 w.heap.size 28 #[.int .i64 0, .string ⟨#[]⟩, .int .i64 0] := (Blk.new w 28 _).below hb2 (by simp)
    have hk := hbk.cell
    have hf := hbk.frozen
    have hw2 : Below w.heap.size w w2 := ((Below.refl _ _).alloc (Nat.le_refl _) _).trans (hb2.mono (by simp))
    clear hb2
    go_wp2_with fail
    refine bodyPost_ret (v := .tuple #[.agg #[.int .i64 kind, .string (bsOf t), .int .i64 i], .int .i64 ((i : Int) + n), .int .i64 0]) (by simp [results, Tryz.results57, go_sem, hk]) rfl (WdPost.mk rfl (((hw2.setCell (p := ⟨w.heap.size, 0, none⟩) (Nat.le_refl _) _).setCell (p := ⟨w.heap.size, 1, none⟩) (Nat.le_refl _) _).setCell (p := ⟨w.heap.size, 2, none⟩) (Nat.le_refl _) _))
end Go.Proofs.YtbommoefpekalaaGreatDoor
