/-
  THE WALKS: package word: word, the other cases; all of them.
-/
import Derived.Test.YtbommoefpekalaaGreatDoorWord5
import Derived.StillTailTactics
namespace Go.Proofs.YtbommoefpekalaaGreatDoor
open Go.RowKit

set_option maxRecDepth 100000 in
set_option maxHeartbeats 3200000 in
theorem word_word_quo (s : ByteArray) (p rb : Nat) (w : World) (hs : s.size ≤ 140737488351232) (hi : p < s.size) (hb : Blk w rb 74 (rdS s p)) (hd : digitI (s[p].toNat : Int) = false) (hl : letterI (s[p].toNat : Int) = false) (h34 : s[p] = 34) :
    Calls Tryz.prog 31 #[.pointer (some ⟨rb, 0, none⟩)] w (QuoPost s p rb w (wordP (s.toList.drop p))) := by
  have hrb := hb.lt
  have hni : nameI (s[p].toNat : Int) = false := by unfold nameI; rw [hl, hd]; rfl
  have t34 : ((s[p].toNat : Int) == 34) = true := beq_lit h34
  have hq : wordP (s.toList.drop p) = quoP (s.toList.drop (p + 1)) [] 1 := by rw [toList_drop s p hi]; exact wordP_quo hd hl h34
  rw [hq]
  have HN := Lib.hid (fun W (hW : Blk W rb 74 (rdS s p)) => word_quoted s p rb W hs hi hW)
  have hW0 := WInv.new hb
  have c0 : (w.alloc (.cells #[.int .i64 0, .string ⟨#[]⟩, .int .i64 0] 28)).cell? ⟨rb, 0, none⟩ = some (.string s) := hW0.rd.cell 0
  have c1 : (w.alloc (.cells #[.int .i64 0, .string ⟨#[]⟩, .int .i64 0] 28)).cell? ⟨rb, 1, none⟩ = some (.int .i64 p) := hW0.rd.cell 1
  have HW0 := Lib.hid hW0
  clear hq hW0 hb h34
  cases hqq : quoP (s.toList.drop (p + 1)) [] 1 with
  | bad k =>
    rw [hqq] at HN
    clear hqq
    go_enter Tryz.func31, Tryz.ntmps31
    go_wp2_with fail
    go_quiet (fail)
    go_wp2_with (first | (go_at_call 59; refine (word_digit _ _).mono ?_; rintro e w' ⟨rfl, rfl⟩) | (go_at_call 61; refine (word_inName _ _).mono ?_; rintro e w' ⟨rfl, rfl⟩))
    generalize hw1 : (w.alloc _).drewN _ = w1
    have hI1 : WInv s rb w p w1 := by rw [← hw1]; exact HW0.out.drewN _
    have HI1 := Lib.hid hI1
    clear hw1 hI1 c0 c1
    refine Calls.mono (HN.out _ HI1.out.rd) ?_
    rintro r w2 ⟨rfl, ho2⟩
    go_wp2_with fail
    exact ⟨rfl, QuoPost.bad rfl rfl (HI1.out.on.trans (ho2.mono (Nat.le_of_lt HI1.out.tk.lt)))⟩
  | ok kind t n =>
    rw [hqq] at HN
    clear hqq
    go_enter Tryz.func31, Tryz.ntmps31
    go_wp2_with fail
    go_quiet (fail)
    go_wp2_with (first | (go_at_call 59; refine (word_digit _ _).mono ?_; rintro e w' ⟨rfl, rfl⟩) | (go_at_call 61; refine (word_inName _ _).mono ?_; rintro e w' ⟨rfl, rfl⟩))
    generalize hw1 : (w.alloc _).drewN _ = w1
    have hI1 : WInv s rb w p w1 := by rw [← hw1]; exact HW0.out.drewN _
    have HI1 := Lib.hid hI1
    clear hw1 hI1 c0 c1
    refine Calls.mono (HN.out _ HI1.out.rd) ?_
    rintro r w2 ⟨rfl, hb2, ho2⟩
    have HI2 := Lib.hid (HI1.out.only hrb hb2 ho2)
    clear hb2 ho2
    have k0 := HI2.out.tk.cell
    have f0 := HI2.out.tk.frozen
    have hlt0 := HI2.out.tk.lt
    go_wp2_with fail
    refine bodyPost_ret (v := .agg #[.int .i64 kind, .string (bsOf t), .int .i64 p]) (by simp [results, Tryz.results31, go_sem, k0]) rfl ?_
    have hdn := HI2.out.done hrb (.int .i64 kind) (.string (bsOf t)) (.int .i64 p)
    exact QuoPost.ok rfl rfl hdn.1 hdn.2

set_option maxRecDepth 100000 in
set_option maxHeartbeats 3200000 in
theorem word_word_slot (s : ByteArray) (p rb : Nat) (w : World) (hs : s.size ≤ 140737488351232) (hi : p < s.size) (hb : Blk w rb 74 (rdS s p)) (hd : digitI (s[p].toNat : Int) = false) (hl : letterI (s[p].toNat : Int) = false) (h34 : ¬ s[p] = 34) (h63 : s[p] = 63) :
    Calls Tryz.prog 31 #[.pointer (some ⟨rb, 0, none⟩)] w (QuoPost s p rb w (wordP (s.toList.drop p))) := by
  have hrb := hb.lt
  have hni : nameI (s[p].toNat : Int) = false := by unfold nameI; rw [hl, hd]; rfl
  have t34 : ((s[p].toNat : Int) == 34) = false := bne_lit h34
  have t63 : ((s[p].toNat : Int) == 63) = true := beq_lit h63
  have hq : wordP (s.toList.drop p) = namedP 4 (s.toList.drop (p + 1)) 1 := by rw [toList_drop s p hi]; exact wordP_slot hd hl h34 h63
  rw [hq]
  have hrl : runL nameI s (p + 1) = p + 1 + ((s.toList.drop (p + 1)).takeWhile nameB).length := rfl
  have hsp : (s.extract (p + 1) (runL nameI s (p + 1))).toList = (s.toList.drop (p + 1)).takeWhile nameB := runL_span nameI s (p + 1)
  have hbq : s.extract (p + 1) (runL nameI s (p + 1)) = bsOf ((s.toList.drop (p + 1)).takeWhile nameB) := span_bs nameI s (p + 1)
  have hW0 := WInv.new hb
  have c0 : (w.alloc (.cells #[.int .i64 0, .string ⟨#[]⟩, .int .i64 0] 28)).cell? ⟨rb, 0, none⟩ = some (.string s) := hW0.rd.cell 0
  have c1 : (w.alloc (.cells #[.int .i64 0, .string ⟨#[]⟩, .int .i64 0] 28)).cell? ⟨rb, 1, none⟩ = some (.int .i64 p) := hW0.rd.cell 1
  have z1 : (w.alloc (.cells #[.int .i64 0, .string ⟨#[]⟩, .int .i64 0] 28)).frozen? ⟨rb, 1, none⟩ = false := hW0.rd.frozen 1
  have HW0 := Lib.hid hW0
  have hne := nameErr_cases ((s.toList.drop (p + 1)).takeWhile nameB)
  unfold namedP
  by_cases h0 : nameErr ((s.toList.drop (p + 1)).takeWhile nameB) = 0
  · rw [if_pos h0]
    have HN := Lib.hid (fun W (hW : Blk W rb 74 (rdS s (p + 1))) => word_named_ok s 4 (p + 1) p rb W hs (by omega) hW (by rw [hsp]; exact h0))
    rw [hbq] at HN
    rw [hrl] at HN
    clear hq hsp hbq hrl h0 hne hW0 hb h34 h63
    generalize (s.toList.drop (p + 1)).takeWhile nameB = L at HN ⊢
    go_enter Tryz.func31, Tryz.ntmps31
    go_wp2_with fail
    go_quiet (fail)
    go_wp2_with (first | (go_at_call 59; refine (word_digit _ _).mono ?_; rintro e w' ⟨rfl, rfl⟩) | (go_at_call 61; refine (word_inName _ _).mono ?_; rintro e w' ⟨rfl, rfl⟩))
    generalize hw1 : ((w.alloc _).drewN _).setCell ⟨rb, 1, none⟩ (.int .i64 ((p : Int) + 1)) = w1
    have hI1 : WInv s rb w (p + 1) w1 := by rw [← hw1]; exact (HW0.out.drewN _).step hrb (p + 1)
    have HI1 := Lib.hid hI1
    clear hw1 hI1 c0 c1 z1
    refine Calls.mono (HN.out _ HI1.out.rd) ?_
    rintro r w2 ⟨rfl, hb2, ho2⟩
    have HI2 := Lib.hid (HI1.out.only hrb hb2 ho2)
    clear hb2 ho2
    have k0 := HI2.out.tk.cell
    have f0 := HI2.out.tk.frozen
    have hlt0 := HI2.out.tk.lt
    go_wp2_with fail
    refine bodyPost_ret (v := .agg #[.int .i64 4, .string (bsOf L), .int .i64 p]) (by simp [results, Tryz.results31, go_sem, k0]) rfl ?_
    have hdn := HI2.out.done hrb (.int .i64 4) (.string (bsOf L)) (.int .i64 p)
    exact QuoPost.ok rfl rfl (by rw [show p + (L.length + 1) = p + 1 + L.length from by omega]; exact hdn.1) hdn.2
  · rw [if_neg h0]
    have HN := Lib.hid (fun W (hW : Blk W rb 74 (rdS s (p + 1))) => word_named_bad s 4 _ (p + 1) p rb W hs (by omega) hW rfl (by rw [hsp]; exact hne.resolve_left h0))
    rw [hsp] at HN
    clear hq hsp hbq hrl h0 hne hW0 hb h34 h63
    generalize nameErr ((s.toList.drop (p + 1)).takeWhile nameB) = k at HN ⊢
    go_enter Tryz.func31, Tryz.ntmps31
    go_wp2_with fail
    go_quiet (fail)
    go_wp2_with (first | (go_at_call 59; refine (word_digit _ _).mono ?_; rintro e w' ⟨rfl, rfl⟩) | (go_at_call 61; refine (word_inName _ _).mono ?_; rintro e w' ⟨rfl, rfl⟩))
    generalize hw1 : ((w.alloc _).drewN _).setCell ⟨rb, 1, none⟩ (.int .i64 ((p : Int) + 1)) = w1
    have hI1 : WInv s rb w (p + 1) w1 := by rw [← hw1]; exact (HW0.out.drewN _).step hrb (p + 1)
    have HI1 := Lib.hid hI1
    clear hw1 hI1 c0 c1 z1
    refine Calls.mono (HN.out _ HI1.out.rd) ?_
    rintro r w2 ⟨rfl, ho2⟩
    go_wp2_with fail
    exact ⟨rfl, QuoPost.bad rfl rfl (HI1.out.on.trans (ho2.mono (Nat.le_of_lt HI1.out.tk.lt)))⟩

set_option maxRecDepth 100000 in
set_option maxHeartbeats 3200000 in
theorem word_word_sign (s : ByteArray) (p rb : Nat) (w : World) (hs : s.size ≤ 140737488351232) (hi : p < s.size) (hb : Blk w rb 74 (rdS s p)) (hd : digitI (s[p].toNat : Int) = false) (hl : letterI (s[p].toNat : Int) = false) (h34 : ¬ s[p] = 34) (h63 : ¬ s[p] = 63) :
    Calls Tryz.prog 31 #[.pointer (some ⟨rb, 0, none⟩)] w (QuoPost s p rb w (wordP (s.toList.drop p))) := by
  have hrb := hb.lt
  have hni : nameI (s[p].toNat : Int) = false := by unfold nameI; rw [hl, hd]; rfl
  have t34 : ((s[p].toNat : Int) == 34) = false := bne_lit h34
  have t63 : ((s[p].toNat : Int) == 63) = false := bne_lit h63
  have hq : wordP (s.toList.drop p) = if signP (s.toList.drop p) = [] then .bad 1 else .ok 5 (signP (s.toList.drop p)) (signP (s.toList.drop p)).length := by rw [toList_drop s p hi]; exact wordP_sign hd hl h34 h63
  rw [hq]
  have hex : (s.extract p s.size).toList = s.toList.drop p := by rw [ByteArray.toList_eq, Lib.extract_to_end, ← ByteArray.toList_eq]
  have hsl : (signP (s.toList.drop p)).length + p ≤ s.size := by
    have := signP_len (s.toList.drop p)
    rw [List.length_drop, toList_len] at this; omega
  have HSG := Lib.hid (fun W => word_sign (s.extract p s.size) W)
  rw [hex] at HSG
  have hW0 := WInv.new hb
  have c0 : (w.alloc (.cells #[.int .i64 0, .string ⟨#[]⟩, .int .i64 0] 28)).cell? ⟨rb, 0, none⟩ = some (.string s) := hW0.rd.cell 0
  have c1 : (w.alloc (.cells #[.int .i64 0, .string ⟨#[]⟩, .int .i64 0] 28)).cell? ⟨rb, 1, none⟩ = some (.int .i64 p) := hW0.rd.cell 1
  have HW0 := Lib.hid hW0
  clear hq hW0 hb h34 h63 hex
  generalize signP (s.toList.drop p) = L at HSG hsl ⊢
  obtain ⟨bl, hbl⟩ : ∃ bl : ByteArray, bl = bsOf L := ⟨_, rfl⟩
  rw [← hbl] at HSG
  have hbs : bl.size = L.length := by rw [hbl]; rfl
  have hbt : bl.toList = L := by rw [hbl, ByteArray.toList_eq]; rfl
  have HBL := Lib.hid hbl
  clear hbl
  have hslc : ∀ W : World, (Instr.slice 9 (.string s) (some (.int .i64 (p : Int))) none none).run Tryz.prog W = .ok (.string (s.extract p s.size)) W := fun W => by
    go_simp
    intro h; omega
  by_cases he : L = []
  · rw [if_pos he]
    go_enter Tryz.func31, Tryz.ntmps31
    go_wp2_with fail
    go_quiet (fail)
    go_wp2_with (first | (go_at_call 59; refine (word_digit _ _).mono ?_; rintro e w' ⟨rfl, rfl⟩) | (go_at_call 61; refine (word_inName _ _).mono ?_; rintro e w' ⟨rfl, rfl⟩))
    generalize hw1 : (w.alloc _).drewN _ = w1
    have hI1 : WInv s rb w p w1 := by rw [← hw1]; exact HW0.out.drewN _
    have HI1 := Lib.hid hI1
    clear hw1 hI1 c0 c1
    have c0 : w1.cell? ⟨rb, 0, none⟩ = some (.string s) := HI1.out.rd.cell 0
    have c1 : w1.cell? ⟨rb, 1, none⟩ = some (.int .i64 p) := HI1.out.rd.cell 1
    go_still_tail 9, (by kernel_rfl)
    change wpList _ _ _ _ _ w1.drew
    go_wp2_with fail
    refine Calls.mono (HSG.out _) ?_
    rintro r w2 ⟨rfl, hb2⟩
    have hI2 : WInv s rb w p w2 := HI1.out.below (show Below w1.heap.size w1 w2 from ((Below.refl _ _).drew).trans hb2)
    have hem : bl.toList.isEmpty = true := by rw [hbt, he]; rfl
    clear hbs hbt he
    go_wp2_with fail
    exact ⟨rfl, QuoPost.bad rfl rfl hI2.on⟩
  · rw [if_neg he]
    go_enter Tryz.func31, Tryz.ntmps31
    go_wp2_with fail
    go_quiet (fail)
    go_wp2_with (first | (go_at_call 59; refine (word_digit _ _).mono ?_; rintro e w' ⟨rfl, rfl⟩) | (go_at_call 61; refine (word_inName _ _).mono ?_; rintro e w' ⟨rfl, rfl⟩))
    generalize hw1 : (w.alloc _).drewN _ = w1
    have hI1 : WInv s rb w p w1 := by rw [← hw1]; exact HW0.out.drewN _
    have HI1 := Lib.hid hI1
    clear hw1 hI1 c0 c1
    have c0 : w1.cell? ⟨rb, 0, none⟩ = some (.string s) := HI1.out.rd.cell 0
    have c1 : w1.cell? ⟨rb, 1, none⟩ = some (.int .i64 p) := HI1.out.rd.cell 1
    go_still_tail 9, (by kernel_rfl)
    change wpList _ _ _ _ _ w1.drew
    go_wp2_with fail
    refine Calls.mono (HSG.out _) ?_
    rintro r w2 ⟨rfl, hb2⟩
    have hI2 : WInv s rb w p w2 := HI1.out.below (show Below w1.heap.size w1 w2 from ((Below.refl _ _).drew).trans hb2)
    have HI2 := Lib.hid hI2
    have hem : bl.toList.isEmpty = false := by rw [hbt]; cases L with | nil => exact absurd rfl he | cons => rfl
    have HL := Lib.hid hbs
    have hble : (bl.size : Int) + p ≤ 140737488351232 := by omega
    clear hbs hbt he hI2 c0 c1 hb2
    have c0 : w2.cell? ⟨rb, 0, none⟩ = some (.string s) := HI2.out.rd.cell 0
    have c1 : w2.cell? ⟨rb, 1, none⟩ = some (.int .i64 p) := HI2.out.rd.cell 1
    have z1 : w2.frozen? ⟨rb, 1, none⟩ = false := HI2.out.rd.frozen 1
    have hlt2 := HI2.out.rd.lt
    have k0 := HI2.out.tk.cell
    have f0 := HI2.out.tk.frozen
    have hlt0 := HI2.out.tk.lt
    have hn1 : ¬ w.heap.size = rb := by omega
    have hn2 : ¬ rb = w.heap.size := by omega
    go_wp2_with fail
    have hst : WInv s rb w (p + L.length) (w2.setCell ⟨rb, 1, none⟩ (.int .i64 ((p : Int) + (bl.size : Int)))) := by
      have := HI2.out.step hrb (p + L.length)
      rwa [show ((p + L.length : Nat) : Int) = (p : Int) + (bl.size : Int) from by rw [HL.out]; omega] at this
    refine bodyPost_ret (v := .agg #[.int .i64 5, .string bl, .int .i64 p]) (by simp [results, Tryz.results31, go_sem, k0]) rfl ?_
    have hdn := hst.done hrb (.int .i64 5) (.string bl) (.int .i64 p)
    exact QuoPost.ok rfl (by rw [HBL.out]) hdn.1 hdn.2

theorem word_word (s : ByteArray) (p rb : Nat) (w : World) (hs : s.size ≤ 140737488351232) (hi : p < s.size) (hb : Blk w rb 74 (rdS s p)) :
    Calls Tryz.prog 31 #[.pointer (some ⟨rb, 0, none⟩)] w (QuoPost s p rb w (wordP (s.toList.drop p))) := by
  by_cases hd : digitI (s[p].toNat : Int) = true
  · exact word_word_num s p rb w hs hi hb hd
  · have hd : digitI (s[p].toNat : Int) = false := by simpa using hd
    by_cases hl : letterI (s[p].toNat : Int) = true
    · exact word_word_name s p rb w hs hi hb hd hl
    · have hl : letterI (s[p].toNat : Int) = false := by simpa using hl
      by_cases h34 : s[p] = 34
      · exact word_word_quo s p rb w hs hi hb hd hl h34
      · by_cases h63 : s[p] = 63
        · exact word_word_slot s p rb w hs hi hb hd hl h34 h63
        · exact word_word_sign s p rb w hs hi hb hd hl h34 h63
end Go.Proofs.YtbommoefpekalaaGreatDoor
