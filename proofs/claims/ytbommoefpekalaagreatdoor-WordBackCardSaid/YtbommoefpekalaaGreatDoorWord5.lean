/-
  THE WALKS: package word: word.
-/
import Derived.Test.YtbommoefpekalaaGreatDoorWord3
import Derived.Test.YtbommoefpekalaaGreatDoorWord4
namespace Go.Proofs.YtbommoefpekalaaGreatDoor
open Go.RowKit

theorem runL_span (p : Int → Bool) (s : ByteArray) (i : Nat) : (s.extract i (runL p s i)).toList = (s.toList.drop i).takeWhile fun c => p (c.toNat : Int) := by
  have h := List.prefix_iff_eq_take.1 (List.takeWhile_prefix (fun c : UInt8 => p (c.toNat : Int)) (l := s.toList.drop i))
  rw [ByteArray.toList_eq, Lib.extract_data, ← ByteArray.toList_eq]
  unfold runL
  rw [show ∀ n, i + n - i = n from fun n => by omega]
  exact h.symm
theorem bs_eq {x : ByteArray} {l : List UInt8} (h : x.toList = l) : x = bsOf l := by
  subst h
  rw [ByteArray.toList_eq]; rfl
theorem span_bs (p : Int → Bool) (s : ByteArray) (i : Nat) : s.extract i (runL p s i) = bsOf ((s.toList.drop i).takeWhile fun c => p (c.toNat : Int)) := bs_eq (runL_span p s i)
theorem wordP_num {c : UInt8} {r : List UInt8} (h : digitI (c.toNat : Int) = true) : wordP (c :: r) = numP (c :: r) := by
  rw [wordP, if_pos (show digB c = true from h)]
theorem wordP_name {c : UInt8} {r : List UInt8} (h1 : digitI (c.toNat : Int) = false) (h2 : letterI (c.toNat : Int) = true) : wordP (c :: r) = namedP 1 (c :: r) 0 := by
  rw [wordP, if_neg (by unfold digB; rw [h1]; decide), if_pos (show letB c = true from h2)]
theorem wordP_quo {c : UInt8} {r : List UInt8} (h1 : digitI (c.toNat : Int) = false) (h2 : letterI (c.toNat : Int) = false) (h3 : c = 34) : wordP (c :: r) = quoP r [] 1 := by
  rw [wordP, if_neg (by unfold digB; rw [h1]; decide), if_neg (by unfold letB; rw [h2]; decide), if_pos h3]
theorem wordP_slot {c : UInt8} {r : List UInt8} (h1 : digitI (c.toNat : Int) = false) (h2 : letterI (c.toNat : Int) = false) (h3 : ¬ c = 34) (h4 : c = 63) : wordP (c :: r) = namedP 4 r 1 := by
  rw [wordP, if_neg (by unfold digB; rw [h1]; decide), if_neg (by unfold letB; rw [h2]; decide), if_neg h3, if_pos h4]
theorem wordP_sign {c : UInt8} {r : List UInt8} (h1 : digitI (c.toNat : Int) = false) (h2 : letterI (c.toNat : Int) = false) (h3 : ¬ c = 34) (h4 : ¬ c = 63) : wordP (c :: r) = if signP (c :: r) = [] then .bad 1 else .ok 5 (signP (c :: r)) (signP (c :: r)).length := by
  rw [wordP, if_neg (by unfold digB; rw [h1]; decide), if_neg (by unfold letB; rw [h2]; decide), if_neg h3, if_neg h4]
/-- The reader at p; the result's cell. -/
structure WInv (s : ByteArray) (rb : Nat) (w : World) (p : Nat) (W : World) : Prop where
  rd : Blk W rb 74 (rdS s p)
  tk : Blk W w.heap.size 28 #[.int .i64 0, .string ⟨#[]⟩, .int .i64 0]
  on : Only w.heap.size rb w W
theorem WInv.drewN {s : ByteArray} {rb : Nat} {w : World} {p : Nat} {W : World} (h : WInv s rb w p W) (n : Nat) : WInv s rb w p (W.drewN n) := ⟨h.rd, h.tk, h.on.drewN n⟩
theorem WInv.step {s : ByteArray} {rb : Nat} {w : World} {p : Nat} {W : World} (h : WInv s rb w p W) (hrb : rb < w.heap.size) (j : Nat) : WInv s rb w j (W.setCell ⟨rb, 1, none⟩ (.int .i64 (j : Int))) :=
  ⟨rdS_step h.rd, h.tk.far (show w.heap.size ≠ rb by omega) _, h.on.setCell (.inl rfl) _⟩
theorem WInv.only {s : ByteArray} {rb : Nat} {w : World} {p q : Nat} {W W' : World} (h : WInv s rb w p W) (hrb : rb < w.heap.size) (hr : Blk W' rb 74 (rdS s q)) (ho : Only W.heap.size rb W W') : WInv s rb w q W' :=
  ⟨hr, h.tk.only ho h.tk.lt (by omega), h.on.trans (ho.mono (Nat.le_of_lt h.tk.lt))⟩
theorem WInv.below {s : ByteArray} {rb : Nat} {w : World} {p : Nat} {W W' : World} (h : WInv s rb w p W) (hb : Below W.heap.size W W') : WInv s rb w p W' :=
  ⟨h.rd.below hb h.rd.lt, h.tk.below hb h.tk.lt, h.on.trans (Only.of_below hb (Nat.le_of_lt h.tk.lt))⟩
theorem WInv.new {s : ByteArray} {rb : Nat} {w : World} {p : Nat} (hb : Blk w rb 74 (rdS s p)) : WInv s rb w p (w.alloc (.cells #[.int .i64 0, .string ⟨#[]⟩, .int .i64 0] 28)) :=
  ⟨hb.alloc _, Blk.new w _ _, (Only.refl _ _ _).alloc (Nat.le_refl _) _⟩
theorem WInv.done {s : ByteArray} {rb : Nat} {w : World} {p : Nat} {W : World} (h : WInv s rb w p W) (hrb : rb < w.heap.size) (a b c : Value) :
    Blk (((W.setCell ⟨w.heap.size, 0, none⟩ a).setCell ⟨w.heap.size, 1, none⟩ b).setCell ⟨w.heap.size, 2, none⟩ c) rb 74 (rdS s p) ∧ Only w.heap.size rb w (((W.setCell ⟨w.heap.size, 0, none⟩ a).setCell ⟨w.heap.size, 1, none⟩ b).setCell ⟨w.heap.size, 2, none⟩ c) :=
  have hne : rb ≠ w.heap.size := by omega
  ⟨((h.rd.far hne _).far hne _).far hne _, by have := h.on; (repeat (first | assumption | exact Only.refl _ _ _ | apply Only.drew | apply Only.drewN | (refine Only.alloc ?_ (by first | exact Nat.le_refl _ | omega | (simp; done) | (simp; omega)) _) | (refine Only.setCell ?_ (by first | exact .inl rfl | exact .inr (Nat.le_refl _) | exact .inr (by first | omega | (simp; omega))) _)))⟩

set_option maxRecDepth 100000 in
set_option maxHeartbeats 3200000 in
theorem word_word_num (s : ByteArray) (p rb : Nat) (w : World) (hs : s.size ≤ 140737488351232) (hi : p < s.size) (hb : Blk w rb 74 (rdS s p)) (hd : digitI (s[p].toNat : Int) = true) :
    Calls Tryz.prog 31 #[.pointer (some ⟨rb, 0, none⟩)] w (QuoPost s p rb w (wordP (s.toList.drop p))) := by
  have hrb := hb.lt
  obtain ⟨q, hq⟩ : ∃ q, wordP (s.toList.drop p) = q := ⟨_, rfl⟩
  rw [hq]
  rw [toList_drop s p hi, wordP_num hd, ← toList_drop s p hi] at hq
  have hsp := runL_span digitI s p
  have hW0 := WInv.new hb
  have HWH := Lib.hid (fun W (hW : Blk W rb 74 (rdS s p)) => word_while 59 digitI pb_digit s p rb W hs (Nat.le_of_lt hi) hW)
  have hrl : runL digitI s p = p + ((s.toList.drop p).takeWhile digB).length := rfl
  have hrle := runL_le digitI s (Nat.le_of_lt hi)
  have hxs : (s.extract p (runL digitI s p)).size ≤ 140737488351232 := by rw [ByteArray.size_extract]; omega
  generalize s.extract p (runL digitI s p) = x at hsp HWH hxs
  generalize runL digitI s p = j at hrl hrle HWH
  have hx : x.data.toList = (s.toList.drop p).takeWhile digB := by rw [← ByteArray.toList_eq]; exact hsp
  unfold numP at hq
  have HTL := Lib.hid (fun W => Tryz.strings_TrimLeft_one x 48 (by decide) W)
  rw [hx] at HTL
  have htl : ∀ l, Lib.trimLeftB l 48 = l.dropWhile (· == 48) := fun _ => rfl
  rw [htl] at HTL
  generalize hL : ((s.toList.drop p).takeWhile digB).dropWhile (· == 48) = L at hq HTL
  have HQ := Lib.hid hq
  have HJ := Lib.hid hrl
  have hLl : L.length ≤ 140737488351232 := by
    rw [← hL]
    have h1 := (List.dropWhile_sublist (fun x : UInt8 => x == 48) (l := (s.toList.drop p).takeWhile digB)).length_le
    omega
  obtain ⟨bl, hbl⟩ : ∃ bl : ByteArray, bl = bsOf L := ⟨_, rfl⟩
  rw [show (⟨L.toArray⟩ : ByteArray) = bl from hbl.symm] at HTL
  have hbs : bl.size = L.length := by rw [hbl]; rfl
  have hbt : bl.toList = L := by rw [hbl, ByteArray.toList_eq]; rfl
  have HBL := Lib.hid hbl
  have c0 : (w.alloc (.cells #[.int .i64 0, .string ⟨#[]⟩, .int .i64 0] 28)).cell? ⟨rb, 0, none⟩ = some (.string s) := hW0.rd.cell 0
  have c1 : (w.alloc (.cells #[.int .i64 0, .string ⟨#[]⟩, .int .i64 0] 28)).cell? ⟨rb, 1, none⟩ = some (.int .i64 p) := hW0.rd.cell 1
  have HW0 := Lib.hid hW0
  clear hq hrl hL hsp hx htl hW0 hb hbl
  by_cases h19 : 19 < L.length
  · have HQ2 : Hid (q = .bad 4) := by show _ = _; rw [← HQ.out, if_pos h19]
    have h19' : 19 < (bl.size : Int) := by omega
    clear HQ h19 hbs hbt
    go_enter Tryz.func31, Tryz.ntmps31
    go_wp2_with fail
    go_quiet (fail)
    go_wp2_with (go_at_call 59; refine (word_digit _ _).mono ?_; rintro e w' ⟨rfl, rfl⟩)
    generalize hw1 : (w.alloc _).drewN _ = w1
    have hI1 : WInv s rb w p w1 := by rw [← hw1]; exact HW0.out.drewN _
    have HI1 := Lib.hid hI1
    clear hw1 hI1 c0 c1
    refine Calls.mono (HWH.out _ HI1.out.rd) ?_
    rintro r w2 ⟨rfl, hb2, ho2⟩
    have HI2 := Lib.hid (HI1.out.only hrb hb2 ho2)
    clear hb2 ho2
    go_wp2_with fail
    refine Calls.mono (HTL.out _) ?_
    rintro r w3 ⟨rfl, rfl⟩
    go_wp2_with fail
    exact ⟨rfl, QuoPost.bad HQ2.out rfl HI2.out.on⟩
  · have HQ2 : Hid (q = .ok 2 (if L = [] then [48] else L) ((s.toList.drop p).takeWhile digB).length) := by show _ = _; rw [← HQ.out, if_neg h19]
    have h19' : ¬ 19 < (bl.size : Int) := by omega
    clear HQ h19
    by_cases he : L = []
    · have hem : bl.toList.isEmpty = true := by rw [hbt, he]; rfl
      rw [if_pos he] at HQ2
      clear hbs hbt he
      go_enter Tryz.func31, Tryz.ntmps31
      go_wp2_with fail
      go_quiet (fail)
      go_wp2_with (go_at_call 59; refine (word_digit _ _).mono ?_; rintro e w' ⟨rfl, rfl⟩)
      generalize hw1 : (w.alloc _).drewN _ = w1
      have hI1 : WInv s rb w p w1 := by rw [← hw1]; exact HW0.out.drewN _
      have HI1 := Lib.hid hI1
      clear hw1 hI1 c0 c1
      refine Calls.mono (HWH.out _ HI1.out.rd) ?_
      rintro r w2 ⟨rfl, hb2, ho2⟩
      have HI2 := Lib.hid (HI1.out.only hrb hb2 ho2)
      clear hb2 ho2
      go_wp2_with fail
      refine Calls.mono (HTL.out _) ?_
      rintro r w3 ⟨rfl, rfl⟩
      have k0 := HI2.out.tk.cell
      have f0 := HI2.out.tk.frozen
      have hlt0 := HI2.out.tk.lt
      go_wp2_with fail
      refine bodyPost_ret (v := .agg #[.int .i64 2, .string ⟨#[48]⟩, .int .i64 p]) (by simp [results, Tryz.results31, go_sem, k0]) rfl ?_
      have hdn := HI2.out.done hrb (.int .i64 2) (.string ⟨#[48]⟩) (.int .i64 p)
      exact QuoPost.ok HQ2.out rfl (by rw [← HJ.out]; exact hdn.1) hdn.2
    · have hem : bl.toList.isEmpty = false := by rw [hbt]; cases L with | nil => exact absurd rfl he | cons => rfl
      rw [if_neg he] at HQ2
      clear hbs hbt he
      go_enter Tryz.func31, Tryz.ntmps31
      go_wp2_with fail
      go_quiet (fail)
      go_wp2_with (go_at_call 59; refine (word_digit _ _).mono ?_; rintro e w' ⟨rfl, rfl⟩)
      generalize hw1 : (w.alloc _).drewN _ = w1
      have hI1 : WInv s rb w p w1 := by rw [← hw1]; exact HW0.out.drewN _
      have HI1 := Lib.hid hI1
      clear hw1 hI1 c0 c1
      refine Calls.mono (HWH.out _ HI1.out.rd) ?_
      rintro r w2 ⟨rfl, hb2, ho2⟩
      have HI2 := Lib.hid (HI1.out.only hrb hb2 ho2)
      clear hb2 ho2
      go_wp2_with fail
      refine Calls.mono (HTL.out _) ?_
      rintro r w3 ⟨rfl, rfl⟩
      have k0 := HI2.out.tk.cell
      have f0 := HI2.out.tk.frozen
      have hlt0 := HI2.out.tk.lt
      go_wp2_with fail
      refine bodyPost_ret (v := .agg #[.int .i64 2, .string bl, .int .i64 p]) (by simp [results, Tryz.results31, go_sem, k0]) rfl ?_
      have hdn := HI2.out.done hrb (.int .i64 2) (.string bl) (.int .i64 p)
      exact QuoPost.ok HQ2.out (by rw [HBL.out]) (by rw [← HJ.out]; exact hdn.1) hdn.2

set_option maxRecDepth 100000 in
set_option maxHeartbeats 3200000 in
theorem word_word_name (s : ByteArray) (p rb : Nat) (w : World) (hs : s.size ≤ 140737488351232) (hi : p < s.size) (hb : Blk w rb 74 (rdS s p)) (hd : digitI (s[p].toNat : Int) = false) (hl : letterI (s[p].toNat : Int) = true) :
    Calls Tryz.prog 31 #[.pointer (some ⟨rb, 0, none⟩)] w (QuoPost s p rb w (wordP (s.toList.drop p))) := by
  have hrb := hb.lt
  have hni : nameI (s[p].toNat : Int) = true := by unfold nameI; rw [hl]; rfl
  obtain ⟨q, hq⟩ : ∃ q, wordP (s.toList.drop p) = q := ⟨_, rfl⟩
  rw [hq]
  rw [toList_drop s p hi, wordP_name hd hl, ← toList_drop s p hi] at hq
  have hrl : runL nameI s p = p + ((s.toList.drop p).takeWhile nameB).length := rfl
  have hsp : (s.extract p (runL nameI s p)).toList = (s.toList.drop p).takeWhile nameB := runL_span nameI s p
  have hbq : s.extract p (runL nameI s p) = bsOf ((s.toList.drop p).takeWhile nameB) := span_bs nameI s p
  unfold namedP at hq
  have hW0 := WInv.new hb
  have c0 : (w.alloc (.cells #[.int .i64 0, .string ⟨#[]⟩, .int .i64 0] 28)).cell? ⟨rb, 0, none⟩ = some (.string s) := hW0.rd.cell 0
  have c1 : (w.alloc (.cells #[.int .i64 0, .string ⟨#[]⟩, .int .i64 0] 28)).cell? ⟨rb, 1, none⟩ = some (.int .i64 p) := hW0.rd.cell 1
  have HW0 := Lib.hid hW0
  have hne := nameErr_cases ((s.toList.drop p).takeWhile nameB)
  by_cases h0 : nameErr ((s.toList.drop p).takeWhile nameB) = 0
  · rw [if_pos h0] at hq
    have HQ := Lib.hid hq
    have HN := Lib.hid (fun W (hW : Blk W rb 74 (rdS s p)) => word_named_ok s 1 p p rb W hs (Nat.le_of_lt hi) hW (by rw [hsp]; exact h0))
    rw [hbq] at HN
    rw [hrl] at HN
    clear hq hsp hbq hrl h0 hne hW0 hb
    generalize (s.toList.drop p).takeWhile nameB = L at HQ HN
    go_enter Tryz.func31, Tryz.ntmps31
    go_wp2_with fail
    go_quiet (fail)
    go_wp2_with (first | (go_at_call 59; refine (word_digit _ _).mono ?_; rintro e w' ⟨rfl, rfl⟩) | (go_at_call 61; refine (word_inName _ _).mono ?_; rintro e w' ⟨rfl, rfl⟩))
    generalize hw1 : (w.alloc _).drewN _ = w1
    have hI1 : WInv s rb w p w1 := by rw [← hw1]; exact HW0.out.drewN _
    have HI1 := Lib.hid hI1
    clear hw1 hI1 c0 c1
    refine Calls.mono (HN.out _ HI1.out.rd) ?_
    rintro r w2 ⟨rfl, hb2, ho2⟩
    have HI2 := Lib.hid (HI1.out.only hrb hb2 ho2)
    clear hb2 ho2
    have k0 := HI2.out.tk.cell
    have f0 := HI2.out.tk.frozen
    have hlt0 := HI2.out.tk.lt
    go_wp2_with fail
    refine bodyPost_ret (v := .agg #[.int .i64 1, .string (bsOf L), .int .i64 p]) (by simp [results, Tryz.results31, go_sem, k0]) rfl ?_
    have hdn := HI2.out.done hrb (.int .i64 1) (.string (bsOf L)) (.int .i64 p)
    exact QuoPost.ok HQ.out.symm rfl (by exact hdn.1) hdn.2
  · rw [if_neg h0] at hq
    have HQ := Lib.hid hq
    have HN := Lib.hid (fun W (hW : Blk W rb 74 (rdS s p)) => word_named_bad s 1 _ p p rb W hs (Nat.le_of_lt hi) hW rfl (by rw [hsp]; exact hne.resolve_left h0))
    rw [hsp] at HN
    clear hq hsp hbq hrl h0 hne hW0 hb
    generalize nameErr ((s.toList.drop p).takeWhile nameB) = k at HQ HN
    go_enter Tryz.func31, Tryz.ntmps31
    go_wp2_with fail
    go_quiet (fail)
    go_wp2_with (first | (go_at_call 59; refine (word_digit _ _).mono ?_; rintro e w' ⟨rfl, rfl⟩) | (go_at_call 61; refine (word_inName _ _).mono ?_; rintro e w' ⟨rfl, rfl⟩))
    generalize hw1 : (w.alloc _).drewN _ = w1
    have hI1 : WInv s rb w p w1 := by rw [← hw1]; exact HW0.out.drewN _
    have HI1 := Lib.hid hI1
    clear hw1 hI1 c0 c1
    refine Calls.mono (HN.out _ HI1.out.rd) ?_
    rintro r w2 ⟨rfl, ho2⟩
    go_wp2_with fail
    exact ⟨rfl, QuoPost.bad HQ.out.symm rfl (HI1.out.on.trans (ho2.mono (Nat.le_of_lt HI1.out.tk.lt)))⟩
end Go.Proofs.YtbommoefpekalaaGreatDoor
