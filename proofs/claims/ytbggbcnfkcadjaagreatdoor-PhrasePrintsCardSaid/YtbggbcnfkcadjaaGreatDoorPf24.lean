/-
  THE WALKS of the reference: Fields.
  PLAIN: where an expression ends, without fuel.
  THE WALKS of the reference: numbers and texts compared.
-/
import Derived.Test.YtbggbcnfkcadjaaGreatDoorPf23
import Derived.Test.YtbggbcnfkcadjaaGreatDoorPf01
import Derived.Test.YtbggbcnfkcadjaaGreatDoorPf08
namespace Go.Proofs.YtbggbcnfkcadjaaGreatDoor
open Go.RowKit
theorem one_val {x : Nd} (h : x.op = 1 ∨ x.op = 2 ∨ x.op = 3 ∨ x.op = 4) : (valErr [x] == 0) = shapedV x := by
 have h5 : ¬ x.op = 5 := by omega
 have h6 : ¬ x.op = 6 := by omega
 have h7 : ¬ x.op = 7 := by omega
 cases hs : shapedV x <;> simp [valErr, vGo, hs, h5, h6, h7]
theorem shapedT_low {x : Nd} (h : 1 ≤ x.op ∧ x.op ≤ 7) : shapedT x = shapedV x := by
 by_cases h4 : x.op = 1 ∨ x.op = 2 ∨ x.op = 3 ∨ x.op = 4
 · unfold shapedT; rw [if_pos h4, one_val h4]
 · by_cases h56 : x.op = 5 ∨ x.op = 6
   · unfold shapedT; rw [if_neg h4, if_pos h56]
     unfold shapedV; rw [if_neg (by omega), if_neg (by omega), if_neg (by omega), if_neg (by omega), if_pos h56]
   · have h7 : x.op = 7 := by omega
     unfold shapedT shapedV
     simp [h7]
theorem shapedT_8 {x : Nd} (h : x.op = 8) : shapedT x = (x.n == 0 && x.t.toList.isEmpty && variableB x.s.toList) := by
 unfold shapedT; rw [if_neg (by omega), if_neg (by omega), if_pos h]
theorem shapedT_else {x : Nd} (hl : ¬ (1 ≤ x.op ∧ x.op ≤ 7)) (h8 : ¬ x.op = 8) (h1 : ¬ x.op = 21) (h2 : ¬ x.op = 22) (h3 : ¬ x.op = 23) (h4 : ¬ x.op = 24) : shapedT x = (decide (0 ≤ ndParts x) && x.n == 0 && x.s.toList.isEmpty && x.t.toList.isEmpty) := by
 unfold shapedT; rw [if_neg (by omega), if_neg (by omega), if_neg (by omega), if_neg (by omega), if_neg (by omega)]
 have : (decide (0 < ndParts x)) = decide (0 ≤ ndParts x) := by
   rw [Bool.eq_iff_iff]
   simp only [decide_eq_true_eq]
   unfold ndParts
   rw [if_neg (by omega), if_neg (by omega)]
   repeat' split
   all_goals omega
 rw [this]
set_option maxRecDepth 100000 in
set_option maxHeartbeats 1600000 in
theorem r2_Fields_low (op n : Int) (s t : ByteArray) (w : World) (hs : s.size ≤ 140737488351232) (ht : t.size ≤ 140737488351232) (h1 : 1 ≤ op) (h7 : op ≤ 7) :
   Calls Tryz.prog 85 #[.agg #[.int .i64 op, .int .i64 n, .string s, .string t]] w fun e w' => e = .returned (.bool (shapedT ⟨op, n, s, t⟩)) ∧ Below w.heap.size w w' := by
 rw [shapedT_low (x := ⟨op, n, s, t⟩) ⟨h1, h7⟩]
 go_enter Tryz.func85, Tryz.ntmps85
 go_wp2_with (go_at_call 119; refine (r1_ValueNode _ _ _ _ _ hs ht).mono ?_; rintro e w1 ⟨rfl, hb⟩; obtain ⟨hc, hf⟩ := bcell hb)
 go_ret
 exact ⟨rfl, ((Below.refl _ _).alloc (Nat.le_refl _) _).trans (hb.mono (by simp))⟩
set_option maxRecDepth 100000 in
set_option maxHeartbeats 1600000 in
theorem r2_Fields_else (op n : Int) (s t : ByteArray) (w : World) (hs : s.size ≤ 140737488351232) (hl : ¬ (1 ≤ op ∧ op ≤ 7)) (h8 : ¬ op = 8) :
   Calls Tryz.prog 85 #[.agg #[.int .i64 op, .int .i64 n, .string s, .string t]] w fun e w' => e = .returned (.bool (shapedT ⟨op, n, s, t⟩)) ∧ Below w.heap.size w w' := by
 have hcase : op = 21 ∨ op = 22 ∨ op = 24 ∨ op = 23 ∨ ((op == 21) = false ∧ (op == 22) = false ∧ (op == 24) = false ∧ (op == 23) = false) := by
   simp only [beq_eq_false_iff_ne]; omega
 have e8 : (op == 8) = false := by simp [h8]
 obtain ⟨p, hp⟩ : ∃ p, ndParts ⟨op, n, s, t⟩ = p := ⟨_, rfl⟩
 have HP : ∀ W, Calls Tryz.prog 86 #[.agg #[.int .i64 op, .int .i64 n, .string s, .string t]] W fun e w' => e = .returned (.int .i64 p) ∧ Below W.heap.size W w' := fun W => by
   rw [← hp]; exact r2_Parts op n s t W
 have hlo : op < 1 ∨ 7 < op := by omega
 rcases hcase with rfl | rfl | rfl | rfl | ⟨e1, e2, e3, e4⟩
 case inr.inr.inr.inr =>
   rw [shapedT_else (x := ⟨op, n, s, t⟩) hl h8 (by simpa using e1) (by simpa using e2) (by simpa using e4) (by simpa using e3), hp]
   by_cases hpn : p < 0
   · clear hp h8 hl
     rcases hlo with hlo | hlo
     all_goals
       go_enter Tryz.func85, Tryz.ntmps85
       go_wp2_with (go_at_call 86; refine (HP _).mono ?_; rintro e w1 ⟨rfl, hb⟩; obtain ⟨hc, hf⟩ := bcell hb)
       go_ret
       refine ⟨ret_bool ?_, ((Below.refl _ _).alloc (Nat.le_refl _) _).trans (hb.mono (by simp))⟩
       have : ¬ 0 ≤ p := by omega
       simp [this]
   · have hpp : 0 ≤ p := by omega
     clear hp h8 hl
     rcases hlo with hlo | hlo <;> cases hte : t.toList.isEmpty
     all_goals
       go_enter Tryz.func85, Tryz.ntmps85
       go_wp2_with (go_at_call 86; refine (HP _).mono ?_; rintro e w1 ⟨rfl, hb⟩; obtain ⟨hc, hf⟩ := bcell hb)
     all_goals
       go_ret
       refine ⟨ret_bool ?_, ((Below.refl _ _).alloc (Nat.le_refl _) _).trans (hb.mono (by simp))⟩
       try simp only [beq_eq_false_iff_ne] at *
       try simp only [bne_iff_ne] at *
       try simp only [bne_eq_false_iff_eq] at *
       simp [*]
 all_goals
   have hp1 : p = 1 := by rw [← hp]; rfl
   subst hp1
   clear hp h8 hl hlo e8
 all_goals
   cases hte : t.toList.isEmpty
 all_goals
   go_enter Tryz.func85, Tryz.ntmps85
   go_wp2_with (first | (go_at_call 86; refine (HP _).mono ?_; rintro e w1 ⟨rfl, hb⟩; obtain ⟨hc, hf⟩ := bcell hb) | (go_at_call 36; refine (r1_NameFault _ _ hs).mono ?_; rintro e w' ⟨rfl, rfl⟩) | (go_at_call 35; refine (r1_TextFault _ _ hs).mono ?_; rintro e w' ⟨rfl, rfl⟩))
 all_goals
   go_ret
   refine ⟨ret_bool ?_, ((Below.refl _ _).alloc (Nat.le_refl _) _).trans (hb.mono (by simp))⟩
   try simp only [beq_eq_false_iff_ne] at *
   try simp only [bne_iff_ne] at *
   try simp only [bne_eq_false_iff_eq] at *
   simp [shapedT, *]
set_option maxRecDepth 100000 in
set_option maxHeartbeats 1600000 in
theorem r2_Fields_8 (n : Int) (s t : ByteArray) (w : World) (hs : s.size ≤ 140737488351232) :
   Calls Tryz.prog 85 #[.agg #[.int .i64 8, .int .i64 n, .string s, .string t]] w fun e w' => e = .returned (.bool (shapedT ⟨8, n, s, t⟩)) ∧ Below w.heap.size w w' := by
 rw [shapedT_8 (x := ⟨8, n, s, t⟩) rfl]
 have HP : ∀ W, Calls Tryz.prog 86 #[.agg #[.int .i64 8, .int .i64 n, .string s, .string t]] W fun e w' => e = .returned (.int .i64 0) ∧ Below W.heap.size W w' := fun W => r2_Parts 8 n s t W
 by_cases h0 : 0 < s.size
 · have h0' : s.toList.isEmpty = false := toList_ne h0
   obtain ⟨l, hl0⟩ := toList_cons h0
   have HL := Lib.hid hl0
   have hx := extract_one s
   have HX : Hid ((s.extract 1 s.size).toList = l) := by rw [hl0] at hx; exact hx
   have hxs := extract_size s
   have HXS := Lib.hid hxs
   clear hl0 hx hxs
   by_cases hq : s[0] = 63
   · have hqi : ((s[0].toNat : Int) == 63) = true := by rw [hq]; rfl
     have HV : Hid (variableB s.toList = (nameErr l == 0)) := by show _ = _; rw [HL.out]; simp [variableB, hq]
     clear hq
     cases hte : t.toList.isEmpty
     all_goals
      go_enter Tryz.func85, Tryz.ntmps85
      go_wp2_with (first | (go_at_call 86; refine (HP _).mono ?_; rintro e w1 ⟨rfl, hb⟩; obtain ⟨hc, hf⟩ := bcell hb) | (go_at_call 36; refine (r1_NameFault _ _ (by have := HXS.out; omega)).mono ?_; rintro e w' ⟨rfl, rfl⟩))
     all_goals
       go_ret
       refine ⟨ret_bool ?_, ((Below.refl _ _).alloc (Nat.le_refl _) _).trans (hb.mono (by simp))⟩
       try simp only [beq_eq_false_iff_ne] at *
       try simp only [bne_iff_ne] at *
       try simp only [bne_eq_false_iff_eq] at *
       have hv := HV.out
       have hx := HX.out
       simp [*]
   · have hqi : ((s[0].toNat : Int) == 63) = false := by
       rw [beq_eq_false_iff_ne]; intro hc; apply hq; apply UInt8.toNat_inj.1; simp; omega
     have HV : Hid (variableB s.toList = (nameErr s.toList == 0 && !reserved s.toList)) := by show _ = _; rw [HL.out]; simp [variableB, hq]
     clear hq
     cases hte : t.toList.isEmpty
     all_goals
      go_enter Tryz.func85, Tryz.ntmps85
      go_wp2_with (first | (go_at_call 86; refine (HP _).mono ?_; rintro e w1 ⟨rfl, hb⟩; obtain ⟨hc, hf⟩ := bcell hb) | (go_at_call 36; refine (r1_NameFault _ _ hs).mono ?_; rintro e w' ⟨rfl, rfl⟩) | (go_at_call 120; refine (r2_Reserved _ _).mono ?_; rintro e w' ⟨rfl, rfl⟩))
     all_goals
       go_ret
       refine ⟨ret_bool ?_, ((Below.refl _ _).alloc (Nat.le_refl _) _).trans (hb.mono (by simp))⟩
       try simp only [beq_eq_false_iff_ne] at *
       try simp only [bne_iff_ne] at *
       try simp only [bne_eq_false_iff_eq] at *
       have hv := HV.out
       simp [*]
 · have h0' := toList_nil h0
   have h0'' : s.toList.isEmpty = true := by rw [h0']; rfl
   have HL := Lib.hid h0'
   clear h0'
   have HV : Hid (variableB s.toList = (nameErr s.toList == 0 && !reserved s.toList)) := by show _ = _; rw [HL.out]; rfl
   cases hte : t.toList.isEmpty
   all_goals
    go_enter Tryz.func85, Tryz.ntmps85
    go_wp2_with (first | (go_at_call 86; refine (HP _).mono ?_; rintro e w1 ⟨rfl, hb⟩; obtain ⟨hc, hf⟩ := bcell hb) | (go_at_call 36; refine (r1_NameFault _ _ hs).mono ?_; rintro e w' ⟨rfl, rfl⟩) | (go_at_call 120; refine (r2_Reserved _ _).mono ?_; rintro e w' ⟨rfl, rfl⟩))
   all_goals
     go_ret
     refine ⟨ret_bool ?_, ((Below.refl _ _).alloc (Nat.le_refl _) _).trans (hb.mono (by simp))⟩
     try simp only [beq_eq_false_iff_ne] at *
     try simp only [bne_iff_ne] at *
     try simp only [bne_eq_false_iff_eq] at *
     have hv := HV.out
     simp [*]
theorem r2_Fields (op n : Int) (s t : ByteArray) (w : World) (hs : s.size ≤ 140737488351232) (ht : t.size ≤ 140737488351232) :
   Calls Tryz.prog 85 #[.agg #[.int .i64 op, .int .i64 n, .string s, .string t]] w fun e w' => e = .returned (.bool (shapedT ⟨op, n, s, t⟩)) ∧ Below w.heap.size w w' := by
 by_cases h : 1 ≤ op ∧ op ≤ 7
 · exact r2_Fields_low op n s t w hs ht h.1 h.2
 · by_cases h8 : op = 8
   · subst h8; exact r2_Fields_8 n s t w hs
   · exact r2_Fields_else op n s t w hs h h8
end Go.Proofs.YtbggbcnfkcadjaaGreatDoor
namespace Go.Proofs.YtbggbcnfkcadjaaGreatDoor
open Go.RowKit
def tagN : BTag → Nat
 | .one _ => 0
 | .more _ _ _ => 1
theorem bGo_fuel (e : List Nd) : ∀ (f : Nat) (t : BTag) (i j : Nat), bGo e f t i = some j → bGo e (2 * (j - i) + tagN t) t i = some j := by
 intro f
 induction f with
 | zero =>
   intro t i j h
   cases t with
   | one b => simp [bGo] at h
   | more c r l =>
     have hh := h
     simp only [bGo] at h
     split at h <;> simp at h
     subst h
     rename_i hc
     subst hc
     simp [tagN, bGo]
 | succ f ih =>
   intro t i j h
   have hb := bGo_bound e _ _ _ _ h
   cases t with
   | one b =>
     have hij := hb.2.2 b rfl
     rw [bGo] at h
     obtain ⟨F, hF⟩ : ∃ F, 2 * (j - i) + tagN (.one b) = F + 1 := ⟨2 * (j - i) - 1, by simp [tagN]; omega⟩
     rw [hF, bGo]
     simp only [tagN] at hF
     split at h
     · cases h
     · rename_i n hn
       rw [hn] at *
       split at h
       · cases h
       · rename_i hc
         rw [if_neg hc]
         have h2 := ih _ _ _ h
         simp only [tagN] at h2
         exact bGo_mono_le e (by omega) h2
   | more c r l =>
     cases c with
     | zero => simp only [bGo] at h; injection h with h; subst h; simp [tagN, bGo]
     | succ c =>
       rw [bGo] at h
       simp only [tagN]
       rw [bGo]
       split at h
       · cases h
       · rename_i m hm
         split at h
         · cases h
         · rename_i hc
           rw [if_neg hc]
           split at h
           · cases h
           · rename_i k hk
             obtain ⟨b1, b2, b3⟩ := bGo_bound e _ _ _ _ hk
             obtain ⟨_, b5, _⟩ := bGo_bound e _ _ _ _ h
             have hik := b3 r rfl
             have h1 := ih _ _ _ hk
             have h2 := ih _ _ _ h
             simp only [tagN] at h1 h2
             rw [bGo_mono_le e (show 2 * (k - i) + 0 ≤ 2 * (j - i) by omega) h1]
             exact bGo_mono_le e (by omega) h2
def bR (e : List Nd) (t : BTag) (i : Nat) : Option Nat := bGo e (2 * e.length + 1) t i
theorem bR_of {e : List Nd} {f : Nat} {t : BTag} {i j : Nat} (h : bGo e f t i = some j) (hi : i ≤ e.length) : bR e t i = some j := by
 have hj := (bGo_bound e _ _ _ _ h).1 hi
 refine bGo_mono_le e ?_ (bGo_fuel e _ _ _ _ h)
 cases t <;> simp only [tagN] <;> omega
theorem bR_stable {e : List Nd} {f : Nat} (hf : 2 * e.length + 1 ≤ f) (t : BTag) {i : Nat} (hi : i ≤ e.length) : bGo e f t i = bR e t i := by
 cases h : bGo e f t i with
 | some j => exact (bR_of h hi).symm
 | none =>
   cases h2 : bR e t i with
   | none => rfl
   | some j => rw [bGo_mono_le e hf h2] at h; cases h
theorem bR_one_len (e : List Nd) (b : Bool) {i : Nat} (hi : i ≤ e.length) : bGo e (2 * e.length) (.one b) i = bR e (.one b) i := by
 cases h2 : bR e (.one b) i with
 | none =>
   cases h : bGo e (2 * e.length) (.one b) i with
   | none => rfl
   | some j => rw [bR_of h hi] at h2; cases h2
 | some j =>
   have h3 := (bGo_bound e _ _ _ _ h2).1 hi
   have h4 := bGo_fuel e _ _ _ _ h2
   simp only [tagN] at h4
   exact bGo_mono_le e (by omega) h4
theorem bR_one (e : List Nd) (b : Bool) {i : Nat} {n : Nd} (hn : e[i]? = some n) : bR e (.one b) i = if shapedT n = false ∨ (n.op == 7) ≠ b then none else bR e (.more (ndParts n).toNat (n.op == 6) ⟨#[]⟩) (i + 1) := by
 have hi : i < e.length := (List.getElem?_eq_some_iff.1 hn).1
 rw [← bR_stable (show 2 * e.length + 1 ≤ 2 * e.length + 1 + 1 by omega) (.one b) (by omega)]
 rw [bGo, hn]; rfl
theorem bR_out (e : List Nd) (b : Bool) {i : Nat} (hi : e.length ≤ i) : bR e (.one b) i = none := by
 unfold bR; rw [bGo, List.getElem?_eq_none hi]
theorem bR_zero (e : List Nd) (r : Bool) (l : ByteArray) (i : Nat) : bR e (.more 0 r l) i = some i := by
 unfold bR; rw [bGo]
theorem bR_more (e : List Nd) (c : Nat) (r : Bool) (l : ByteArray) {i : Nat} {m : Nd} (hm : e[i]? = some m) :
   bR e (.more (c + 1) r l) i = if r = true ∧ sLate l m.s = true then none else match bR e (.one r) i with | none => none | some j => bR e (.more c r (if r = true then m.s else l)) j := by
 have hi : i < e.length := (List.getElem?_eq_some_iff.1 hm).1
 rw [← bR_stable (show 2 * e.length + 1 ≤ 2 * e.length + 1 + 1 by omega) (.more (c + 1) r l) (by omega)]
 rw [bGo, hm]; rfl
theorem bR_more_out (e : List Nd) (c : Nat) (r : Bool) (l : ByteArray) {i : Nat} (hi : e.length ≤ i) : bR e (.more (c + 1) r l) i = none := by
 unfold bR; rw [bGo, List.getElem?_eq_none hi]
theorem bR_fld (e : List Nd) {i : Nat} {m : Nd} (hm : e[i]? = some m) (h7 : m.op = 7) (hs : shapedT m = true) : bR e (.one true) i = bR e (.one false) (i + 1) := by
 rw [bR_one e true hm, if_neg (by simp [hs, h7]), show ndParts m = 1 from by simp [ndParts, h7], show (m.op == 6) = false from by simp [h7]]
 show bR e (.more (0 + 1) false ⟨#[]⟩) (i + 1) = _
 rcases Nat.lt_or_ge (i + 1) e.length with h | h
 · rw [bR_more e 0 false ⟨#[]⟩ (List.getElem?_eq_getElem h), if_neg (by simp)]
   cases bR e (.one false) (i + 1) with
   | none => rfl
   | some j => exact bR_zero _ _ _ _
 · rw [bR_more_out e 0 false ⟨#[]⟩ h, bR_out e false h]
theorem bR_step (e : List Nd) (c : Nat) (l : ByteArray) (j : Nat) : bR e (.more (c + 1) false l) j = match bR e (.one false) j with | none => none | some i => bR e (.more c false l) i := by
 rcases Nat.lt_or_ge j e.length with h | h
 · rw [bR_more e c false l (List.getElem?_eq_getElem h), if_neg (by simp)]; rfl
 · rw [bR_more_out e c false l h, bR_out e false h]
theorem bR_rec (e : List Nd) (c : Nat) (l : ByteArray) {j : Nat} {m : Nd} (hm : e[j]? = some m) (h7 : m.op = 7) (hs : shapedT m = true) (hl : sLate l m.s = false) :
   bR e (.more (c + 1) true l) j = match bR e (.one false) (j + 1) with | none => none | some i => bR e (.more c true m.s) i := by
 rw [bR_more e c true l hm, if_neg (by simp [hl]), bR_fld e hm h7 hs]; rfl
theorem bR_rec_no (e : List Nd) (c : Nat) (l : ByteArray) {j : Nat} {m : Nd} (hm : e[j]? = some m) (h : ¬ m.op = 7 ∨ shapedT m = false ∨ sLate l m.s = true) : bR e (.more (c + 1) true l) j = none := by
 rw [bR_more e c true l hm]
 by_cases hl : sLate l m.s = true
 · rw [if_pos ⟨rfl, hl⟩]
 · rw [if_neg (by simp [hl]), bR_one e true hm, if_pos (by
     rcases h with h | h | h
     · right; simpa using h
     · exact .inl h
     · exact absurd h hl)]
theorem bR_bound {e : List Nd} {t : BTag} {i j : Nat} (h : bR e t i = some j) : (i ≤ e.length → j ≤ e.length) ∧ i ≤ j := ⟨(bGo_bound e _ _ _ _ h).1, (bGo_bound e _ _ _ _ h).2.1⟩
theorem late_cmp : ∀ (a b : List UInt8), (Op.bytesLess b a || b == a) = decide (0 ≤ Lib.compareBytes a b)
 | [], [] => by simp [Lib.compareBytes]
 | [], _ :: _ => by simp [Op.bytesLess, Lib.compareBytes]
 | _ :: _, [] => by simp [Op.bytesLess, Lib.compareBytes]
 | x :: a, y :: b => by
   have ih := late_cmp a b
   unfold Op.bytesLess Lib.compareBytes
   by_cases h1 : x < y
   · have h2 : ¬ y < x := fun h => UInt8.lt_irrefl _ (UInt8.lt_trans h h1)
     have h3 : ¬ y = x := fun h => by subst h; exact UInt8.lt_irrefl _ h1
     simp [h1, h2, h3]
   · by_cases h2 : y < x
     · simp [h1, h2]
     · have h3 : x = y := UInt8.le_antisymm (UInt8.not_lt.1 h2) (UInt8.not_lt.1 h1)
       subst h3
       simp [h1]
       simpa using ih
theorem sLate_cmp (l s : ByteArray) : sLate l s = decide (0 ≤ Lib.compareBytes l.data.toList s.data.toList) := by
 unfold sLate
 rw [late_cmp, ByteArray.toList_eq, ByteArray.toList_eq]
end Go.Proofs.YtbggbcnfkcadjaaGreatDoor
namespace Go.Proofs.YtbggbcnfkcadjaaGreatDoor
open Go.RowKit
set_option maxRecDepth 100000 in
set_option maxHeartbeats 400000 in
theorem r1_Numbers (a b : Int) (w : World) :
   Calls Tryz.prog 121 #[.int .i64 a, .int .i64 b] w fun e w' => e = .returned (.int .i64 (cmpI a b)) ∧ w = w' := by
 go_enter Tryz.func121, Tryz.ntmps121
 go_wp2
 all_goals (go_ret; exact ⟨ret_int (by simp [cmpI, *] <;> omega), rfl⟩)
set_option maxRecDepth 100000 in
set_option maxHeartbeats 400000 in
theorem r1_Texts (a b : ByteArray) (w : World) (ha : a.size ≤ 140737488351232) (hb : b.size ≤ 140737488351232) :
   Calls Tryz.prog 87 #[.string a, .string b] w fun e w' => e = .returned (.int .i64 (Lib.compareBytes a.data.toList b.data.toList)) ∧ Below w.heap.size w w' := by
 go_enter Tryz.func87, Tryz.ntmps87
 go_wp2_with fail
 go_loopw [5] (fun i wr => ∃ k : Nat, i = .int .i64 k ∧ k ≤ a.size ∧ k ≤ b.size ∧ Hid (Lib.compareBytes (a.toList.drop k) (b.toList.drop k) = Lib.compareBytes a.data.toList b.data.toList) ∧ Below w.heap.size w wr) (fun i _ => a.size - (intOf i).toNat)
 case atStart => exact ⟨0, rfl, by omega, by omega, by simp [Hid, ByteArray.toList_eq], Below.refl _ _⟩
 case round =>
   obtain ⟨k, rfl, hka, hkb, HK, hbr⟩ := hrel
   by_cases h1 : k < a.size
   · by_cases h2 : k < b.size
     · have hca := toList_drop a k h1
       have hcb := toList_drop b k h2
       have HC : Hid ((if a[k] < b[k] then -1 else if b[k] < a[k] then 1 else Lib.compareBytes (a.toList.drop (k + 1)) (b.toList.drop (k + 1))) = Lib.compareBytes a.data.toList b.data.toList) := by
         show _ = _
         rw [← HK.out, hca, hcb]; rfl
       clear hca hcb HK
       by_cases h3 : a[k] < b[k]
       · have h3i : (a[k].toNat : Int) < (b[k].toNat : Int) := by
           have := UInt8.lt_iff_toNat_lt.1 h3
           omega
         rw [if_pos h3] at HC
         clear h3
         go_wp2_with fail
         go_quiet (fail)
         go_wp2_with fail
         go_ret
         exact ⟨ret_int HC.out, below_drewN hbr _⟩
       · have h3i : ¬ (a[k].toNat : Int) < (b[k].toNat : Int) := by
           have : ¬ a[k].toNat < b[k].toNat := fun h => h3 (UInt8.lt_iff_toNat_lt.2 h)
           omega
         rw [if_neg h3] at HC
         clear h3
         by_cases h4 : b[k] < a[k]
         · have h4i : (b[k].toNat : Int) < (a[k].toNat : Int) := by
             have := UInt8.lt_iff_toNat_lt.1 h4
             omega
           rw [if_pos h4] at HC
           clear h4
           go_wp2_with fail
           go_quiet (fail)
           go_wp2_with fail
           go_quiet (fail)
           go_wp2_with fail
           go_ret
           exact ⟨ret_int HC.out, below_drewN (below_drewN hbr _) _⟩
         · have h4i : ¬ (b[k].toNat : Int) < (a[k].toNat : Int) := by
             have : ¬ b[k].toNat < a[k].toNat := fun h => h4 (UInt8.lt_iff_toNat_lt.2 h)
             omega
           rw [if_neg h4] at HC
           clear h4
           go_wp2_with fail
           go_quiet (fail)
           go_wp2_with fail
           go_quiet (fail)
           go_wp2_with fail
           exact ⟨⟨k + 1, by go_num, by omega, by omega, HC, below_drewN hbr _⟩, by simp [intOf]; omega⟩
     · have HE : Hid (cmpI a.size b.size = Lib.compareBytes a.data.toList b.data.toList) := by
         show _ = _
         rw [← HK.out, toList_drop a k h1, drop_none b k (by omega)]
         have : ¬ ((a.size : Int) < b.size) := by omega
         have h5 : ((b.size : Int) < a.size) := by omega
         simp [cmpI, this, h5, Lib.compareBytes]
       go_wp2_with (go_at_call 121; refine (r1_Numbers _ _ _).mono ?_; rintro e w' ⟨rfl, rfl⟩)
       go_ret
       exact ⟨ret_int HE.out, hbr⟩
   · have HE : Hid (cmpI a.size b.size = Lib.compareBytes a.data.toList b.data.toList) := by
       show _ = _
       rw [← HK.out, drop_none a k (by omega)]
       by_cases h2 : k < b.size
       · rw [toList_drop b k h2]
         have : ((a.size : Int) < b.size) := by omega
         simp [cmpI, this, Lib.compareBytes]
       · rw [drop_none b k (by omega)]
         have : a.size = b.size := by omega
         simp [cmpI, this, Lib.compareBytes]
     go_wp2_with (go_at_call 121; refine (r1_Numbers _ _ _).mono ?_; rintro e w' ⟨rfl, rfl⟩)
     go_ret
     exact ⟨ret_int HE.out, hbr⟩
end Go.Proofs.YtbggbcnfkcadjaaGreatDoor
