/-
  THE WALKS of the reference: Fields.
-/
import Derived.Test.YtnhcjpmamgdeoaaGreatDoorRef2
namespace Go.Proofs.YtnhcjpmamgdeoaaGreatDoor
open Go.RowKit

theorem one_val {x : Nd} (h : x.op = 1 ∨ x.op = 2 ∨ x.op = 3 ∨ x.op = 4) : (valErr [x] == 0) = shapedV x := by
  have h5 : ¬ x.op = 5 := by omega
  have h6 : ¬ x.op = 6 := by omega
  have h7 : ¬ x.op = 7 := by omega
  cases hs : shapedV x <;> simp [valErr, vGo, hs, h5, h6, h7]
theorem shapedT_low {x : Nd} (h : 1 ≤ x.op ∧ x.op ≤ 7) : shapedT x = shapedV x := by
  by_cases h4 : x.op = 1 ∨ x.op = 2 ∨ x.op = 3 ∨ x.op = 4
  · unfold shapedT; rw [if_pos h4, one_val h4]
  · by_cases h56 : x.op = 5 ∨ x.op = 6
    · unfold shapedT; rw [if_neg h4, if_pos h56]
      unfold shapedV; rw [if_neg (by omega), if_neg (by omega), if_neg (by omega), if_neg (by omega), if_pos h56]
    · have h7 : x.op = 7 := by omega
      unfold shapedT shapedV
      simp [h7]
theorem shapedT_8 {x : Nd} (h : x.op = 8) : shapedT x = (x.n == 0 && x.t.toList.isEmpty && variableB x.s.toList) := by
  unfold shapedT; rw [if_neg (by omega), if_neg (by omega), if_pos h]
theorem shapedT_name {x : Nd} (h : x.op = 21 ∨ x.op = 22 ∨ x.op = 24) : shapedT x = (x.n == 0 && x.t.toList.isEmpty && nameErr x.s.toList == 0) := by
  unfold shapedT; rw [if_neg (by omega), if_neg (by omega), if_neg (by omega), if_pos (by omega)]
theorem shapedT_23 {x : Nd} (h : x.op = 23) : shapedT x = (x.n == 0 && x.t.toList.isEmpty && textErr x.s.toList == 0) := by
  unfold shapedT; rw [if_neg (by omega), if_neg (by omega), if_neg (by omega), if_neg (by omega), if_pos h]
theorem shapedT_else {x : Nd} (hl : ¬ (1 ≤ x.op ∧ x.op ≤ 7)) (h8 : ¬ x.op = 8) (h1 : ¬ x.op = 21) (h2 : ¬ x.op = 22) (h3 : ¬ x.op = 23) (h4 : ¬ x.op = 24) : shapedT x = (decide (0 ≤ ndParts x) && x.n == 0 && x.s.toList.isEmpty && x.t.toList.isEmpty) := by
  unfold shapedT; rw [if_neg (by omega), if_neg (by omega), if_neg (by omega), if_neg (by omega), if_neg (by omega)]
  have : (decide (0 < ndParts x)) = decide (0 ≤ ndParts x) := by
    rw [Bool.eq_iff_iff]
    simp only [decide_eq_true_eq]
    unfold ndParts
    rw [if_neg (by omega), if_neg (by omega)]
    repeat' split
    all_goals omega
  rw [this]

set_option maxRecDepth 100000 in
set_option maxHeartbeats 1600000 in
theorem r2_Fields_low (op n : Int) (s t : ByteArray) (w : World) (hs : s.size ≤ 140737488351232) (ht : t.size ≤ 140737488351232) (h1 : 1 ≤ op) (h7 : op ≤ 7) :
    Calls Tryz.prog 63 #[.agg #[.int .i64 op, .int .i64 n, .string s, .string t]] w fun e w' => e = .returned (.bool (shapedT ⟨op, n, s, t⟩)) ∧ Below w.heap.size w w' := by
  rw [shapedT_low (x := ⟨op, n, s, t⟩) ⟨h1, h7⟩]
  go_enter Tryz.func63, Tryz.ntmps63
  go_wp2_with (go_at_call 82; refine (r1_ValueNode _ _ _ _ _ hs ht).mono ?_; rintro e w1 ⟨rfl, hb⟩; obtain ⟨hc, hf⟩ := bcell hb)
  go_ret
  exact ⟨rfl, ((Below.refl _ _).alloc (Nat.le_refl _) _).trans (hb.mono (by simp))⟩

set_option maxRecDepth 100000 in
set_option maxHeartbeats 1600000 in
theorem r2_Fields_else (op n : Int) (s t : ByteArray) (w : World) (hs : s.size ≤ 140737488351232) (hl : ¬ (1 ≤ op ∧ op ≤ 7)) (h8 : ¬ op = 8) :
    Calls Tryz.prog 63 #[.agg #[.int .i64 op, .int .i64 n, .string s, .string t]] w fun e w' => e = .returned (.bool (shapedT ⟨op, n, s, t⟩)) ∧ Below w.heap.size w w' := by
  have hcase : op = 21 ∨ op = 22 ∨ op = 24 ∨ op = 23 ∨ ((op == 21) = false ∧ (op == 22) = false ∧ (op == 24) = false ∧ (op == 23) = false) := by
    simp only [beq_eq_false_iff_ne]; omega
  have e8 : (op == 8) = false := by simp [h8]
  obtain ⟨p, hp⟩ : ∃ p, ndParts ⟨op, n, s, t⟩ = p := ⟨_, rfl⟩
  have HP : ∀ W, Calls Tryz.prog 64 #[.agg #[.int .i64 op, .int .i64 n, .string s, .string t]] W fun e w' => e = .returned (.int .i64 p) ∧ Below W.heap.size W w' := fun W => by
    rw [← hp]; exact r2_Parts op n s t W
  have hlo : op < 1 ∨ 7 < op := by omega
  rcases hcase with rfl | rfl | rfl | rfl | ⟨e1, e2, e3, e4⟩
  case inr.inr.inr.inr =>
    rw [shapedT_else (x := ⟨op, n, s, t⟩) hl h8 (by simpa using e1) (by simpa using e2) (by simpa using e4) (by simpa using e3), hp]
    by_cases hpn : p < 0
    · clear hp h8 hl
      rcases hlo with hlo | hlo
      all_goals
        go_enter Tryz.func63, Tryz.ntmps63
        go_wp2_with (go_at_call 64; refine (HP _).mono ?_; rintro e w1 ⟨rfl, hb⟩; obtain ⟨hc, hf⟩ := bcell hb)
        go_ret
        refine ⟨ret_bool ?_, ((Below.refl _ _).alloc (Nat.le_refl _) _).trans (hb.mono (by simp))⟩
        have : ¬ 0 ≤ p := by omega
        simp [this]
    · have hpp : 0 ≤ p := by omega
      clear hp h8 hl
      rcases hlo with hlo | hlo <;> cases hte : t.toList.isEmpty
      all_goals
        go_enter Tryz.func63, Tryz.ntmps63
        go_wp2_with (go_at_call 64; refine (HP _).mono ?_; rintro e w1 ⟨rfl, hb⟩; obtain ⟨hc, hf⟩ := bcell hb)
      all_goals
        go_ret
        refine ⟨ret_bool ?_, ((Below.refl _ _).alloc (Nat.le_refl _) _).trans (hb.mono (by simp))⟩
        try simp only [beq_eq_false_iff_ne] at *
        try simp only [bne_iff_ne] at *
        try simp only [bne_eq_false_iff_eq] at *
        simp [*]
  all_goals
    have hp1 : p = 1 := by rw [← hp]; rfl
    subst hp1
    clear hp h8 hl hlo e8
  all_goals
    cases hte : t.toList.isEmpty
  all_goals
    go_enter Tryz.func63, Tryz.ntmps63
    go_wp2_with (first | (go_at_call 64; refine (HP _).mono ?_; rintro e w1 ⟨rfl, hb⟩; obtain ⟨hc, hf⟩ := bcell hb) | (go_at_call 28; refine (r1_NameFault _ _ hs).mono ?_; rintro e w' ⟨rfl, rfl⟩) | (go_at_call 98; refine (r1_TextFault _ _ hs).mono ?_; rintro e w' ⟨rfl, rfl⟩))
  all_goals
    go_ret
    refine ⟨ret_bool ?_, ((Below.refl _ _).alloc (Nat.le_refl _) _).trans (hb.mono (by simp))⟩
    try simp only [beq_eq_false_iff_ne] at *
    try simp only [bne_iff_ne] at *
    try simp only [bne_eq_false_iff_eq] at *
    simp [shapedT, *]

set_option maxRecDepth 100000 in
set_option maxHeartbeats 1600000 in
theorem r2_Fields_8 (n : Int) (s t : ByteArray) (w : World) (hs : s.size ≤ 140737488351232) :
    Calls Tryz.prog 63 #[.agg #[.int .i64 8, .int .i64 n, .string s, .string t]] w fun e w' => e = .returned (.bool (shapedT ⟨8, n, s, t⟩)) ∧ Below w.heap.size w w' := by
  rw [shapedT_8 (x := ⟨8, n, s, t⟩) rfl]
  have HP : ∀ W, Calls Tryz.prog 64 #[.agg #[.int .i64 8, .int .i64 n, .string s, .string t]] W fun e w' => e = .returned (.int .i64 0) ∧ Below W.heap.size W w' := fun W => r2_Parts 8 n s t W
  by_cases h0 : 0 < s.size
  · have h0' : s.toList.isEmpty = false := toList_ne h0
    obtain ⟨l, hl0⟩ := toList_cons h0
    have HL := Lib.hid hl0
    have hx := extract_one s
    have HX : Hid ((s.extract 1 s.size).toList = l) := by rw [hl0] at hx; exact hx
    have hxs := extract_size s
    have HXS := Lib.hid hxs
    clear hl0 hx hxs
    by_cases hq : s[0] = 63
    · have hqi : ((s[0].toNat : Int) == 63) = true := by rw [hq]; rfl
      have HV : Hid (variableB s.toList = (nameErr l == 0)) := by show _ = _; rw [HL.out]; simp [variableB, hq]
      clear hq
      cases hte : t.toList.isEmpty
      all_goals
       go_enter Tryz.func63, Tryz.ntmps63
       go_wp2_with (first | (go_at_call 64; refine (HP _).mono ?_; rintro e w1 ⟨rfl, hb⟩; obtain ⟨hc, hf⟩ := bcell hb) | (go_at_call 28; refine (r1_NameFault _ _ (by have := HXS.out; omega)).mono ?_; rintro e w' ⟨rfl, rfl⟩))
      all_goals
        go_ret
        refine ⟨ret_bool ?_, ((Below.refl _ _).alloc (Nat.le_refl _) _).trans (hb.mono (by simp))⟩
        try simp only [beq_eq_false_iff_ne] at *
        try simp only [bne_iff_ne] at *
        try simp only [bne_eq_false_iff_eq] at *
        have hv := HV.out
        have hx := HX.out
        simp [*]
    · have hqi : ((s[0].toNat : Int) == 63) = false := by
        rw [beq_eq_false_iff_ne]; intro hc; apply hq; apply UInt8.toNat_inj.1; simp; omega
      have HV : Hid (variableB s.toList = (nameErr s.toList == 0 && !reserved s.toList)) := by show _ = _; rw [HL.out]; simp [variableB, hq]
      clear hq
      cases hte : t.toList.isEmpty
      all_goals
       go_enter Tryz.func63, Tryz.ntmps63
       go_wp2_with (first | (go_at_call 64; refine (HP _).mono ?_; rintro e w1 ⟨rfl, hb⟩; obtain ⟨hc, hf⟩ := bcell hb) | (go_at_call 28; refine (r1_NameFault _ _ hs).mono ?_; rintro e w' ⟨rfl, rfl⟩) | (go_at_call 97; refine (r2_Reserved _ _).mono ?_; rintro e w' ⟨rfl, rfl⟩))
      all_goals
        go_ret
        refine ⟨ret_bool ?_, ((Below.refl _ _).alloc (Nat.le_refl _) _).trans (hb.mono (by simp))⟩
        try simp only [beq_eq_false_iff_ne] at *
        try simp only [bne_iff_ne] at *
        try simp only [bne_eq_false_iff_eq] at *
        have hv := HV.out
        simp [*]
  · have h0' := toList_nil h0
    have h0'' : s.toList.isEmpty = true := by rw [h0']; rfl
    have HL := Lib.hid h0'
    clear h0'
    have HV : Hid (variableB s.toList = (nameErr s.toList == 0 && !reserved s.toList)) := by show _ = _; rw [HL.out]; rfl
    cases hte : t.toList.isEmpty
    all_goals
     go_enter Tryz.func63, Tryz.ntmps63
     go_wp2_with (first | (go_at_call 64; refine (HP _).mono ?_; rintro e w1 ⟨rfl, hb⟩; obtain ⟨hc, hf⟩ := bcell hb) | (go_at_call 28; refine (r1_NameFault _ _ hs).mono ?_; rintro e w' ⟨rfl, rfl⟩) | (go_at_call 97; refine (r2_Reserved _ _).mono ?_; rintro e w' ⟨rfl, rfl⟩))
    all_goals
      go_ret
      refine ⟨ret_bool ?_, ((Below.refl _ _).alloc (Nat.le_refl _) _).trans (hb.mono (by simp))⟩
      try simp only [beq_eq_false_iff_ne] at *
      try simp only [bne_iff_ne] at *
      try simp only [bne_eq_false_iff_eq] at *
      have hv := HV.out
      simp [*]

theorem r2_Fields (op n : Int) (s t : ByteArray) (w : World) (hs : s.size ≤ 140737488351232) (ht : t.size ≤ 140737488351232) :
    Calls Tryz.prog 63 #[.agg #[.int .i64 op, .int .i64 n, .string s, .string t]] w fun e w' => e = .returned (.bool (shapedT ⟨op, n, s, t⟩)) ∧ Below w.heap.size w w' := by
  by_cases h : 1 ≤ op ∧ op ≤ 7
  · exact r2_Fields_low op n s t w hs ht h.1 h.2
  · by_cases h8 : op = 8
    · subst h8; exact r2_Fields_8 n s t w hs
    · exact r2_Fields_else op n s t w hs h h8
end Go.Proofs.YtnhcjpmamgdeoaaGreatDoor
