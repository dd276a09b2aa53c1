/-
  THE WALKS of the reference: names and texts.
  THE WALKS: package word: quoted.
  THE WALKS: package word: word.
  THE WALKS: word.Read: for any line.
-/
import Derived.Test.YtbggbcnfkcadjaaGreatDoorPf01
import Derived.Test.YtbggbcnfkcadjaaGreatDoorPf07
import Derived.Test.YtbggbcnfkcadjaaGreatDoorPf03
import Derived.Test.YtbggbcnfkcadjaaGreatDoorProg
import Derived.Test.YtbggbcnfkcadjaaGreatDoorPf02
import Derived.Lib.Builder
import Derived.Laws.Externs
import Derived.StillTailTactics
import Derived.Recover
import Derived.Defers
namespace Go.Proofs.YtbggbcnfkcadjaaGreatDoor
open Go.RowKit
def headB (l : List UInt8) : Bool := match l with | [] => true | c :: _ => letterI (c.toNat : Int)
theorem nameErr_cons (c : UInt8) (r : List UInt8) : nameErr (c :: r) = if letterI (c.toNat : Int) = false then 1 else if (c :: r).all nameB = false then 1 else if 20 < (c :: r).length then 4 else 0 := rfl
theorem nameErr_bad {l : List UInt8} (h : headB l = false ∨ l.all nameB = false) : nameErr l = 1 := by
 cases l with
 | nil => rfl
 | cons c r =>
   rw [nameErr_cons]
   by_cases h1 : letterI (c.toNat : Int) = false
   · rw [if_pos h1]
   · rw [if_neg h1]
     rcases h with h | h
     · exact absurd h h1
     · rw [if_pos h]
theorem nameErr_end {l : List UInt8} (hne : l.length ≠ 0) (hh : headB l = true) (ha : l.all nameB = true) : nameErr l = if 20 < l.length then 4 else 0 := by
 cases l with
 | nil => exact absurd rfl hne
 | cons c r =>
   have hc : letterI (c.toNat : Int) = true := hh
   rw [nameErr_cons, if_neg (by rw [hc]; decide), if_neg (by rw [ha]; decide)]
theorem drop_none (s : ByteArray) (k : Nat) (h : s.size ≤ k) : s.toList.drop k = [] := List.drop_eq_nil_of_le (by rw [toList_len]; exact h)
theorem toList_drop (s : ByteArray) (k : Nat) (h : k < s.size) : s.toList.drop k = s[k] :: s.toList.drop (k + 1) := by
 have h1 := toList_get s k h
 have h2 : k < s.toList.length := by rw [toList_len]; exact h
 rw [List.drop_eq_getElem_cons h2]
 rw [List.getElem?_eq_getElem h2] at h1
 injection h1 with h1
 rw [h1]
set_option maxRecDepth 100000 in
set_option maxHeartbeats 400000 in
theorem r1_isLetter (b : Int) (w : World) :
   Calls Tryz.prog 72 #[.int .u8 b] w fun e w' => e = .returned (.bool (letterI b)) ∧ w = w' := by
 go_enter Tryz.func72, Tryz.ntmps72
 go_wp2
 all_goals (go_ret; exact ⟨ret_bool (by rw [Bool.eq_iff_iff]; simp [letterI]; omega), rfl⟩)
set_option maxRecDepth 100000 in
set_option maxHeartbeats 400000 in
theorem r1_isDigit (b : Int) (w : World) :
   Calls Tryz.prog 73 #[.int .u8 b] w fun e w' => e = .returned (.bool (digitI b)) ∧ w = w' := by
 go_enter Tryz.func73, Tryz.ntmps73
 go_wp2
 all_goals (go_ret; exact ⟨ret_bool (by rw [Bool.eq_iff_iff]; simp [digitI]; omega), rfl⟩)
set_option maxRecDepth 100000 in
set_option maxHeartbeats 400000 in
theorem r1_NameFault (s : ByteArray) (w : World) (hs : s.size ≤ 140737488351232) :
   Calls Tryz.prog 36 #[.string s] w fun e w' => e = .returned (.int .i64 (nameErr s.toList)) ∧ w = w' := by
 go_enter Tryz.func36, Tryz.ntmps36
 go_wp2_with fail
 go_loop [3] (fun i => ∃ k : Nat, k ≤ s.size ∧ i = .int .i64 k ∧ Hid ((s.toList.take k).all nameB = true) ∧ Hid (k = 0 ∨ headB s.toList = true)) (fun i => s.size - (intOf i).toNat)
 case atStart => exact ⟨0, by omega, rfl, by simp [Hid], .inl rfl⟩
 case round =>
   obtain ⟨k, hk, rfl, HK, HF⟩ := hrel
   by_cases hlt : k < s.size
   · have HG := Lib.hid (toList_get s k hlt)
     have HD : Hid (k = 0 → headB s.toList = letterI (s[k].toNat : Int)) := by
       intro h0
       subst h0
       obtain ⟨l, hl⟩ := toList_cons hlt
       rw [hl]; rfl
     by_cases h1 : letterI (s[k].toNat : Int) = true
     · go_wp2_with (go_at_call 72; refine (r1_isLetter _ _).mono ?_; rintro e w' ⟨rfl, rfl⟩)
       exact ⟨⟨k + 1, by omega, by go_num, all_take _ _ _ _ HK.out HG.out (by simp [nameB, h1]), (by
         rcases HF.out with h | h
         · right; rw [HD.out h]; exact h1
         · exact .inr h)⟩, by simp [intOf]; omega⟩
     · have h1' : letterI (s[k].toNat : Int) = false := by simpa using h1
       clear h1
       by_cases h0 : k = 0
       · have hz : (((k : Nat) : Int) == 0) = true := by simp [h0]
         have HB : Hid (nameErr s.toList = 1) := nameErr_bad (.inl (by rw [HD.out h0]; exact h1'))
         clear h0
         go_wp2_with (go_at_call 72; refine (r1_isLetter _ _).mono ?_; rintro e w' ⟨rfl, rfl⟩)
         go_ret
         exact ⟨ret_int HB.out.symm, rfl⟩
       · have hz : (((k : Nat) : Int) == 0) = false := by simp [h0]
         have HH : Hid (headB s.toList = true) := HF.out.resolve_left h0
         clear h0
         by_cases h2 : digitI (s[k].toNat : Int) = true
         · go_wp2_with (first | (go_at_call 72; refine (r1_isLetter _ _).mono ?_; rintro e w' ⟨rfl, rfl⟩) | (go_at_call 73; refine (r1_isDigit _ _).mono ?_; rintro e w' ⟨rfl, rfl⟩))
           exact ⟨⟨k + 1, by omega, by go_num, all_take _ _ _ _ HK.out HG.out (by simp [nameB, h2]), .inr HH.out⟩, by simp [intOf]; omega⟩
         · have h2' : digitI (s[k].toNat : Int) = false := by simpa using h2
           have HB : Hid (nameErr s.toList = 1) := nameErr_bad (.inr (all_bad s.toList nameB k s[k] HG.out (by simp [nameB, h1', h2'])))
           clear h2
           go_wp2_with (first | (go_at_call 72; refine (r1_isLetter _ _).mono ?_; rintro e w' ⟨rfl, rfl⟩) | (go_at_call 73; refine (r1_isDigit _ _).mono ?_; rintro e w' ⟨rfl, rfl⟩))
           go_ret
           exact ⟨ret_int HB.out.symm, rfl⟩
   · have hks : k = s.size := by omega
     subst hks
     have ha : s.toList.all nameB = true := by have := HK.out; rwa [List.take_of_length_le (by rw [toList_len]; omega)] at this
     have hsz := toList_len s
     by_cases h0 : s.size = 0
     · have hz : ((s.size : Int) == 0) = true := by simp [h0]
       have HB : Hid (nameErr s.toList = 1) := by
         have h5 : s.toList = [] := List.eq_nil_of_length_eq_zero (by omega)
         show _ = _
         rw [h5]; rfl
       clear h0 ha hsz
       go_wp2_with fail
       go_ret
       exact ⟨ret_int HB.out.symm, rfl⟩
     · have hz : ((s.size : Int) == 0) = false := by simp [h0]
       have HB : Hid (nameErr s.toList = if 20 < s.size then 4 else 0) := by
         show _ = _
         rw [nameErr_end (by omega) (HF.out.resolve_left h0) ha, hsz]
       clear h0 ha hsz
       by_cases h20 : 20 < s.size
       · go_wp2_with fail
         go_ret
         exact ⟨ret_int (by rw [HB.out, if_pos h20]), rfl⟩
       · go_wp2_with fail
         go_ret
         exact ⟨ret_int (by rw [HB.out, if_neg h20]), rfl⟩
set_option maxRecDepth 100000 in
set_option maxHeartbeats 400000 in
theorem r1_TextFault (s : ByteArray) (w : World) (hs : s.size ≤ 140737488351232) :
   Calls Tryz.prog 35 #[.string s] w fun e w' => e = .returned (.int .i64 (textErr s.toList)) ∧ w = w' := by
 have HZ := Lib.hid (toList_len s)
 by_cases h60 : 60 < s.size
 · go_enter Tryz.func35, Tryz.ntmps35
   go_wp2_with fail
   go_ret
   have hz := HZ.out
   exact ⟨ret_int (by simp [textErr, hz, h60]), rfl⟩
 · go_enter Tryz.func35, Tryz.ntmps35
   go_wp2_with fail
   go_loop [3] (fun i => ∃ k : Nat, k ≤ s.size ∧ i = .int .i64 k ∧ Hid ((s.toList.take k).all plainB = true)) (fun i => s.size - (intOf i).toNat)
   case atStart => exact ⟨0, by omega, rfl, by simp [Hid]⟩
   case round =>
     obtain ⟨k, hk, rfl, HK⟩ := hrel
     by_cases hlt : k < s.size
     · have HG := Lib.hid (toList_get s k hlt)
       by_cases h1 : (s[k].toNat : Int) < 32
       · go_wp2_with fail
         go_ret
         have hb := all_bad s.toList plainB k s[k] HG.out (by simp [plainB]; omega)
         have hz := HZ.out
         exact ⟨ret_int (by simp [textErr, hz, h60, hb]), rfl⟩
       · by_cases h2 : 126 < (s[k].toNat : Int)
         · go_wp2_with fail
           go_ret
           have hb := all_bad s.toList plainB k s[k] HG.out (by simp [plainB]; omega)
           have hz := HZ.out
           exact ⟨ret_int (by simp [textErr, hz, h60, hb]), rfl⟩
         · go_wp2_with fail
           exact ⟨⟨k + 1, by omega, by go_num, all_take _ _ _ _ HK.out HG.out (by simp [plainB]; omega)⟩, by simp [intOf]; omega⟩
     · have hks : k = s.size := by omega
       subst hks
       have HA : Hid (s.toList.all plainB = true) := by have := HK.out; rwa [List.take_of_length_le (by rw [toList_len]; omega)] at this
       go_wp2_with fail
       go_ret
       have ha := HA.out
       have hz := HZ.out
       exact ⟨ret_int (by simp [textErr, hz, h60, ha]), rfl⟩
end Go.Proofs.YtbggbcnfkcadjaaGreatDoor
namespace Go.Proofs.YtbggbcnfkcadjaaGreatDoor
open Go.RowKit
theorem drop_noneW (s : ByteArray) (k : Nat) (h : s.size ≤ k) : s.toList.drop k = [] := List.drop_eq_nil_of_le (by rw [toList_len]; exact h)
theorem beq_lit {c d : UInt8} (h : c = d) : ((c.toNat : Int) == (d.toNat : Int)) = true := by rw [h]; simp
theorem bne_lit {c d : UInt8} (h : ¬ c = d) : ((c.toNat : Int) == (d.toNat : Int)) = false := by
 simp only [beq_eq_false_iff_ne, ne_eq]
 intro hh
 exact h (UInt8.toNat_inj.1 (by omega))
theorem bne_lit2 {c d : UInt8} (h : ¬ c = d) : ((c.toNat : Int) != (d.toNat : Int)) = true := by rw [bne, bne_lit h]; rfl
end Go.Proofs.YtbggbcnfkcadjaaGreatDoor
namespace Go.Proofs.YtbggbcnfkcadjaaGreatDoor
open Go.RowKit
theorem runL_span (p : Int → Bool) (s : ByteArray) (i : Nat) : (s.extract i (runL p s i)).toList = (s.toList.drop i).takeWhile fun c => p (c.toNat : Int) := by
 have h := List.prefix_iff_eq_take.1 (List.takeWhile_prefix (fun c : UInt8 => p (c.toNat : Int)) (l := s.toList.drop i))
 rw [ByteArray.toList_eq, Lib.extract_data, ← ByteArray.toList_eq]
 unfold runL
 rw [show ∀ n, i + n - i = n from fun n => by omega]
 exact h.symm
theorem bs_eq {x : ByteArray} {l : List UInt8} (h : x.toList = l) : x = bsOf l := by
 subst h
 rw [ByteArray.toList_eq]; rfl
theorem span_bs (p : Int → Bool) (s : ByteArray) (i : Nat) : s.extract i (runL p s i) = bsOf ((s.toList.drop i).takeWhile fun c => p (c.toNat : Int)) := bs_eq (runL_span p s i)
theorem wordP_num {c : UInt8} {r : List UInt8} (h : digitI (c.toNat : Int) = true) : wordP (c :: r) = numP (c :: r) := by
 rw [wordP, if_pos (show digB c = true from h)]
theorem wordP_name {c : UInt8} {r : List UInt8} (h1 : digitI (c.toNat : Int) = false) (h2 : letterI (c.toNat : Int) = true) : wordP (c :: r) = namedP 1 (c :: r) 0 := by
 rw [wordP, if_neg (by unfold digB; rw [h1]; decide), if_pos (show letB c = true from h2)]
theorem wordP_quo {c : UInt8} {r : List UInt8} (h1 : digitI (c.toNat : Int) = false) (h2 : letterI (c.toNat : Int) = false) (h3 : c = 34) : wordP (c :: r) = quoP r [] 1 := by
 rw [wordP, if_neg (by unfold digB; rw [h1]; decide), if_neg (by unfold letB; rw [h2]; decide), if_pos h3]
theorem wordP_slot {c : UInt8} {r : List UInt8} (h1 : digitI (c.toNat : Int) = false) (h2 : letterI (c.toNat : Int) = false) (h3 : ¬ c = 34) (h4 : c = 63) : wordP (c :: r) = namedP 4 r 1 := by
 rw [wordP, if_neg (by unfold digB; rw [h1]; decide), if_neg (by unfold letB; rw [h2]; decide), if_neg h3, if_pos h4]
theorem wordP_sign {c : UInt8} {r : List UInt8} (h1 : digitI (c.toNat : Int) = false) (h2 : letterI (c.toNat : Int) = false) (h3 : ¬ c = 34) (h4 : ¬ c = 63) : wordP (c :: r) = if signP (c :: r) = [] then .bad 1 else .ok 5 (signP (c :: r)) (signP (c :: r)).length := by
 rw [wordP, if_neg (by unfold digB; rw [h1]; decide), if_neg (by unfold letB; rw [h2]; decide), if_neg h3, if_neg h4]
end Go.Proofs.YtbggbcnfkcadjaaGreatDoor
namespace Go.Proofs.YtbggbcnfkcadjaaGreatDoor
open Go.RowKit
theorem tok_info : (Tryz.prog.info? 42).map (fun i => (i.zero, i.size, i.bytes)) = some (some (.agg #[.int .i64 0, .string ⟨#[]⟩, .int .i64 0]), 3, 32) := by kernel_rfl
theorem toks_end {W : World} {A : Option Addr} {c : Nat} {toks : List Tk} {B : Nat} (h : W.ownsRow B 42 3 (.slice A toks.length c) toks.length (flatG Tk.cells toks)) : toks.length ≤ c ∧ c ≤ 9223372036854775807 ∧ TkSl W W.heap.size A toks := by
 obtain ⟨_, A', c', hv, h1, h2, h3⟩ := own_formG tk_ok h
 injection hv with e1 e2 e3
 subst e1 e3
 exact ⟨h1, h2, h3⟩
end Go.Proofs.YtbggbcnfkcadjaaGreatDoor
