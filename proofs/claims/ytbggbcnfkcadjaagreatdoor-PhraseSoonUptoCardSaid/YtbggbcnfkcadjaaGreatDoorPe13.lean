/-
  THE WALKS of the reference: words: run, begins.
  THE WALKS of the reference: words: quoted.
  PLAIN LAWS: a number's leading zeros; the greatest sign that a text begins with.
  THE WALKS of the reference: words: Word.
  THE WALKS of the reference: words: Word, the other cases.
  THE WALKS of the reference: words: Word, signs; all cases.
  THE WALKS of the reference: words: Words; the laws' comparison of tokens.
  PLAIN LAWS: what is spelt is read again; what is read can be spelt.
  THE WALKS: the law's own small functions: bare, quick, num.
-/
import Derived.Test.YtbggbcnfkcadjaaGreatDoorPe11
import Derived.Test.YtbggbcnfkcadjaaGreatDoorPe03
import Derived.Test.YtbggbcnfkcadjaaGreatDoorPe05
namespace Go.Proofs.YtbggbcnfkcadjaaGreatDoor
open Go.RowKit
set_option maxRecDepth 100000 in
set_option maxHeartbeats 400000 in
theorem r2_isLetter (b : Int) (w : World) :
   Calls Tryz.prog 76 #[.int .u8 b] w fun e w' => e = .returned (.bool (letterI b)) ∧ w = w' := by
 go_enter Tryz.func76, Tryz.ntmps76
 go_wp2
 all_goals (go_ret; exact ⟨ret_bool (by rw [Bool.eq_iff_iff]; simp [letterI]; omega), rfl⟩)
set_option maxRecDepth 100000 in
set_option maxHeartbeats 400000 in
theorem r2_isDigit (b : Int) (w : World) :
   Calls Tryz.prog 74 #[.int .u8 b] w fun e w' => e = .returned (.bool (digitI b)) ∧ w = w' := by
 go_enter Tryz.func74, Tryz.ntmps74
 go_wp2
 all_goals (go_ret; exact ⟨ret_bool (by rw [Bool.eq_iff_iff]; simp [digitI]; omega), rfl⟩)
set_option maxRecDepth 100000 in
set_option maxHeartbeats 1600000 in
theorem r2_run_digits (s : ByteArray) (i : Nat) (w : World) (hs : s.size ≤ 140737488351232) (hi : i ≤ s.size) :
   Calls Tryz.prog 75 #[.string s, .int .i64 i, .bool true] w fun e w' => e = .returned (.int .i64 (runL digitI s i)) ∧ w = w' := by
 go_enter Tryz.func75, Tryz.ntmps75
 go_wp2_with fail
 go_loop [1] (fun t => ∃ k : Nat, i ≤ k ∧ k ≤ s.size ∧ t = .int .i64 k ∧ Hid (runL digitI s k = runL digitI s i)) (fun t => s.size - (intOf t).toNat)
 case atStart => exact ⟨i, Nat.le_refl _, hi, rfl, rfl⟩
 case round =>
   obtain ⟨k, hik, hk, rfl, HK⟩ := hrel
   by_cases hlt : k < s.size
   · by_cases hp : digitI (s[k].toNat : Int) = true
     · have HK2 : Hid (runL digitI s (k + 1) = runL digitI s i) := by show _ = _; rw [← runL_hit hlt hp]; exact HK.out
       go_wp2_with (go_at_call 74; refine (r2_isDigit _ _).mono ?_; rintro e w' ⟨rfl, rfl⟩)
       go_round
       case rel => exact ⟨k + 1, by omega, by omega, by go_num, HK2⟩
       case measure => simp [intOf]; omega
     · have hp : digitI (s[k].toNat : Int) = false := by simpa using hp
       have HK2 : Hid (runL digitI s i = k) := by show _ = _; rw [← HK.out]; exact runL_miss hlt hp
       go_wp2_with (go_at_call 74; refine (r2_isDigit _ _).mono ?_; rintro e w' ⟨rfl, rfl⟩)
       go_ret
       exact ⟨ret_int (by rw [HK2.out]), rfl⟩
   · have HK2 : Hid (runL digitI s i = k) := by show _ = _; rw [← HK.out]; exact runL_end (by omega)
     go_wp2_with fail
     go_ret
     exact ⟨ret_int (by rw [HK2.out]), rfl⟩
set_option maxRecDepth 100000 in
set_option maxHeartbeats 1600000 in
theorem r2_run_name (s : ByteArray) (i : Nat) (w : World) (hs : s.size ≤ 140737488351232) (hi : i ≤ s.size) :
   Calls Tryz.prog 75 #[.string s, .int .i64 i, .bool false] w fun e w' => e = .returned (.int .i64 (runL nameI s i)) ∧ w = w' := by
 go_enter Tryz.func75, Tryz.ntmps75
 go_wp2_with fail
 go_loop [1] (fun t => ∃ k : Nat, i ≤ k ∧ k ≤ s.size ∧ t = .int .i64 k ∧ Hid (runL nameI s k = runL nameI s i)) (fun t => s.size - (intOf t).toNat)
 case atStart => exact ⟨i, Nat.le_refl _, hi, rfl, rfl⟩
 case round =>
   obtain ⟨k, hik, hk, rfl, HK⟩ := hrel
   by_cases hlt : k < s.size
   · by_cases hp : digitI (s[k].toNat : Int) = true
     · have HK2 : Hid (runL nameI s (k + 1) = runL nameI s i) := by show _ = _; rw [← runL_hit hlt (by simp [nameI, hp])]; exact HK.out
       go_wp2_with (go_at_call 74; refine (r2_isDigit _ _).mono ?_; rintro e w' ⟨rfl, rfl⟩)
       go_round
       case rel => exact ⟨k + 1, by omega, by omega, by go_num, HK2⟩
       case measure => simp [intOf]; omega
     · have hp : digitI (s[k].toNat : Int) = false := by simpa using hp
       by_cases hq : letterI (s[k].toNat : Int) = true
       · have HK2 : Hid (runL nameI s (k + 1) = runL nameI s i) := by show _ = _; rw [← runL_hit hlt (by simp [nameI, hq])]; exact HK.out
         go_wp2_with (first | (go_at_call 74; refine (r2_isDigit _ _).mono ?_; rintro e w' ⟨rfl, rfl⟩) | (go_at_call 76; refine (r2_isLetter _ _).mono ?_; rintro e w' ⟨rfl, rfl⟩))
         go_round
         case rel => exact ⟨k + 1, by omega, by omega, by go_num, HK2⟩
         case measure => simp [intOf]; omega
       · have hq : letterI (s[k].toNat : Int) = false := by simpa using hq
         have HK2 : Hid (runL nameI s i = k) := by show _ = _; rw [← HK.out]; exact runL_miss hlt (by simp [nameI, hq, hp])
         go_wp2_with (first | (go_at_call 74; refine (r2_isDigit _ _).mono ?_; rintro e w' ⟨rfl, rfl⟩) | (go_at_call 76; refine (r2_isLetter _ _).mono ?_; rintro e w' ⟨rfl, rfl⟩))
         go_ret
         exact ⟨ret_int (by rw [HK2.out]), rfl⟩
   · have HK2 : Hid (runL nameI s i = k) := by show _ = _; rw [← HK.out]; exact runL_end (by omega)
     go_wp2_with fail
     go_ret
     exact ⟨ret_int (by rw [HK2.out]), rfl⟩
theorem prefix_step {s x : ByteArray} {i k : Nat} (hx : k < x.size) (hs : i + k < s.size) : (x.toList.drop k).isPrefixOf (s.toList.drop (i + k)) = (x[k] == s[i + k] && (x.toList.drop (k + 1)).isPrefixOf (s.toList.drop (i + (k + 1)))) := by
 rw [toList_drop x k hx, toList_drop s (i + k) hs, List.isPrefixOf_cons_cons]; rfl
set_option maxRecDepth 100000 in
set_option maxHeartbeats 1600000 in
theorem r2_begins (s : ByteArray) (i : Nat) (x : ByteArray) (w : World) (hs : s.size ≤ 140737488351232) (hi : i ≤ s.size) (hx : x.size ≤ 140737488351232) :
   Calls Tryz.prog 78 #[.string s, .int .i64 i, .string x] w fun e w' => e = .returned (.bool (x.toList.isPrefixOf (s.toList.drop i))) ∧ Below w.heap.size w w' := by
 by_cases hl : (s.size : Int) - i < x.size
 · have HP : Hid (x.toList.isPrefixOf (s.toList.drop i) = false) := by
     show _ = _
     rw [Bool.eq_false_iff]
     intro h
     have := List.IsPrefix.length_le (List.isPrefixOf_iff_prefix.1 h)
     rw [List.length_drop, toList_len, toList_len] at this
     omega
   go_enter Tryz.func78, Tryz.ntmps78
   go_wp2_with fail
   go_ret
   exact ⟨ret_bool HP.out.symm, Below.refl _ _⟩
 · go_enter Tryz.func78, Tryz.ntmps78
   go_wp2_with fail
   go_loopw [7] (fun t wr => ∃ k : Nat, k ≤ x.size ∧ t = .int .i64 k ∧ Hid ((x.toList.drop k).isPrefixOf (s.toList.drop (i + k)) = x.toList.isPrefixOf (s.toList.drop i)) ∧ Below w.heap.size w wr) (fun t _ => x.size - (intOf t).toNat)
   case atStart => exact ⟨0, Nat.zero_le _, rfl, by simp [Hid], Below.refl _ _⟩
   case round =>
     obtain ⟨k, hk, rfl, HK, hbr⟩ := hrel
     by_cases hlt : k < x.size
     · have hsi : i + k < s.size := by omega
       have HS := Lib.hid (prefix_step hlt hsi)
       have hsum : IntKind.i64.wrap ((i : Int) + k) = (i : Int) + k := by rw [IntKind.wrap_i64]; omega
       have hpos : 0 ≤ (i : Int) + k := by omega
       have hnat : ((i : Int) + k).toNat = i + k := by omega
       have hix : ∀ W, (Instr.index 9 (.string s) (.int .i64 ((i : Int) + k))).run Tryz.prog W = .ok (.int .u8 (s[i + k].toNat : Int)) W := fun W => by
         rw [show (i : Int) + k = ((i + k : Nat) : Int) from by omega]; exact run_index_str s (i + k) hsi W
       by_cases he : x[k] = s[i + k]
       · have hne : ((s[i + k].toNat : Int) != (x[k].toNat : Int)) = false := by rw [he]; simp
         have HK2 : Hid ((x.toList.drop (k + 1)).isPrefixOf (s.toList.drop (i + (k + 1))) = x.toList.isPrefixOf (s.toList.drop i)) := by
           show _ = _; rw [← HK.out, HS.out, he]; simp
         clear he HS HK
         go_wp2_with fail
         go_quiet (fail)
         clear hsum hpos hnat hix
         go_wp2_with fail
         exact ⟨⟨k + 1, by omega, by go_num, HK2, below_drewN hbr _⟩, by simp [intOf]; omega⟩
       · have hne : ((s[i + k].toNat : Int) != (x[k].toNat : Int)) = true := by
           simp only [bne_iff_ne, ne_eq]
           intro h
           exact he (UInt8.toNat_inj.1 (by omega))
         have HK2 : Hid (x.toList.isPrefixOf (s.toList.drop i) = false) := by
           show _ = _; rw [← HK.out, HS.out]; simp [he]
         clear he HS HK
         go_wp2_with fail
         go_quiet (fail)
         clear hsum hpos hnat hix
         go_wp2_with fail
         go_ret
         exact ⟨ret_bool HK2.out.symm, below_drewN hbr _⟩
     · have HK2 : Hid (x.toList.isPrefixOf (s.toList.drop i) = true) := by show _ = _; rw [← HK.out, drop_none x k (by omega)]; rfl
       go_wp2_with fail
       go_ret
       exact ⟨ret_bool HK2.out.symm, hbr⟩
end Go.Proofs.YtbggbcnfkcadjaaGreatDoor
namespace Go.Proofs.YtbggbcnfkcadjaaGreatDoor
open Go.RowKit
def wdV (i : Nat) : Wd → Value
 | .ok kind t n => .tuple #[.agg #[.int .i64 kind, .string (bsOf t), .int .i64 i], .int .i64 ((i : Int) + n), .int .i64 0]
 | .bad k => .tuple #[.agg #[.int .i64 0, .string ⟨#[]⟩, .int .i64 0], .int .i64 0, .int .i64 k]
def WdPost (w : World) (i : Nat) (q : Wd) (e : Ending) (w' : World) : Prop := e = .returned (wdV i q) ∧ Below w.heap.size w w'
theorem WdPost.mk {w : World} {i : Nat} {q : Wd} {e : Ending} {w' : World} (he : e = .returned (wdV i q)) (hb : Below w.heap.size w w') : WdPost w i q e w' := ⟨he, hb⟩
theorem bs_snoc (acc : List UInt8) (c : UInt8) (s : ByteArray) (k : Nat) (hk : k < s.size) (hc : s[k] = c) : bsOf acc ++ s.extract k (k + 1) = bsOf (acc ++ [c]) := by
 refine bs_eq ?_
 have h1 : (s.extract k (k + 1)).toList = [c] := by
   rw [ByteArray.toList_eq, Lib.extract_data, show k + 1 - k = 1 from by omega, ← ByteArray.toList_eq, toList_drop s k hk, hc]; rfl
 have h2 : (bsOf acc).toList = acc := by rw [ByteArray.toList_eq]; rfl
 rw [ByteArray.toList_eq] at h1 h2 ⊢
 rw [ByteArray.data_append, Array.toList_append, h1, h2]
set_option maxRecDepth 100000 in
set_option maxHeartbeats 3200000 in
theorem r2_quoted (s : ByteArray) (i : Nat) (w : World) (hs : s.size ≤ 140737488351232) (hi : i < s.size) :
   Calls Tryz.prog 77 #[.string s, .int .i64 i] w (WdPost w i (quoP (s.toList.drop (i + 1)) [] 1)) := by
 obtain ⟨q, hq⟩ : ∃ q, quoP (s.toList.drop (i + 1)) [] 1 = q := ⟨_, rfl⟩
 rw [hq]
 have HQ := Lib.hid hq
 clear hq
 go_enter Tryz.func77, Tryz.ntmps77
 go_wp2_with fail
 go_loop [7, 8] (fun tt ii => ∃ p : Nat, ∃ acc : List UInt8, ∃ bl : ByteArray, i + 1 ≤ p ∧ p ≤ s.size ∧ acc.length ≤ p ∧ tt = .string bl ∧ ii = .int .i64 p ∧ Hid (bl = bsOf acc) ∧ Hid (quoP (s.toList.drop p) acc (p - i) = q)) (fun _ ii => s.size - (intOf ii).toNat)
 case atStart => exact ⟨i + 1, [], ⟨#[]⟩, Nat.le_refl _, by omega, by simp, rfl, by go_num, rfl, by show _ = _; rw [show i + 1 - i = 1 from by omega]; exact HQ.out⟩
 case round =>
   obtain ⟨p, acc, bl, hip, hp, hacc, rfl, rfl, HB, HP⟩ := hrel
   have hbls : bl.size ≤ s.size := by rw [HB.out]; show acc.length ≤ _; omega
   by_cases hlt : p < s.size
   · have hsd := toList_drop s p hlt
     rw [hsd, quoP_cons] at HP
     clear hsd
     by_cases h34 : s[p] = 34
     · rw [if_pos h34] at HP
       have t34 : ((s[p].toNat : Int) != 34) = false := by rw [h34]; rfl
       have hbs : bl.size = acc.length := by rw [HB.out]; rfl
       clear h34
       by_cases h60 : 60 < acc.length
       · have HR : Hid (q = .bad 4) := by show _ = _; rw [← HP.out, if_pos h60]
         have h60' : 60 < (bl.size : Int) := by omega
         clear HP hbs
         go_wp2_with fail
         refine bodyPost_ret (v := wdV i (.bad 4)) (by simp [results, Tryz.results77, go_sem, wdV]) rfl (WdPost.mk (by rw [HR.out]) (by (repeat (first | assumption | exact Below.refl _ _ | apply Below.drew | apply below_drewN | (refine Below.alloc ?_ (by first | exact Nat.le_refl _ | omega | (simp; done) | (simp; omega)) _)))))
       · have HR : Hid (q = .ok 3 acc (p - i + 1)) := by show _ = _; rw [← HP.out, if_neg h60]
         have h60' : ¬ 60 < (bl.size : Int) := by omega
         have hv : wdV i (.ok 3 acc (p - i + 1)) = .tuple #[.agg #[.int .i64 3, .string bl, .int .i64 i], .int .i64 ((p : Int) + 1), .int .i64 0] := by
           rw [HB.out, ← show (i : Int) + ((p - i + 1 : Nat) : Int) = (p : Int) + 1 from by omega]; rfl
         clear HP hbs
         go_wp2_with fail
         refine bodyPost_ret (v := .tuple #[.agg #[.int .i64 3, .string bl, .int .i64 i], .int .i64 ((p : Int) + 1), .int .i64 0]) (by simp [results, Tryz.results77, go_sem]) rfl (WdPost.mk (by rw [HR.out, hv]) (by (repeat (first | assumption | exact Below.refl _ _ | apply Below.drew | apply below_drewN | (refine Below.alloc ?_ (by first | exact Nat.le_refl _ | omega | (simp; done) | (simp; omega)) _)))))
     · rw [if_neg h34] at HP
       have t34 : ((s[p].toNat : Int) != 34) = true := bne_lit2 (d := 34) h34
       clear h34
       by_cases h92 : s[p] = 92
       · rw [if_pos h92] at HP
         have t92 : ((s[p].toNat : Int) == 92) = true := beq_lit h92
         clear h92
         by_cases hlt1 : p + 1 < s.size
         · rw [toList_drop s (p + 1) hlt1] at HP
           have hix := run_index_str s (p + 1) hlt1
           have hix : ∀ W, (Instr.index 9 (.string s) (.int .i64 ((p : Int) + 1))).run Tryz.prog W = .ok (.int .u8 (s[p + 1].toNat : Int)) W := hix
           have hge : ¬ (s.size : Int) ≤ (p : Int) + 1 := by omega
           by_cases hq2 : s[p + 1] = 34 ∨ s[p + 1] = 92
           · have HP2 : Hid (quoP (s.toList.drop (p + 2)) (acc ++ [s[p + 1]]) (p + 2 - i) = q) := by
               show _ = _; rw [← HP.out]; simp only; rw [if_pos hq2, show p + 2 - i = p - i + 2 from by omega]
             have HB2 : Hid (bl ++ s.extract (p + 1) (p + 2) = bsOf (acc ++ [s[p + 1]])) := by show _ = _; rw [HB.out]; exact bs_snoc acc _ s (p + 1) hlt1 rfl
             have hlo : ¬ (s[p + 1].toNat : Int) < 32 := by rcases hq2 with h | h <;> rw [h] <;> decide
             have hhi : ¬ 126 < (s[p + 1].toNat : Int) := by rcases hq2 with h | h <;> rw [h] <;> decide
             clear HP
             rcases hq2 with hq2 | hq2
             · have e34 : ((s[p + 1].toNat : Int) != 34) = false := by rw [hq2]; rfl
               clear hq2
               go_wp2_with fail
               exact ⟨⟨p + 2, acc ++ [s[p + 1]], _, by omega, by omega, by rw [List.length_append, List.length_singleton]; omega, rfl, by go_num, HB2, HP2⟩, by simp [intOf]; omega⟩
             · have e34 : ((s[p + 1].toNat : Int) != 34) = true := by rw [hq2]; rfl
               have e92 : ((s[p + 1].toNat : Int) != 92) = false := by rw [hq2]; rfl
               clear hq2
               go_wp2_with fail
               exact ⟨⟨p + 2, acc ++ [s[p + 1]], _, by omega, by omega, by rw [List.length_append, List.length_singleton]; omega, rfl, by go_num, HB2, HP2⟩, by simp [intOf]; omega⟩
           · have HR : Hid (q = .bad 1) := by show _ = _; rw [← HP.out]; simp only; rw [if_neg hq2]
             have e34 : ((s[p + 1].toNat : Int) != 34) = true := bne_lit2 (d := 34) (fun h => hq2 (.inl h))
             have e92 : ((s[p + 1].toNat : Int) != 92) = true := bne_lit2 (d := 92) (fun h => hq2 (.inr h))
             clear HP hq2
             go_wp2_with fail
             refine bodyPost_ret (v := wdV i (.bad 1)) (by simp [results, Tryz.results77, go_sem, wdV]) rfl (WdPost.mk (by rw [HR.out]) (by (repeat (first | assumption | exact Below.refl _ _ | apply Below.drew | apply below_drewN | (refine Below.alloc ?_ (by first | exact Nat.le_refl _ | omega | (simp; done) | (simp; omega)) _)))))
         · have HR : Hid (q = .bad 1) := by show _ = _; rw [← HP.out, drop_noneW s (p + 1) (by omega)]
           have hge : (s.size : Int) ≤ (p : Int) + 1 := by omega
           clear HP
           go_wp2_with fail
           refine bodyPost_ret (v := wdV i (.bad 1)) (by simp [results, Tryz.results77, go_sem, wdV]) rfl (WdPost.mk (by rw [HR.out]) (by (repeat (first | assumption | exact Below.refl _ _ | apply Below.drew | apply below_drewN | (refine Below.alloc ?_ (by first | exact Nat.le_refl _ | omega | (simp; done) | (simp; omega)) _)))))
       · rw [if_neg h92] at HP
         have t92 : ((s[p].toNat : Int) == 92) = false := bne_lit h92
         clear h92
         by_cases hlo : (s[p].toNat : Int) < 32
         · have HR : Hid (q = .bad 1) := by show _ = _; rw [← HP.out, if_neg (by simp [plainB]; omega)]
           clear HP
           go_wp2_with fail
           refine bodyPost_ret (v := wdV i (.bad 1)) (by simp [results, Tryz.results77, go_sem, wdV]) rfl (WdPost.mk (by rw [HR.out]) (by (repeat (first | assumption | exact Below.refl _ _ | apply Below.drew | apply below_drewN | (refine Below.alloc ?_ (by first | exact Nat.le_refl _ | omega | (simp; done) | (simp; omega)) _)))))
         · by_cases hhi : 126 < (s[p].toNat : Int)
           · have HR : Hid (q = .bad 1) := by show _ = _; rw [← HP.out, if_neg (by simp [plainB]; omega)]
             clear HP
             go_wp2_with fail
             refine bodyPost_ret (v := wdV i (.bad 1)) (by simp [results, Tryz.results77, go_sem, wdV]) rfl (WdPost.mk (by rw [HR.out]) (by (repeat (first | assumption | exact Below.refl _ _ | apply Below.drew | apply below_drewN | (refine Below.alloc ?_ (by first | exact Nat.le_refl _ | omega | (simp; done) | (simp; omega)) _)))))
           · have HP2 : Hid (quoP (s.toList.drop (p + 1)) (acc ++ [s[p]]) (p + 1 - i) = q) := by
               show _ = _; rw [← HP.out, if_pos (by simp [plainB]; omega), show p + 1 - i = p - i + 1 from by omega]
             have HB2 : Hid (bl ++ s.extract p (p + 1) = bsOf (acc ++ [s[p]])) := by show _ = _; rw [HB.out]; exact bs_snoc acc _ s p hlt rfl
             clear HP
             go_wp2_with fail
             exact ⟨⟨p + 1, acc ++ [s[p]], _, by omega, by omega, by rw [List.length_append, List.length_singleton]; omega, rfl, by go_num, HB2, HP2⟩, by simp [intOf]; omega⟩
   · have HR : Hid (q = .bad 1) := by show _ = _; rw [← HP.out, drop_noneW s p (by omega)]; rfl
     clear HP
     go_wp2_with fail
     refine bodyPost_ret (v := wdV i (.bad 1)) (by simp [results, Tryz.results77, go_sem, wdV]) rfl (WdPost.mk (by rw [HR.out]) (by (repeat (first | assumption | exact Below.refl _ _ | apply Below.drew | apply below_drewN | (refine Below.alloc ?_ (by first | exact Nat.le_refl _ | omega | (simp; done) | (simp; omega)) _)))))
end Go.Proofs.YtbggbcnfkcadjaaGreatDoor
namespace Go.Proofs.YtbggbcnfkcadjaaGreatDoor
open Go.RowKit
theorem num_trim {D : List UInt8} {k : Nat} (hk : k < D.length) (hz : ∀ j, j < k → D[j]? = some 48) (he : k + 1 = D.length ∨ D[k]? ≠ some 48) :
   D.drop k = (if D.dropWhile (· == 48) = [] then [48] else D.dropWhile (· == 48)) ∧ (19 < D.length - k ↔ 19 < (D.dropWhile (· == 48)).length) := by
 have h1 : D.dropWhile (· == 48) = (D.drop k).dropWhile (· == 48) := by
   clear he
   induction k generalizing D with
   | zero => rfl
   | succ k ih =>
     cases D with
     | nil => simp at hk
     | cons d r =>
       have h0 := hz 0 (by omega)
       simp at h0
       subst h0
       rw [List.dropWhile_cons_of_pos (by simp), List.drop_succ_cons]
       exact ih (by simpa using hk) (fun j hj => by have := hz (j + 1) (by omega); simpa using this)
 have hd : D.drop k = D[k] :: D.drop (k + 1) := List.drop_eq_getElem_cons hk
 by_cases h48 : D[k] = 48
 · have hl : k + 1 = D.length := by
     rcases he with h | h
     · exact h
     · exact absurd (by rw [List.getElem?_eq_getElem hk, h48]) h
   have hn : D.drop (k + 1) = [] := List.drop_eq_nil_of_le (by omega)
   rw [h1, hd, hn, h48]
   refine ⟨by simp, ?_⟩
   simp
   omega
 · have h2 : (D.drop k).dropWhile (· == 48) = D.drop k := by rw [hd, List.dropWhile_cons_of_neg (by simpa using h48)]
   rw [h1, h2, if_neg (by rw [hd]; exact List.cons_ne_nil _ _)]
   exact ⟨rfl, by rw [List.length_drop]⟩
def sgR : List (List UInt8) := [[40], [41], [91], [93], [123], [125], [44], [58], [46], [58, 58], [61, 61], [60], [60, 61], [38, 38], [124, 124], [33], [43], [45], [42]]
def sgB (l : List UInt8) (f x : List UInt8) : List UInt8 := if x.isPrefixOf l = true ∧ f.length < x.length then x else f
theorem sgR_step {k : Nat} {x : List UInt8} (hx : sgR[k]? = some x) (l : List UInt8) : (sgR.take (k + 1)).foldl (sgB l) [] = sgB l ((sgR.take k).foldl (sgB l) []) x := by
 rw [List.take_add_one, hx, List.foldl_append]; rfl
theorem preA (x a : UInt8) (r : List UInt8) : List.isPrefixOf [x] (a :: r) = (x == a) := by simp [List.isPrefixOf]
theorem preB (x y a : UInt8) (r : List UInt8) : List.isPrefixOf [x, y] (a :: r) = (x == a && r.head? == some y) := by
 cases r with
 | nil => simp [List.isPrefixOf]
 | cons b r =>
   simp only [List.isPrefixOf, List.head?_cons, Bool.and_true, Option.some_beq_some]
   congr 1
   exact BEq.comm
theorem sgR_all (l : List UInt8) : sgR.foldl (sgB l) [] = signP l := by
 cases l with
 | nil => rfl
 | cons a r =>
   rw [signP_cons]
   by_cases h1 : sign1 a = true
   · rw [if_pos h1]
     unfold sign1 at h1
     simp only [Bool.or_eq_true, beq_iff_eq, or_assoc] at h1
     rcases h1 with rfl | rfl | rfl | rfl | rfl | rfl | rfl | rfl | rfl | rfl | rfl | rfl <;> simp [sgR, sgB, preA, preB]
   · rw [if_neg h1]
     by_cases h2 : a = 58
     · subst h2
       rw [if_pos rfl]
       cases hb : (r.head? == some 58) <;> simp only [sgR, sgB, List.foldl, preA, preB, hb] <;> simp at hb <;> simp [hb]
     · rw [if_neg h2]
       by_cases h3 : a = 60
       · subst h3
         rw [if_pos rfl]
         cases hb : (r.head? == some 61) <;> simp only [sgR, sgB, List.foldl, preA, preB, hb] <;> simp at hb <;> simp [hb]
       · rw [if_neg h3]
         unfold sign1 at h1
         simp only [Bool.or_eq_true, beq_iff_eq, not_or] at h1
         obtain ⟨⟨⟨⟨⟨⟨⟨⟨⟨⟨⟨n1, n2⟩, n3⟩, n4⟩, n5⟩, n6⟩, n7⟩, n8⟩, n9⟩, n10⟩, n11⟩, n12⟩ := h1
         have e : ∀ x : UInt8, a ≠ x → (x == a) = false := fun x h => by simpa using Ne.symm h
         by_cases h4 : a = 61
         · subst h4; cases hb : (r.head? == some 61) <;> simp only [sgR, sgB, List.foldl, preA, preB, hb] <;> simp at hb <;> simp [hb]
         · by_cases h5 : a = 38
           · subst h5; cases hb : (r.head? == some 38) <;> simp only [sgR, sgB, List.foldl, preA, preB, hb] <;> simp at hb <;> simp [hb]
           · by_cases h6 : a = 124
             · subst h6; cases hb : (r.head? == some 124) <;> simp only [sgR, sgB, List.foldl, preA, preB, hb] <;> simp at hb <;> simp [hb]
             · rw [if_neg (by rintro ⟨h | h | h, _⟩; exact h4 h; exact h5 h; exact h6 h)]
               simp [sgR, sgB, preA, preB, e _ n1, e _ n2, e _ n3, e _ n4, e _ n5, e _ n6, e _ n7, e _ n8, e _ n9, e _ n10, e _ n11, e _ n12, e _ h2, e _ h3, e _ h4, e _ h5, e _ h6]
end Go.Proofs.YtbggbcnfkcadjaaGreatDoor
namespace Go.Proofs.YtbggbcnfkcadjaaGreatDoor
open Go.RowKit
theorem wdV_ok {i j n : Nat} {k : Int} {x : ByteArray} {T : List UInt8} (hx : x = bsOf T) (hj : j = i + n) : Ending.returned (.tuple #[.agg #[.int .i64 k, .string x, .int .i64 i], .int .i64 j, .int .i64 0]) = Ending.returned (wdV i (.ok k T n)) := by
 subst hx hj; rfl
theorem span_take (p : UInt8 → Bool) (l : List UInt8) : l.takeWhile p = l.take (l.takeWhile p).length := List.prefix_iff_eq_take.1 (List.takeWhile_prefix p)
theorem span_slice (p : UInt8 → Bool) (s : ByteArray) {i f j : Nat} (hj : j = i + ((s.toList.drop i).takeWhile p).length) (hf : i ≤ f) (hfj : f ≤ j) : (s.extract f j).toList = ((s.toList.drop i).takeWhile p).drop (f - i) := by
 rw [ByteArray.toList_eq, Lib.extract_data, ← ByteArray.toList_eq, span_take p (s.toList.drop i), List.drop_take, List.drop_drop, show i + (f - i) = f from by omega]
 congr 1; omega
theorem span_get (p : UInt8 → Bool) (s : ByteArray) {i m : Nat} (hm : m < ((s.toList.drop i).takeWhile p).length) : ((s.toList.drop i).takeWhile p)[m]? = s.toList[i + m]? := by
 rw [span_take p (s.toList.drop i), List.getElem?_take, if_pos hm, List.getElem?_drop]
set_option maxRecDepth 100000 in
set_option maxHeartbeats 3200000 in
theorem r2_Word_num (s : ByteArray) (i : Nat) (w : World) (hs : s.size ≤ 140737488351232) (hi : i < s.size) (hd : digitI (s[i].toNat : Int) = true) :
   Calls Tryz.prog 37 #[.string s, .int .i64 i] w (WdPost w i (wordP (s.toList.drop i))) := by
 obtain ⟨q, hq⟩ : ∃ q, wordP (s.toList.drop i) = q := ⟨_, rfl⟩
 rw [hq]
 have hpos : 1 ≤ ((s.toList.drop i).takeWhile digB).length := by rw [toList_drop s i hi]; exact takeWhile_pos hd
 rw [toList_drop s i hi, wordP_num hd, ← toList_drop s i hi] at hq
 unfold numP at hq
 have hrl : runL digitI s i = i + ((s.toList.drop i).takeWhile digB).length := rfl
 have hrle := runL_le digitI s (Nat.le_of_lt hi)
 have HRUN := Lib.hid (fun W => r2_run_digits s i W hs (Nat.le_of_lt hi))
 generalize runL digitI s i = j at hrl hrle HRUN
 have hij : i + 1 ≤ j := by omega
 have HJ := Lib.hid hrl
 have HQ := Lib.hid hq
 clear hq hrl hpos
 go_enter Tryz.func37, Tryz.ntmps37
 go_wp2_with (go_at_call 74; refine (r2_isDigit _ _).mono ?_; rintro e w' ⟨rfl, rfl⟩)
 refine Calls.mono (HRUN.out _) ?_
 rintro r w1 ⟨rfl, rfl⟩
 go_wp2_with fail
 go_loop [9] (fun tt => ∃ f : Nat, i ≤ f ∧ f + 1 ≤ j ∧ tt = .int .i64 f ∧ Hid (∀ x, i ≤ x → x < f → s.toList[x]? = some 48)) (fun tt => j - (intOf tt).toNat)
 case atStart => exact ⟨i, Nat.le_refl _, hij, rfl, fun x h1 h2 => by omega⟩
 case round =>
   obtain ⟨f, hif, hfj, rfl, HZ⟩ := hrel
   have hfs : f < s.size := by omega
   have hgo : (f + 1 = j ∨ ¬ s[f] = 48) → Hid (s.extract f j = bsOf (if ((s.toList.drop i).takeWhile digB).dropWhile (· == 48) = [] then [48] else ((s.toList.drop i).takeWhile digB).dropWhile (· == 48)) ∧ (19 < j - f ↔ 19 < (((s.toList.drop i).takeWhile digB).dropWhile (· == 48)).length)) := fun he => by
     have hJ := HJ.out
     have hl : f - i < ((s.toList.drop i).takeWhile digB).length := by omega
     have hn := num_trim hl (fun m hm => by rw [span_get digB s (by omega)]; exact HZ.out (i + m) (by omega) (by omega)) (by
       rcases he with h | h
       · left; omega
       · right
         rw [span_get digB s hl, show i + (f - i) = f from by omega, toList_get s f hfs]
         intro hh; injection hh with hh; exact h hh)
     refine ⟨bs_eq ?_, ?_⟩
     · rw [span_slice digB s hJ hif (by omega), hn.1]
     · rw [← hn.2]; omega
   by_cases hlt : f + 1 < j
   · by_cases h48 : s[f] = 48
     · have t48 : ((s[f].toNat : Int) == 48) = true := beq_lit h48
       have hfi : (f : Int) < (j : Int) - 1 := by omega
       have HZ2 : Hid (∀ x, i ≤ x → x < f + 1 → s.toList[x]? = some 48) := fun x h1 h2 => by
         rcases Nat.lt_or_ge x f with h | h
         · exact HZ.out x h1 h
         · have : x = f := by omega
           subst this
           rw [toList_get s x hfs, h48]
       clear h48 hgo
       go_wp2_with fail
       go_round
       case rel => exact ⟨f + 1, by omega, by omega, by go_num, HZ2⟩
       case measure => simp [intOf]; omega
     · have t48 : ((s[f].toNat : Int) == 48) = false := bne_lit h48
       have hfi : (f : Int) < (j : Int) - 1 := by omega
       have HG := hgo (.inr h48)
       clear h48 hgo
       by_cases h19 : 19 < j - f
       · have h19' : 19 < (j : Int) - (f : Int) := by omega
         have HR : Hid (q = .bad 4) := by show _ = _; rw [← HQ.out, if_pos (HG.out.2.1 h19)]
         clear h19 HQ HG
         go_wp2_with fail
         refine bodyPost_ret (v := wdV i (.bad 4)) (by simp [results, Tryz.results37, go_sem, wdV]) rfl (WdPost.mk (by rw [HR.out]) (by (repeat (first | assumption | exact Below.refl _ _ | apply Below.drew | apply below_drewN | (refine Below.alloc ?_ (by first | exact Nat.le_refl _ | omega | (simp; done) | (simp; omega)) _)))))
       · have h19' : ¬ 19 < (j : Int) - (f : Int) := by omega
         have HR : Hid (Ending.returned (.tuple #[.agg #[.int .i64 2, .string (s.extract f j), .int .i64 i], .int .i64 j, .int .i64 0]) = Ending.returned (wdV i q)) := by
           show _ = _
           rw [← HQ.out, if_neg (fun h => h19 (HG.out.2.2 h))]; exact wdV_ok HG.out.1 HJ.out
         clear h19 HQ HG
         go_wp2_with fail
         refine bodyPost_ret (v := .tuple #[.agg #[.int .i64 2, .string (s.extract f j), .int .i64 i], .int .i64 j, .int .i64 0]) (by simp [results, Tryz.results37, go_sem]) rfl (WdPost.mk HR.out (by (repeat (first | assumption | exact Below.refl _ _ | apply Below.drew | apply below_drewN | (refine Below.alloc ?_ (by first | exact Nat.le_refl _ | omega | (simp; done) | (simp; omega)) _)))))
   · have hfi : ¬ (f : Int) < (j : Int) - 1 := by omega
     have HG := hgo (.inl (by omega))
     clear hgo
     by_cases h19 : 19 < j - f
     · exfalso; omega
     · have h19' : ¬ 19 < (j : Int) - (f : Int) := by omega
       have HR : Hid (Ending.returned (.tuple #[.agg #[.int .i64 2, .string (s.extract f j), .int .i64 i], .int .i64 j, .int .i64 0]) = Ending.returned (wdV i q)) := by
         show _ = _
         rw [← HQ.out, if_neg (fun h => h19 (HG.out.2.2 h))]; exact wdV_ok HG.out.1 HJ.out
       clear h19 HQ HG
       go_wp2_with fail
       refine bodyPost_ret (v := .tuple #[.agg #[.int .i64 2, .string (s.extract f j), .int .i64 i], .int .i64 j, .int .i64 0]) (by simp [results, Tryz.results37, go_sem]) rfl (WdPost.mk HR.out (by (repeat (first | assumption | exact Below.refl _ _ | apply Below.drew | apply below_drewN | (refine Below.alloc ?_ (by first | exact Nat.le_refl _ | omega | (simp; done) | (simp; omega)) _)))))
end Go.Proofs.YtbggbcnfkcadjaaGreatDoor
namespace Go.Proofs.YtbggbcnfkcadjaaGreatDoor
open Go.RowKit
set_option maxRecDepth 100000 in
set_option maxHeartbeats 3200000 in
theorem r2_Word_name (s : ByteArray) (i : Nat) (w : World) (hs : s.size ≤ 140737488351232) (hi : i < s.size) (hd : digitI (s[i].toNat : Int) = false) (hl : letterI (s[i].toNat : Int) = true) :
   Calls Tryz.prog 37 #[.string s, .int .i64 i] w (WdPost w i (wordP (s.toList.drop i))) := by
 have hq : wordP (s.toList.drop i) = namedP 1 (s.toList.drop i) 0 := by rw [toList_drop s i hi]; exact wordP_name hd hl
 rw [hq]
 have h63 : ((s[i].toNat : Int) == 63) = false := by
   rw [Bool.eq_false_iff]
   intro h
   rw [eq_of_beq h] at hl
   exact absurd hl (by decide)
 have hrl : runL nameI s i = i + ((s.toList.drop i).takeWhile nameB).length := rfl
 have hrle := runL_le nameI s (Nat.le_of_lt hi)
 have hsp : (s.extract i (runL nameI s i)).toList = (s.toList.drop i).takeWhile nameB := runL_span nameI s i
 have hbq : s.extract i (runL nameI s i) = bsOf ((s.toList.drop i).takeWhile nameB) := span_bs nameI s i
 have HRUN := Lib.hid (fun W => r2_run_name s i W hs (Nat.le_of_lt hi))
 have hxs : (s.extract i (runL nameI s i)).size ≤ 140737488351232 := by rw [ByteArray.size_extract]; omega
 have HNF := Lib.hid (fun W => r1_NameFault (s.extract i (runL nameI s i)) W hxs)
 rw [hsp] at HNF
 have hrge := runL_ge nameI s i
 unfold namedP
 generalize runL nameI s i = j at hrl hrle HRUN HNF hbq hrge
 have HBQ := Lib.hid hbq
 have HJ := Lib.hid hrl
 clear hq hsp hbq hrl hxs
 generalize hk : nameErr ((s.toList.drop i).takeWhile nameB) = k at HNF ⊢
 clear hk
 by_cases h0 : k = 0
 · rw [if_pos h0]
   have hv : Hid (Ending.returned (.tuple #[.agg #[.int .i64 1, .string (s.extract i j), .int .i64 i], .int .i64 j, .int .i64 0]) = Ending.returned (wdV i (.ok 1 ((s.toList.drop i).takeWhile nameB) (((s.toList.drop i).takeWhile nameB).length + 0)))) := by
     show _ = _
     exact wdV_ok HBQ.out (by have := HJ.out; omega)
   have hk0 : (k != 0) = false := by simp [h0]
   clear h0
   go_enter Tryz.func37, Tryz.ntmps37
   go_wp2_with (first | (go_at_call 74; refine (r2_isDigit _ _).mono ?_; rintro e w' ⟨rfl, rfl⟩) | (go_at_call 76; refine (r2_isLetter _ _).mono ?_; rintro e w' ⟨rfl, rfl⟩))
   refine Calls.mono (HRUN.out _) ?_
   rintro r w1 ⟨rfl, rfl⟩
   go_wp2_with fail
   refine Calls.mono (HNF.out _) ?_
   rintro r w2 ⟨rfl, rfl⟩
   go_wp2_with fail
   refine bodyPost_ret (v := .tuple #[.agg #[.int .i64 1, .string (s.extract i j), .int .i64 i], .int .i64 j, .int .i64 0]) (by simp [results, Tryz.results37, go_sem]) rfl (WdPost.mk hv.out (by (repeat (first | assumption | exact Below.refl _ _ | apply Below.drew | apply below_drewN | (refine Below.alloc ?_ (by first | exact Nat.le_refl _ | omega | (simp; done) | (simp; omega)) _)))))
 · rw [if_neg h0]
   have hk0 : (k != 0) = true := by simp [h0]
   clear h0
   go_enter Tryz.func37, Tryz.ntmps37
   go_wp2_with (first | (go_at_call 74; refine (r2_isDigit _ _).mono ?_; rintro e w' ⟨rfl, rfl⟩) | (go_at_call 76; refine (r2_isLetter _ _).mono ?_; rintro e w' ⟨rfl, rfl⟩))
   refine Calls.mono (HRUN.out _) ?_
   rintro r w1 ⟨rfl, rfl⟩
   go_wp2_with fail
   refine Calls.mono (HNF.out _) ?_
   rintro r w2 ⟨rfl, rfl⟩
   go_wp2_with fail
   refine bodyPost_ret (v := wdV i (.bad k)) (by simp [results, Tryz.results37, go_sem, wdV]) rfl (WdPost.mk rfl (by (repeat (first | assumption | exact Below.refl _ _ | apply Below.drew | apply below_drewN | (refine Below.alloc ?_ (by first | exact Nat.le_refl _ | omega | (simp; done) | (simp; omega)) _)))))
set_option maxRecDepth 100000 in
set_option maxHeartbeats 3200000 in
theorem r2_Word_slot (s : ByteArray) (i : Nat) (w : World) (hs : s.size ≤ 140737488351232) (hi : i < s.size) (hd : digitI (s[i].toNat : Int) = false) (hl : letterI (s[i].toNat : Int) = false) (h34 : ¬ s[i] = 34) (h63' : s[i] = 63) :
   Calls Tryz.prog 37 #[.string s, .int .i64 i] w (WdPost w i (wordP (s.toList.drop i))) := by
 have hq : wordP (s.toList.drop i) = namedP 4 (s.toList.drop (i + 1)) 1 := by rw [toList_drop s i hi]; exact wordP_slot hd hl h34 h63'
 rw [hq]
 have h63 : ((s[i].toNat : Int) == 63) = true := beq_lit h63'
 clear h34 h63'
 have hrl : runL nameI s (i + 1) = i + 1 + ((s.toList.drop (i + 1)).takeWhile nameB).length := rfl
 have hrle := runL_le nameI s (show i + 1 ≤ s.size from hi)
 have hsp : (s.extract (i + 1) (runL nameI s (i + 1))).toList = (s.toList.drop (i + 1)).takeWhile nameB := runL_span nameI s (i + 1)
 have hbq : s.extract (i + 1) (runL nameI s (i + 1)) = bsOf ((s.toList.drop (i + 1)).takeWhile nameB) := span_bs nameI s (i + 1)
 have HRUN := Lib.hid (fun W => r2_run_name s (i + 1) W hs hi)
 have hxs : (s.extract (i + 1) (runL nameI s (i + 1))).size ≤ 140737488351232 := by rw [ByteArray.size_extract]; omega
 have HNF := Lib.hid (fun W => r1_NameFault (s.extract (i + 1) (runL nameI s (i + 1))) W hxs)
 rw [hsp] at HNF
 have hrge := runL_ge nameI s (i + 1)
 unfold namedP
 generalize runL nameI s (i + 1) = j at hrl hrle HRUN HNF hbq hrge
 have HBQ := Lib.hid hbq
 have HJ := Lib.hid hrl
 clear hq hsp hbq hrl hxs
 generalize hk : nameErr ((s.toList.drop (i + 1)).takeWhile nameB) = k at HNF ⊢
 clear hk
 by_cases h0 : k = 0
 · rw [if_pos h0]
   have hv : Hid (Ending.returned (.tuple #[.agg #[.int .i64 4, .string (s.extract (i + 1) j), .int .i64 i], .int .i64 j, .int .i64 0]) = Ending.returned (wdV i (.ok 4 ((s.toList.drop (i + 1)).takeWhile nameB) (((s.toList.drop (i + 1)).takeWhile nameB).length + 1)))) := by
     show _ = _
     exact wdV_ok HBQ.out (by have := HJ.out; omega)
   have hk0 : (k != 0) = false := by simp [h0]
   clear h0
   go_enter Tryz.func37, Tryz.ntmps37
   go_wp2_with (first | (go_at_call 74; refine (r2_isDigit _ _).mono ?_; rintro e w' ⟨rfl, rfl⟩) | (go_at_call 76; refine (r2_isLetter _ _).mono ?_; rintro e w' ⟨rfl, rfl⟩))
   refine Calls.mono (HRUN.out _) ?_
   rintro r w1 ⟨rfl, rfl⟩
   go_wp2_with fail
   refine Calls.mono (HNF.out _) ?_
   rintro r w2 ⟨rfl, rfl⟩
   go_wp2_with fail
   refine bodyPost_ret (v := .tuple #[.agg #[.int .i64 4, .string (s.extract (i + 1) j), .int .i64 i], .int .i64 j, .int .i64 0]) (by simp [results, Tryz.results37, go_sem]) rfl (WdPost.mk hv.out (by (repeat (first | assumption | exact Below.refl _ _ | apply Below.drew | apply below_drewN | (refine Below.alloc ?_ (by first | exact Nat.le_refl _ | omega | (simp; done) | (simp; omega)) _)))))
 · rw [if_neg h0]
   have hk0 : (k != 0) = true := by simp [h0]
   clear h0
   go_enter Tryz.func37, Tryz.ntmps37
   go_wp2_with (first | (go_at_call 74; refine (r2_isDigit _ _).mono ?_; rintro e w' ⟨rfl, rfl⟩) | (go_at_call 76; refine (r2_isLetter _ _).mono ?_; rintro e w' ⟨rfl, rfl⟩))
   refine Calls.mono (HRUN.out _) ?_
   rintro r w1 ⟨rfl, rfl⟩
   go_wp2_with fail
   refine Calls.mono (HNF.out _) ?_
   rintro r w2 ⟨rfl, rfl⟩
   go_wp2_with fail
   refine bodyPost_ret (v := wdV i (.bad k)) (by simp [results, Tryz.results37, go_sem, wdV]) rfl (WdPost.mk rfl (by (repeat (first | assumption | exact Below.refl _ _ | apply Below.drew | apply below_drewN | (refine Below.alloc ?_ (by first | exact Nat.le_refl _ | omega | (simp; done) | (simp; omega)) _)))))
set_option maxRecDepth 100000 in
set_option maxHeartbeats 3200000 in
theorem r2_Word_quo (s : ByteArray) (i : Nat) (w : World) (hs : s.size ≤ 140737488351232) (hi : i < s.size) (hd : digitI (s[i].toNat : Int) = false) (hl : letterI (s[i].toNat : Int) = false) (h34' : s[i] = 34) :
   Calls Tryz.prog 37 #[.string s, .int .i64 i] w (WdPost w i (wordP (s.toList.drop i))) := by
 have hq : wordP (s.toList.drop i) = quoP (s.toList.drop (i + 1)) [] 1 := by rw [toList_drop s i hi]; exact wordP_quo hd hl h34'
 rw [hq]
 have h34 : ((s[i].toNat : Int) == 34) = true := beq_lit h34'
 have h63 : ((s[i].toNat : Int) == 63) = false := by rw [h34']; rfl
 have HQ := Lib.hid (fun W => r2_quoted s i W hs hi)
 clear hq h34'
 cases hqq : quoP (s.toList.drop (i + 1)) [] 1 with
 | bad k =>
   rw [hqq] at HQ
   clear hqq
   go_enter Tryz.func37, Tryz.ntmps37
   go_wp2_with (first | (go_at_call 74; refine (r2_isDigit _ _).mono ?_; rintro e w' ⟨rfl, rfl⟩) | (go_at_call 76; refine (r2_isLetter _ _).mono ?_; rintro e w' ⟨rfl, rfl⟩))
   refine Calls.mono (HQ.out _) ?_
   rintro r w2 ⟨he, hb2⟩
   have he : r = .returned (.tuple #[.agg #[.int .i64 0, .string ⟨#[]⟩, .int .i64 0], .int .i64 0, .int .i64 k]) := he
   subst he
   have hz : w.heap.size < w2.heap.size := by have := hb2.size; simp at this; omega
   have hbk : Blk w2 w.heap.size 42 #[.int .i64 0, .string ⟨#[]⟩, .int .i64 0] := (Blk.new w 42 _).below hb2 (by simp)
   have hk := hbk.cell
   have hf := hbk.frozen
   have hw2 : Below w.heap.size w w2 := ((Below.refl _ _).alloc (Nat.le_refl _) _).trans (hb2.mono (by simp))
   clear hb2
   go_wp2_with fail
   refine bodyPost_ret (v := wdV i (.bad k)) (by simp [results, Tryz.results37, go_sem, wdV, hk]) rfl (WdPost.mk rfl (((hw2.setCell (p := ⟨w.heap.size, 0, none⟩) (Nat.le_refl _) _).setCell (p := ⟨w.heap.size, 1, none⟩) (Nat.le_refl _) _).setCell (p := ⟨w.heap.size, 2, none⟩) (Nat.le_refl _) _))
 | ok kind t n =>
   rw [hqq] at HQ
   clear hqq
   go_enter Tryz.func37, Tryz.ntmps37
   go_wp2_with (first | (go_at_call 74; refine (r2_isDigit _ _).mono ?_; rintro e w' ⟨rfl, rfl⟩) | (go_at_call 76; refine (r2_isLetter _ _).mono ?_; rintro e w' ⟨rfl, rfl⟩))
   refine Calls.mono (HQ.out _) ?_
   rintro r w2 ⟨he, hb2⟩
   have he : r = .returned (.tuple #[.agg #[.int .i64 kind, .string (bsOf t), .int .i64 i], .int .i64 ((i : Int) + n), .int .i64 0]) := he
   subst he
   have hz : w.heap.size < w2.heap.size := by have := hb2.size; simp at this; omega
   have hbk : Blk w2 w.heap.size 42 #[.int .i64 0, .string ⟨#[]⟩, .int .i64 0] := (Blk.new w 42 _).below hb2 (by simp)
   have hk := hbk.cell
   have hf := hbk.frozen
   have hw2 : Below w.heap.size w w2 := ((Below.refl _ _).alloc (Nat.le_refl _) _).trans (hb2.mono (by simp))
   clear hb2
   go_wp2_with fail
   refine bodyPost_ret (v := .tuple #[.agg #[.int .i64 kind, .string (bsOf t), .int .i64 i], .int .i64 ((i : Int) + n), .int .i64 0]) (by simp [results, Tryz.results37, go_sem, hk]) rfl (WdPost.mk rfl (((hw2.setCell (p := ⟨w.heap.size, 0, none⟩) (Nat.le_refl _) _).setCell (p := ⟨w.heap.size, 1, none⟩) (Nat.le_refl _) _).setCell (p := ⟨w.heap.size, 2, none⟩) (Nat.le_refl _) _))
end Go.Proofs.YtbggbcnfkcadjaaGreatDoor
namespace Go.Proofs.YtbggbcnfkcadjaaGreatDoor
open Go.RowKit
theorem sgx (k : Nat) (hk : k < 19) : ∃ (x2 : ByteArray) (c : UInt8) (x : List UInt8), ByteArray.extract ⟨#[40, 32, 32, 41, 32, 32, 91, 32, 32, 93, 32, 32, 123, 32, 32, 125, 32, 32, 44, 32, 32, 58, 32, 32, 46, 32, 32, 58, 58, 32, 61, 61, 32, 60, 32, 32, 60, 61, 32, 38, 38, 32, 124, 124, 32, 33, 32, 32, 43, 32, 32, 45, 32, 32, 42, 32, 32]⟩ (3 * k) (3 * k + 2) = x2 ∧ x2.size = 2 ∧ x2.toList[1]? = some c ∧ sgR[k]? = some x ∧ (c = 32 → x2.extract 0 1 = bsOf x) ∧ (c ≠ 32 → x2 = bsOf x) := by
 have key : ∀ (a b : UInt8), (⟨#[a, b]⟩ : ByteArray).toList[1]? = some b := fun a b => by rw [ByteArray.toList_mk]; rfl
 match k, hk with
 | 0, _ => exact ⟨⟨#[40, 32]⟩, 32, [40], rfl, rfl, key _ _, rfl, fun _ => rfl, fun h => absurd rfl h⟩
 | 1, _ => exact ⟨⟨#[41, 32]⟩, 32, [41], rfl, rfl, key _ _, rfl, fun _ => rfl, fun h => absurd rfl h⟩
 | 2, _ => exact ⟨⟨#[91, 32]⟩, 32, [91], rfl, rfl, key _ _, rfl, fun _ => rfl, fun h => absurd rfl h⟩
 | 3, _ => exact ⟨⟨#[93, 32]⟩, 32, [93], rfl, rfl, key _ _, rfl, fun _ => rfl, fun h => absurd rfl h⟩
 | 4, _ => exact ⟨⟨#[123, 32]⟩, 32, [123], rfl, rfl, key _ _, rfl, fun _ => rfl, fun h => absurd rfl h⟩
 | 5, _ => exact ⟨⟨#[125, 32]⟩, 32, [125], rfl, rfl, key _ _, rfl, fun _ => rfl, fun h => absurd rfl h⟩
 | 6, _ => exact ⟨⟨#[44, 32]⟩, 32, [44], rfl, rfl, key _ _, rfl, fun _ => rfl, fun h => absurd rfl h⟩
 | 7, _ => exact ⟨⟨#[58, 32]⟩, 32, [58], rfl, rfl, key _ _, rfl, fun _ => rfl, fun h => absurd rfl h⟩
 | 8, _ => exact ⟨⟨#[46, 32]⟩, 32, [46], rfl, rfl, key _ _, rfl, fun _ => rfl, fun h => absurd rfl h⟩
 | 9, _ => exact ⟨⟨#[58, 58]⟩, 58, [58, 58], rfl, rfl, key _ _, rfl, fun h => absurd h (by decide), fun _ => rfl⟩
 | 10, _ => exact ⟨⟨#[61, 61]⟩, 61, [61, 61], rfl, rfl, key _ _, rfl, fun h => absurd h (by decide), fun _ => rfl⟩
 | 11, _ => exact ⟨⟨#[60, 32]⟩, 32, [60], rfl, rfl, key _ _, rfl, fun _ => rfl, fun h => absurd rfl h⟩
 | 12, _ => exact ⟨⟨#[60, 61]⟩, 61, [60, 61], rfl, rfl, key _ _, rfl, fun h => absurd h (by decide), fun _ => rfl⟩
 | 13, _ => exact ⟨⟨#[38, 38]⟩, 38, [38, 38], rfl, rfl, key _ _, rfl, fun h => absurd h (by decide), fun _ => rfl⟩
 | 14, _ => exact ⟨⟨#[124, 124]⟩, 124, [124, 124], rfl, rfl, key _ _, rfl, fun h => absurd h (by decide), fun _ => rfl⟩
 | 15, _ => exact ⟨⟨#[33, 32]⟩, 32, [33], rfl, rfl, key _ _, rfl, fun _ => rfl, fun h => absurd rfl h⟩
 | 16, _ => exact ⟨⟨#[43, 32]⟩, 32, [43], rfl, rfl, key _ _, rfl, fun _ => rfl, fun h => absurd rfl h⟩
 | 17, _ => exact ⟨⟨#[45, 32]⟩, 32, [45], rfl, rfl, key _ _, rfl, fun _ => rfl, fun h => absurd rfl h⟩
 | 18, _ => exact ⟨⟨#[42, 32]⟩, 32, [42], rfl, rfl, key _ _, rfl, fun _ => rfl, fun h => absurd rfl h⟩
 | k + 19, h => omega
set_option maxRecDepth 100000 in
set_option maxHeartbeats 6400000 in
theorem r2_Word_sign (s : ByteArray) (i : Nat) (w : World) (hs : s.size ≤ 140737488351232) (hi : i < s.size) (hd : digitI (s[i].toNat : Int) = false) (hl : letterI (s[i].toNat : Int) = false) (h34' : ¬ s[i] = 34) (h63' : ¬ s[i] = 63) :
   Calls Tryz.prog 37 #[.string s, .int .i64 i] w (WdPost w i (wordP (s.toList.drop i))) := by
 have hq : wordP (s.toList.drop i) = if signP (s.toList.drop i) = [] then .bad 1 else .ok 5 (signP (s.toList.drop i)) (signP (s.toList.drop i)).length := by rw [toList_drop s i hi]; exact wordP_sign hd hl h34' h63'
 rw [hq]
 have h34 : ((s[i].toNat : Int) == 34) = false := bne_lit h34'
 have h63 : ((s[i].toNat : Int) == 63) = false := bne_lit h63'
 have HALL := Lib.hid (sgR_all (s.toList.drop i))
 have HBG := Lib.hid (fun x W (hx : x.size ≤ 140737488351232) => r2_begins s i x W hs (Nat.le_of_lt hi) hx)
 clear hq h34' h63'
 generalize s.toList.drop i = l at HALL HBG ⊢
 generalize signP l = L at HALL ⊢
 obtain ⟨q, hq⟩ : ∃ q, (if L = [] then Wd.bad 1 else .ok 5 L L.length) = q := ⟨_, rfl⟩
 rw [hq]
 have HQ := Lib.hid hq
 clear hq
 go_enter Tryz.func37, Tryz.ntmps37
 go_wp2_with (first | (go_at_call 74; refine (r2_isDigit _ _).mono ?_; rintro e w' ⟨rfl, rfl⟩) | (go_at_call 76; refine (r2_isLetter _ _).mono ?_; rintro e w' ⟨rfl, rfl⟩))
 go_loopw [15, 16] (fun ff ii wr => ∃ k j : Nat, ∃ fb : ByteArray, k ≤ 19 ∧ Hid (j = 3 * k) ∧ ii = .int .i64 j ∧ ff = .string fb ∧ fb.size ≤ 2 ∧ Hid (fb = bsOf ((sgR.take k).foldl (sgB l) [])) ∧ Hid (Blk wr w.heap.size 42 #[.int .i64 0, .string ⟨#[]⟩, .int .i64 0]) ∧ Below w.heap.size w wr) (fun _ ii _ => 60 - (intOf ii).toNat)
 case atStart => exact ⟨0, 0, ⟨#[]⟩, by omega, rfl, rfl, rfl, by decide, rfl, Blk.new w _ _, by (repeat (first | assumption | exact Below.refl _ _ | apply Below.drew | apply below_drewN | (refine Below.alloc ?_ (by first | exact Nat.le_refl _ | omega | (simp; done) | (simp; omega)) _)))⟩
 case round =>
   obtain ⟨k, j, fb, hk, HJ, rfl, rfl, hfb, HF, HT, hbr⟩ := hrel
   by_cases hlt : k < 19
   · obtain ⟨x2, c, x, hx2, hx2s, hc, hx, h32, hn32⟩ := sgx k hlt
     have hj57 : j + 3 ≤ 57 := by have := HJ.out; omega
     rw [← HJ.out] at hx2
     have HX := Lib.hid hx
     have HXL : Hid (x.length ≤ 2) := by
       have h1 : ∀ y ∈ sgR, y.length ≤ 2 := by decide
       exact h1 x (List.mem_of_getElem? hx)
     have hsl1 : ∀ W : World, (Instr.slice 9 (.string ⟨#[40, 32, 32, 41, 32, 32, 91, 32, 32, 93, 32, 32, 123, 32, 32, 125, 32, 32, 44, 32, 32, 58, 32, 32, 46, 32, 32, 58, 58, 32, 61, 61, 32, 60, 32, 32, 60, 61, 32, 38, 38, 32, 124, 124, 32, 33, 32, 32, 43, 32, 32, 45, 32, 32, 42, 32, 32]⟩) (some (.int .i64 (j : Int))) (some (.int .i64 ((j : Int) + 2))) none).run Tryz.prog W = .ok (.string x2) W := fun W => by
       rw [← hx2]
       have h57 : (⟨#[40, 32, 32, 41, 32, 32, 91, 32, 32, 93, 32, 32, 123, 32, 32, 125, 32, 32, 44, 32, 32, 58, 32, 32, 46, 32, 32, 58, 58, 32, 61, 61, 32, 60, 32, 32, 60, 61, 32, 38, 38, 32, 124, 124, 32, 33, 32, 32, 43, 32, 32, 45, 32, 32, 42, 32, 32]⟩ : ByteArray).size = 57 := rfl
       have e1 : (j : Int).toNat = j := rfl
       have e2 : ((j : Int) + 2).toNat = j + 2 := by omega
       rw [run_slice_string_if W 9 _ .i64 .i64 (j : Int) ((j : Int) + 2) Tryz.underlying9, if_pos (by omega), if_pos (by omega), e1, e2]
     have hix : ∀ W, (Instr.index 9 (.string x2) (.int .i64 1)).run Tryz.prog W = .ok (.int .u8 (c.toNat : Int)) W := fun W => by
       have h1 := run_index_str x2 1 (by omega) W
       have h2 := toList_get x2 1 (by omega)
       rw [hc] at h2
       injection h2 with h2
       rw [← h2] at h1
       exact h1
     have hsl2 : ∀ W : World, (Instr.slice 9 (.string x2) none (some (.int .i64 1)) none).run Tryz.prog W = .ok (.string (x2.extract 0 1)) W := fun W => by
       go_simp
     clear hx2 hx hc
     by_cases hc32 : c = 32
     · have t32 : ((c.toNat : Int) == 32) = true := beq_lit hc32
       have h32 := h32 hc32
       clear hc32 hn32
       obtain ⟨xb, hxb⟩ : ∃ xb, x2.extract 0 1 = xb := ⟨_, rfl⟩
       rw [hxb] at hsl2 h32
       clear hxb
       have hxl : Hid (xb.toList = x) := by show _ = _; rw [h32, ByteArray.toList_eq]; rfl
       clear h32 hx2s
       have hxs : xb.size = x.length := by rw [← toList_len, hxl.out]
       have hxz : xb.size ≤ 140737488351232 := by have := HXL.out; omega
       have HB := Lib.hid (fun W => HBG.out xb W hxz)
       rw [hxl.out] at HB
       have hstep := sgR_step HX.out l
       rw [← show fb.toList = (sgR.take k).foldl (sgB l) [] from by rw [HF.out, ByteArray.toList_eq]; rfl] at hstep
       unfold sgB at hstep
       rw [toList_len] at hstep
       by_cases hp : x.isPrefixOf l = true
       · rw [hp] at HB
         by_cases hlen : fb.size < x.length
         · rw [if_pos ⟨hp, hlen⟩] at hstep
           have hlen' : (fb.size : Int) < xb.size := by omega
           have HF2 : Hid (xb = bsOf ((sgR.take (k + 1)).foldl (sgB l) [])) := by show _ = _; unfold sgB; rw [hstep]; exact bs_eq hxl.out
           have hx2l : xb.size ≤ 2 := by have := HXL.out; omega
           clear hstep hp hlen hxs
           go_wp2_with fail
           refine Calls.mono (HB.out _) ?_
           rintro r w2 ⟨rfl, hb2⟩
           go_wp2_with fail
           exact ⟨⟨k + 1, j + 3, _, by omega, by have := HJ.out; show _ = _; omega, by go_num, rfl, hx2l, HF2, Lib.hid (HT.out.below hb2 HT.out.lt), hbr.trans (hb2.mono hbr.size)⟩, by simp [intOf]; omega⟩
         · rw [if_neg (fun h => hlen h.2)] at hstep
           have hlen' : ¬ (fb.size : Int) < xb.size := by omega
           have HF2 : Hid (fb = bsOf ((sgR.take (k + 1)).foldl (sgB l) [])) := by show _ = _; unfold sgB; rw [hstep]; exact bs_eq rfl
           clear hstep hp hlen hxs
           go_wp2_with fail
           refine Calls.mono (HB.out _) ?_
           rintro r w2 ⟨rfl, hb2⟩
           go_wp2_with fail
           exact ⟨⟨k + 1, j + 3, _, by omega, by have := HJ.out; show _ = _; omega, by go_num, rfl, hfb, HF2, Lib.hid (HT.out.below hb2 HT.out.lt), hbr.trans (hb2.mono hbr.size)⟩, by simp [intOf]; omega⟩
       · have hp0 : x.isPrefixOf l = false := Bool.eq_false_iff.2 hp
         rw [hp0] at HB
         rw [if_neg (fun h => hp h.1)] at hstep
         have HF2 : Hid (fb = bsOf ((sgR.take (k + 1)).foldl (sgB l) [])) := by show _ = _; unfold sgB; rw [hstep]; exact bs_eq rfl
         clear hstep hp hp0 hxs
         go_wp2_with fail
         refine Calls.mono (HB.out _) ?_
         rintro r w2 ⟨rfl, hb2⟩
         go_wp2_with fail
         exact ⟨⟨k + 1, j + 3, _, by omega, by have := HJ.out; show _ = _; omega, by go_num, rfl, hfb, HF2, Lib.hid (HT.out.below hb2 HT.out.lt), hbr.trans (hb2.mono hbr.size)⟩, by simp [intOf]; omega⟩
     · have t32 : ((c.toNat : Int) == 32) = false := bne_lit hc32
       have hn32 := hn32 hc32
       clear hc32 h32
       have hxl : Hid (x2.toList = x) := by show _ = _; rw [hn32, ByteArray.toList_eq]; rfl
       clear hn32 hx2s
       have hxs : x2.size = x.length := by rw [← toList_len, hxl.out]
       have hxz : x2.size ≤ 140737488351232 := by have := HXL.out; omega
       have HB := Lib.hid (fun W => HBG.out x2 W hxz)
       rw [hxl.out] at HB
       have hstep := sgR_step HX.out l
       rw [← show fb.toList = (sgR.take k).foldl (sgB l) [] from by rw [HF.out, ByteArray.toList_eq]; rfl] at hstep
       unfold sgB at hstep
       rw [toList_len] at hstep
       by_cases hp : x.isPrefixOf l = true
       · rw [hp] at HB
         by_cases hlen : fb.size < x.length
         · rw [if_pos ⟨hp, hlen⟩] at hstep
           have hlen' : (fb.size : Int) < x2.size := by omega
           have HF2 : Hid (x2 = bsOf ((sgR.take (k + 1)).foldl (sgB l) [])) := by show _ = _; unfold sgB; rw [hstep]; exact bs_eq hxl.out
           have hx2l : x2.size ≤ 2 := by have := HXL.out; omega
           clear hstep hp hlen hxs
           go_wp2_with fail
           refine Calls.mono (HB.out _) ?_
           rintro r w2 ⟨rfl, hb2⟩
           go_wp2_with fail
           exact ⟨⟨k + 1, j + 3, _, by omega, by have := HJ.out; show _ = _; omega, by go_num, rfl, hx2l, HF2, Lib.hid (HT.out.below hb2 HT.out.lt), hbr.trans (hb2.mono hbr.size)⟩, by simp [intOf]; omega⟩
         · rw [if_neg (fun h => hlen h.2)] at hstep
           have hlen' : ¬ (fb.size : Int) < x2.size := by omega
           have HF2 : Hid (fb = bsOf ((sgR.take (k + 1)).foldl (sgB l) [])) := by show _ = _; unfold sgB; rw [hstep]; exact bs_eq rfl
           clear hstep hp hlen hxs
           go_wp2_with fail
           refine Calls.mono (HB.out _) ?_
           rintro r w2 ⟨rfl, hb2⟩
           go_wp2_with fail
           exact ⟨⟨k + 1, j + 3, _, by omega, by have := HJ.out; show _ = _; omega, by go_num, rfl, hfb, HF2, Lib.hid (HT.out.below hb2 HT.out.lt), hbr.trans (hb2.mono hbr.size)⟩, by simp [intOf]; omega⟩
       · have hp0 : x.isPrefixOf l = false := Bool.eq_false_iff.2 hp
         rw [hp0] at HB
         rw [if_neg (fun h => hp h.1)] at hstep
         have HF2 : Hid (fb = bsOf ((sgR.take (k + 1)).foldl (sgB l) [])) := by show _ = _; unfold sgB; rw [hstep]; exact bs_eq rfl
         clear hstep hp hp0 hxs
         go_wp2_with fail
         refine Calls.mono (HB.out _) ?_
         rintro r w2 ⟨rfl, hb2⟩
         go_wp2_with fail
         exact ⟨⟨k + 1, j + 3, _, by omega, by have := HJ.out; show _ = _; omega, by go_num, rfl, hfb, HF2, Lib.hid (HT.out.below hb2 HT.out.lt), hbr.trans (hb2.mono hbr.size)⟩, by simp [intOf]; omega⟩
   · have hk19 : k = 19 := by omega
     subst hk19
     have hj : j = 57 := by have := HJ.out; omega
     have hjlt : ¬ (j : Int) < 57 := by omega
     have hFL : fb = bsOf L := by rw [HF.out, show sgR.take 19 = sgR from rfl, HALL.out]
     have hbs : fb.size = L.length := by rw [hFL]; rfl
     have hbt : fb.toList = L := by rw [hFL, ByteArray.toList_eq]; rfl
     have hk0 := HT.out.cell
     have hf0 := HT.out.frozen
     have hl0 := HT.out.lt
     by_cases he : L = []
     · have HR : Hid (q = .bad 1) := by show _ = _; rw [← HQ.out, if_pos he]
       have hem : fb.toList.isEmpty = true := by rw [hbt, he]; rfl
       clear hFL hbs hbt he hj
       go_wp2_with fail
       refine bodyPost_ret (v := wdV i (.bad 1)) (by simp [results, Tryz.results37, go_sem, wdV, hk0]) rfl (WdPost.mk (by rw [HR.out]) (((hbr.setCell (p := ⟨w.heap.size, 0, none⟩) (Nat.le_refl _) _).setCell (p := ⟨w.heap.size, 1, none⟩) (Nat.le_refl _) _).setCell (p := ⟨w.heap.size, 2, none⟩) (Nat.le_refl _) _))
     · have HR : Hid (q = .ok 5 L L.length) := by show _ = _; rw [← HQ.out, if_neg he]
       have hem : fb.toList.isEmpty = false := by rw [hbt]; cases L with | nil => exact absurd rfl he | cons => rfl
       have HV : Hid (Ending.returned (.tuple #[.agg #[.int .i64 5, .string fb, .int .i64 i], .int .i64 ((i : Int) + (fb.size : Int)), .int .i64 0]) = Ending.returned (wdV i q)) := by
         show _ = _
         rw [HR.out]
         have := wdV_ok (i := i) (j := i + fb.size) (k := 5) hFL (by rw [hbs])
         exact this
       clear hFL hbs hbt he hj
       go_wp2_with fail
       refine bodyPost_ret (v := .tuple #[.agg #[.int .i64 5, .string fb, .int .i64 i], .int .i64 ((i : Int) + (fb.size : Int)), .int .i64 0]) (by simp [results, Tryz.results37, go_sem, hk0]) rfl (WdPost.mk HV.out (((hbr.setCell (p := ⟨w.heap.size, 0, none⟩) (Nat.le_refl _) _).setCell (p := ⟨w.heap.size, 1, none⟩) (Nat.le_refl _) _).setCell (p := ⟨w.heap.size, 2, none⟩) (Nat.le_refl _) _))
theorem r2_Word (s : ByteArray) (i : Nat) (w : World) (hs : s.size ≤ 140737488351232) (hi : i < s.size) :
   Calls Tryz.prog 37 #[.string s, .int .i64 i] w (WdPost w i (wordP (s.toList.drop i))) := by
 by_cases hd : digitI (s[i].toNat : Int) = true
 · exact r2_Word_num s i w hs hi hd
 · have hd : digitI (s[i].toNat : Int) = false := by simpa using hd
   by_cases hl : letterI (s[i].toNat : Int) = true
   · exact r2_Word_name s i w hs hi hd hl
   · have hl : letterI (s[i].toNat : Int) = false := by simpa using hl
     by_cases h34 : s[i] = 34
     · exact r2_Word_quo s i w hs hi hd hl h34
     · by_cases h63 : s[i] = 63
       · exact r2_Word_slot s i w hs hi hd hl h34 h63
       · exact r2_Word_sign s i w hs hi hd hl h34 h63
end Go.Proofs.YtbggbcnfkcadjaaGreatDoor
namespace Go.Proofs.YtbggbcnfkcadjaaGreatDoor
open Go.RowKit
def ToksNum (w : World) (r : Ending) (w' : World) (q : List Tk × Nat × Int) : Prop :=
 ∃ A c, r = .returned (.tuple #[.slice A q.1.length c, .int .i64 q.2.1, .int .i64 q.2.2]) ∧ q.1.length ≤ c ∧ c ≤ 9223372036854775807 ∧ TkSl w' w'.heap.size A q.1 ∧ Below w.heap.size w w'
theorem ToksNum.none {w w' : World} {i : Nat} {k : Int} (h : Below w.heap.size w w') : ToksNum w (.returned (.tuple #[.slice none 0 0, .int .i64 i, .int .i64 k])) w' ([], i, k) := ⟨Option.none, 0, rfl, Nat.le_refl _, by omega, SlG.nil _ _ _, h⟩
set_option maxRecDepth 100000 in
set_option maxHeartbeats 6400000 in
theorem r2_Words (s : ByteArray) (w : World) (hs : s.size ≤ 140737488351232) :
   Calls Tryz.prog 23 #[.string s] w fun r w' => ToksNum w r w' (readP s) := by
 obtain ⟨i0, hi, hz0, hz1, hz2⟩ := info_parts tok_info
 by_cases h : 900 < s.size
 · have hv : readP s = ([], 0, 4) := by simp [readP, h]
   rw [hv]
   have h9 : 900 < (s.size : Int) := by omega
   clear hv h
   go_enter Tryz.func23, Tryz.ntmps23
   go_wp2_with fail
   go_ret3
   exact ToksNum.none (k := 4) (Below.refl _ _)
 · obtain ⟨q, hq⟩ : ∃ q, readP s = q := ⟨_, rfl⟩
   rw [hq]
   rw [readP_R, if_neg h] at hq
   have HQ := Lib.hid hq
   clear hq
   have h9 : ¬ 900 < (s.size : Int) := by omega
   go_enter Tryz.func23, Tryz.ntmps23
   go_wp2_with fail
   go_loopw [5, 6] (fun oo ii wr => ∃ p : Nat, ∃ toks : List Tk, ∃ A c, oo = .slice A toks.length c ∧ ii = .int .i64 p ∧ p ≤ s.size ∧ toks.length ≤ 300 ∧ Hid (lineR (s.toList.drop p) p toks = q) ∧
     Hid (wr.ownsRow w.heap.size 42 3 (.slice A toks.length c) toks.length (flatG Tk.cells toks)) ∧ Below w.heap.size w wr) (fun _ ii _ => s.size - (intOf ii).toNat)
   case atStart => exact ⟨0, [], none, 0, rfl, rfl, by omega, by simp, HQ.out, World.ownsRow_nil _ _ _ _, Below.refl _ _⟩
   case round =>
     obtain ⟨p, toks, A, c, rfl, rfl, hp, htl, HP, HO, hbr⟩ := hrel
     have hzr := hbr.size
     by_cases hlt : p < s.size
     · have hsd := toList_drop s p hlt
       by_cases h32 : s[p] = 32
       · have t32 : ((s[p].toNat : Int) == 32) = true := beq_lit h32
         have HP2 : Hid (lineR (s.toList.drop (p + 1)) (p + 1) toks = q) := by
           show _ = _
           rw [← HP.out, hsd, h32, lineR_blank]
         clear h32 hsd HP
         go_wp2_with fail
         exact ⟨⟨p + 1, toks, A, c, rfl, by go_num, by omega, htl, HP2, HO, hbr⟩, by simp [intOf]; omega⟩
       · have t32 : ((s[p].toNat : Int) == 32) = false := bne_lit h32
         have HWW := Lib.hid (fun W => r2_Word s p W hs hlt)
         cases hw : wordP (s.toList.drop p) with
         | bad k =>
           have HR : Hid (q = ([], p, k)) := by
             show _ = _
             rw [← HP.out, hsd]
             rw [hsd] at hw
             exact lineR_bad h32 hw _ _
           have hk : ¬ k = 0 := fun e => wordP_ne0 (e ▸ hw)
           have hk1 : (k == 0) = false := by simp [hk]
           have hk2 : (k != 0) = true := by simp [hk]
           rw [hw] at HWW
           clear hw hk h32 hsd HP
           go_wp2_with fail
           refine Calls.mono (HWW.out _) ?_
           rintro r w2 ⟨he, hb2⟩
           have he : r = .returned (.tuple #[.agg #[.int .i64 0, .string ⟨#[]⟩, .int .i64 0], .int .i64 0, .int .i64 k]) := he
           subst he
           go_wp2_with fail
           go_ret3
           rw [HR.out]
           exact ToksNum.none ((hbr.trans (hb2.mono hzr)).alloc (by have := hb2.size; omega) _)
         | ok kind t n =>
           have hn := wordP_n hw
           rw [List.length_drop, toList_len] at hn
           have HR : Hid (q = if toks.length = 300 then ([], p, 4) else lineR (s.toList.drop (p + n)) (p + n) (toks ++ [⟨kind, bsOf t, p⟩])) := by
             show _ = _
             rw [← HP.out, hsd]
             rw [hsd] at hw
             rw [lineR_ok h32 hw, ← hsd, List.drop_drop]
           rw [hw] at HWW
           clear hw h32 hsd HP
           by_cases h300 : toks.length = 300
           · rw [if_pos h300] at HR
             have t3 : (300 : Int) ≤ (toks.length : Int) := by omega
             clear h300
             go_wp2_with fail
             refine Calls.mono (HWW.out _) ?_
             rintro r w2 ⟨he, hb2⟩
             have he : r = .returned (.tuple #[.agg #[.int .i64 kind, .string (bsOf t), .int .i64 p], .int .i64 ((p : Int) + n), .int .i64 0]) := he
             subst he
             go_wp2_with fail
             go_ret3
             rw [HR.out]
             exact ToksNum.none (k := 4) ((hbr.trans (hb2.mono hzr)).alloc (by have := hb2.size; omega) _)
           · rw [if_neg h300] at HR
             have t3 : ¬ (300 : Int) ≤ (toks.length : Int) := by omega
             have htl2 : toks.length < 300 := by omega
             clear h300
             go_wp2_with fail
             refine Calls.mono (HWW.out _) ?_
             rintro r w2 ⟨he, hb2⟩
             have he : r = .returned (.tuple #[.agg #[.int .i64 kind, .string (bsOf t), .int .i64 p], .int .i64 ((p : Int) + n), .int .i64 0]) := he
             subst he
             have hzw := hb2.size
             have HO2 := Lib.hid (own_keep HO.out hb2)
             have hw2 : Below w.heap.size w w2 := hbr.trans (hb2.mono hzr)
             clear hb2
             go_wp2_with (at_builtin; refine wpList_append_own _ rfl (.tmp 41) (.tmp 43) 23 rfl w.heap.size 42 i0 _ 3 32 Tryz.underlying23 hi hz0 hz1 hz2 rfl (by omega) (.slice A toks.length c) toks.length (flatG Tk.cells toks) rfl ((HO2.out.alloc _).alloc _) ⟨w2.heap.size + 1, 0, none⟩ 1 1 (flatG Tk.cells [⟨kind, bsOf t, p⟩]) rfl rfl (new_flatG _ _ (⟨kind, bsOf t, p⟩ : Tk) _ rfl _ (by simp)) (flatG_cell tk_ok [⟨kind, bsOf t, p⟩]) (by unfold maxLen; omega) (by omega) (by simp; omega) ?_)
             intro v1 w3 hown1 hgrow1 _
             rw [← flatG_append] at hown1
             obtain ⟨_, A2, c2, hv2, _⟩ := own_formG tk_ok hown1
             have hb3 : Below w.heap.size w w3 := ((hw2.alloc (by omega) _).alloc (by simp; omega) _).grown hgrow1 (by simp; omega) (fun g hg => (HO2.out.lt g hg).1)
             rw [hv2] at hown1 ⊢
             have HO3 := Lib.hid hown1
             clear hown1 hgrow1 hv2
             go_wp2_with fail
             exact ⟨⟨p + n, toks ++ [⟨kind, bsOf t, p⟩], A2, c2, by rw [List.length_append]; rfl, by go_num, by omega, by rw [List.length_append, List.length_singleton]; omega, Lib.hid HR.out.symm, by rw [List.length_append, List.length_singleton]; exact HO3, hb3⟩, by simp [intOf]; omega⟩
     · have HR : Hid (q = (toks, 0, 0)) := by show _ = _; rw [← HP.out, drop_noneW s p (by omega)]; rfl
       clear HP
       go_wp2_with fail
       go_ret3
       rw [HR.out]
       obtain ⟨q1, q2, q3⟩ := toks_end HO.out
       exact ⟨A, c, rfl, q1, q2, q3, hbr⟩
end Go.Proofs.YtbggbcnfkcadjaaGreatDoor
namespace Go.Proofs.YtbggbcnfkcadjaaGreatDoor
open Go.RowKit
def bareTk (x : Tk) : Tk := ⟨x.kind, x.s, 0⟩
end Go.Proofs.YtbggbcnfkcadjaaGreatDoor
namespace Go.Proofs.YtbggbcnfkcadjaaGreatDoor
open Go.RowKit
set_option maxRecDepth 100000 in
set_option maxHeartbeats 3200000 in
theorem law_bare (xs : List Tk) (A : Option Addr) (c : Nat) (w : World) (hs : TkSl w w.heap.size A xs) (hl : xs.length ≤ 300) :
   Calls Tryz.prog 24 #[.slice A xs.length c] w fun r w' => ∃ A' c', r = .returned (.slice A' (xs.map bareTk).length c') ∧ TkSl w' w'.heap.size A' (xs.map bareTk) ∧ RowKit.Below w.heap.size w w' ∧ (xs.map bareTk).length ≤ c' ∧ c' ≤ 9223372036854775807 := by
 obtain ⟨i0, hi, hz0, hz1, hz2⟩ := info_parts tok_info
 have HS := Lib.hid hs
 clear hs
 go_enter Tryz.func24, Tryz.ntmps24
 go_wp2_with fail
 go_loopw [3, 4] (fun oo ii wr => ∃ (k : Nat) (A' : Option Addr) (c' : Nat), ii = .int .i64 k ∧ oo = .slice A' k c' ∧ k ≤ xs.length ∧
   Hid (wr.ownsRow w.heap.size 42 3 (.slice A' k c') k (flatG Tk.cells ((xs.map bareTk).take k))) ∧ Below w.heap.size w wr) (fun _ ii _ => xs.length - (intOf ii).toNat)
 case atStart => exact ⟨0, none, 0, rfl, rfl, by omega, World.ownsRow_nil _ _ _ _, Below.refl _ _⟩
 case round =>
   obtain ⟨k, A', c', rfl, rfl, hk, HO, hbr⟩ := hrel
   have hzr := hbr.size
   by_cases hlt : k < xs.length
   · obtain ⟨x, hx⟩ : ∃ x, xs[k]? = some x := ⟨_, List.getElem?_eq_getElem hlt⟩
     obtain ⟨b, o, rfl, hb, ⟨d0, d1, d2⟩⟩ := tkSl_at (HS.out.below hbr) hx
     have hbw : b < wr.heap.size := Nat.lt_of_lt_of_le hb hzr
     have HX := Lib.hid hx
     clear hx
     go_wp2_with (at_builtin; refine wpList_append_own _ rfl (.tmp 17) (.tmp 19) 23 rfl w.heap.size 42 i0 _ 3 32 Tryz.underlying23 hi hz0 hz1 hz2 rfl (by omega) (.slice A' k c') k (flatG Tk.cells ((xs.map bareTk).take k)) rfl ((HO.out.alloc _).alloc _) ⟨wr.heap.size + 1, 0, none⟩ 1 1 (flatG Tk.cells [bareTk x]) rfl rfl (new_flatG _ _ (bareTk x) _ rfl _ (by simp)) (flatG_cell tk_ok [bareTk x]) (by unfold maxLen; omega) (by omega) (by simp; omega) ?_)
     intro v1 w3 hown1 hgrow1 _
     rw [← flatG_append] at hown1
     have hmap : (xs.map bareTk).take k ++ [bareTk x] = (xs.map bareTk).take (k + 1) := by rw [List.take_add_one, List.getElem?_map, HX.out]; simp
     rw [hmap] at hown1
     obtain ⟨_, A2, c2, hv2, _⟩ := own_formG tk_ok hown1
     have hb3 : Below w.heap.size w w3 := ((hbr.alloc (by omega) _).alloc (by simp; omega) _).grown hgrow1 (by simp; omega) (fun g hg => (HO.out.lt g hg).1)
     rw [hv2] at hown1 ⊢
     have HO3 := Lib.hid hown1
     clear hown1 hgrow1 hv2 hmap
     go_wp2_with fail
     exact ⟨⟨k + 1, A2, c2, by go_num, rfl, by omega, HO3, hb3⟩, by simp [intOf]; omega⟩
   · have hks : k = xs.length := by omega
     subst hks
     go_wp2_with fail
     go_ret
     have hO := HO.out
     rw [List.take_of_length_le (by rw [List.length_map]; exact Nat.le_refl _)] at hO
     obtain ⟨_, A2, c2, hv2, hn2, hm2, hsl⟩ := own_formG tk_ok hO
     injection hv2 with e1 e2 e3
     subst e1 e3
     exact ⟨A', c', by rw [List.length_map]; rfl, hsl, hbr, by rw [List.length_map]; exact hn2, hm2⟩
set_option maxHeartbeats 1600000 in
theorem law_quick (s : ByteArray) (xs : List Tk) (hx : (readP s).1.map bareTk = xs) (hl : (readP s).1.length ≤ 300) (w : World) (hs : s.size ≤ 140737488351232) :
   Calls Tryz.prog 13 #[.string s] w fun r w' => ∃ A c, r = .returned (.slice A xs.length c) ∧ TkSl w' w'.heap.size A xs ∧ RowKit.Below w.heap.size w w' ∧ xs.length ≤ c ∧ c ≤ 9223372036854775807 := by
 have HC := Lib.hid (r2_Words s w hs)
 subst hx
 go_enter Tryz.func13, Tryz.ntmps13
 go_wp2_with fail
 refine HC.out.mono ?_
 rintro r w1 ⟨A, c, rfl, h1, h2, h3, h4⟩
 have HB := Lib.hid (law_bare _ A c w1 h3 hl)
 have H4 := Lib.hid h4
 clear h1 h2 h3 h4
 go_wp2_with fail
 refine HB.out.mono ?_
 rintro r w2 ⟨A2, c2, rfl, g1, g2, g3, g4⟩
 have G := Lib.hid (And.intro g1 (H4.out.trans (g2.mono H4.out.size)))
 clear g1 g2
 go_wp2_with fail
 go_ret
 exact ⟨A2, c2, by rw [List.length_map]; rfl, G.out.1, G.out.2, g3, g4⟩
end Go.Proofs.YtbggbcnfkcadjaaGreatDoor
