/-
  THE WALKS: package word: small functions; 'while'.
  THE WALKS: package word: named, sign.
  THE WALKS: package word: sign.
  THE WALKS: (*strings.Builder).copyCheck and WriteByte at the seat's own program (turned from the shelf's text: the shelf's structure asks a type that this cut does not name).
  THE WALKS of the reference: names and texts.
  THE WALKS: package word: quoted.
  THE WALKS: package word: word.
  THE WALKS: package word: word, the other cases; all of them.
  THE WALKS: the deferred closure of word.Read.
  THE WALKS: word.Read: for any line.
-/
import Derived.Test.YtbggbcnfkcadjaaGreatDoorPd01
import Derived.Test.YtbggbcnfkcadjaaGreatDoorPd06
import Derived.Test.YtbggbcnfkcadjaaGreatDoorPd03
import Derived.Deep.LoopGhost
import Derived.Shelf.Abstract
import Derived.BigQuiet
import Derived.Test.YtbggbcnfkcadjaaGreatDoorPd02
import Derived.Test.YtbggbcnfkcadjaaGreatDoorProg
import Derived.Lib.Builder
import Derived.Laws.Externs
import Derived.StillTailTactics
import Derived.Recover
import Derived.Defers
namespace Go.Proofs.YtbggbcnfkcadjaaGreatDoor
open Go.RowKit
set_option maxRecDepth 100000 in
set_option maxHeartbeats 400000 in
theorem word_digit (b : Int) (w : World) :
   Calls Tryz.prog 151 #[.int .u8 b] w fun e w' => e = .returned (.bool (digitI b)) ∧ w = w' := by
 go_enter Tryz.func151, Tryz.ntmps151
 go_wp2
 all_goals (go_ret; exact ⟨ret_bool (by rw [Bool.eq_iff_iff]; simp [digitI]; omega), rfl⟩)
def nameI (b : Int) : Bool := letterI b || digitI b
set_option maxRecDepth 100000 in
set_option maxHeartbeats 400000 in
theorem word_inName (b : Int) (w : World) :
   Calls Tryz.prog 153 #[.int .u8 b] w fun e w' => e = .returned (.bool (nameI b)) ∧ w = w' := by
 go_enter Tryz.func153, Tryz.ntmps153
 go_wp2_with (go_at_call 151; refine (word_digit _ _).mono ?_; rintro e w' ⟨rfl, rfl⟩)
 all_goals (go_ret; exact ⟨ret_bool (by rw [Bool.eq_iff_iff]; simp [nameI, letterI, digitI]; try omega), rfl⟩)
set_option maxRecDepth 100000 in
set_option maxHeartbeats 400000 in
theorem word_blank (b : Int) (w : World) :
   Calls Tryz.prog 129 #[.int .u8 b] w fun e w' => e = .returned (.bool (b == 32)) ∧ w = w' := by
 go_enter Tryz.func129, Tryz.ntmps129
 go_wp2
 all_goals (go_ret; exact ⟨rfl, rfl⟩)
structure PB (g : Nat) (p : Int → Bool) : Prop where
 ent : ∀ (args : Array Value) (w : World), (callFunc g args).run Tryz.prog w = .ok (.enter g args) w
 call : ∀ (b : Int) (w : World), Calls Tryz.prog g #[.int .u8 b] w fun e w' => e = .returned (.bool (p b)) ∧ w = w'
theorem pb_digit : PB 151 digitI := ⟨enters_of Tryz.func151 (by kernel_rfl) rfl, word_digit⟩
theorem pb_inName : PB 153 nameI := ⟨enters_of Tryz.func153 (by kernel_rfl) rfl, word_inName⟩
theorem pb_blank : PB 129 (· == 32) := ⟨enters_of Tryz.func129 (by kernel_rfl) rfl, word_blank⟩
def runL (p : Int → Bool) (s : ByteArray) (i : Nat) : Nat := i + ((s.toList.drop i).takeWhile fun c => p (c.toNat : Int)).length
theorem runL_hit {p : Int → Bool} {s : ByteArray} {i : Nat} (h : i < s.size) (hp : p (s[i].toNat : Int) = true) : runL p s i = runL p s (i + 1) := by
 unfold runL
 have h2 : i < s.toList.length := by rw [toList_len]; exact h
 have h1 := toList_get s i h
 rw [List.getElem?_eq_getElem h2] at h1
 injection h1 with h1
 rw [List.drop_eq_getElem_cons h2, h1, List.takeWhile_cons_of_pos (by simpa using hp), List.length_cons]; omega
theorem runL_miss {p : Int → Bool} {s : ByteArray} {i : Nat} (h : i < s.size) (hp : p (s[i].toNat : Int) = false) : runL p s i = i := by
 unfold runL
 have h2 : i < s.toList.length := by rw [toList_len]; exact h
 have h1 := toList_get s i h
 rw [List.getElem?_eq_getElem h2] at h1
 injection h1 with h1
 rw [List.drop_eq_getElem_cons h2, h1, List.takeWhile_cons_of_neg (by simpa using hp)]; rfl
theorem runL_end {p : Int → Bool} {s : ByteArray} {i : Nat} (h : s.size ≤ i) : runL p s i = i := by
 unfold runL
 rw [List.drop_eq_nil_of_le (by rw [toList_len]; exact h)]; rfl
theorem runL_le (p : Int → Bool) (s : ByteArray) {i : Nat} (h : i ≤ s.size) : runL p s i ≤ s.size := by
 unfold runL
 have := List.IsPrefix.length_le (List.takeWhile_prefix (fun c : UInt8 => p (c.toNat : Int)) (l := s.toList.drop i))
 rw [List.length_drop, toList_len] at this
 omega
theorem runL_ge (p : Int → Bool) (s : ByteArray) (i : Nat) : i ≤ runL p s i := by unfold runL; omega
theorem run_index_str (s : ByteArray) (j : Nat) (hj : j < s.size) (W : World) : (Instr.index 9 (.string s) (.int .i64 (j : Int))).run Tryz.prog W = .ok (.int .u8 (s[j].toNat : Int)) W := by
 go_simp
def rdS (s : ByteArray) (i : Nat) : Array Value := #[.string s, .int .i64 i]
theorem rdS_step {w : World} {rb i j : Nat} {s : ByteArray} {T : TypeId} (h : Blk w rb T (rdS s i)) : Blk (w.setCell ⟨rb, 1, none⟩ (.int .i64 (j : Int))) rb T (rdS s j) := h.set 1 _
set_option maxRecDepth 100000 in
set_option maxHeartbeats 1600000 in
theorem word_while (g : Nat) (p : Int → Bool) (hp : PB g p) (s : ByteArray) (i rb : Nat) (w : World) (hs : s.size ≤ 140737488351232) (hi : i ≤ s.size) (hb : Blk w rb 172 (rdS s i)) :
   Calls Tryz.prog 128 #[.pointer (some ⟨rb, 0, none⟩), .func (.func g) #[] #[]] w fun e w' => e = .returned (.string (s.extract i (runL p s i))) ∧ Blk w' rb 172 (rdS s (runL p s i)) ∧ Only w.heap.size rb w w' := by
 have hrb := hb.lt
 have k0 : w.cell? ⟨rb, 0, none⟩ = some (.string s) := hb.cell 0
 have k1 : w.cell? ⟨rb, 1, none⟩ = some (.int .i64 i) := hb.cell 1
 have eg := hp.ent
 have HPC := Lib.hid hp.call
 have HB := Lib.hid hb
 clear hb
 go_enter Tryz.func128, Tryz.ntmps128
 go_wp2_with fail
 go_loopg [] s.size (fun gg wr => ∃ k : Nat, i ≤ k ∧ k ≤ s.size ∧ s.size - k ≤ gg ∧ Hid (runL p s k = runL p s i) ∧ Hid (Blk wr rb 172 (rdS s k)) ∧ Hid (Only w.heap.size rb w wr))
 case atStart => exact ⟨i, Nat.le_refl _, hi, by omega, rfl, HB.out, Only.refl _ _ _⟩
 case round =>
   obtain ⟨k, hik, hk, hgg, HK, HBk, HOk⟩ := hrel
   have hrbw : rb < wr.heap.size := HBk.out.lt
   have c0 : wr.cell? ⟨rb, 0, none⟩ = some (.string s) := HBk.out.cell 0
   have c1 : wr.cell? ⟨rb, 1, none⟩ = some (.int .i64 k) := HBk.out.cell 1
   have z1 : wr.frozen? ⟨rb, 1, none⟩ = false := HBk.out.frozen 1
   clear k0 k1
   by_cases hlt : k < s.size
   · have hcall := HPC.out (s[k].toNat : Int)
     by_cases hp1 : p (s[k].toNat : Int) = true
     · rw [hp1] at hcall
       have hq : ∀ W, Calls Tryz.prog g #[.int .u8 (s[k].toNat : Int)] W fun e w' => e = .returned (.bool true) ∧ w' = W := fun W => (hcall W).mono fun _ _ ⟨a, b⟩ => ⟨a, b.symm⟩
       have HQ := Lib.hid hq
       have HK2 : Hid (runL p s (k + 1) = runL p s i) := by show _ = _; rw [← runL_hit hlt hp1]; exact HK.out
       have hd : decide ((k : Int) < (s.size : Int)) = true := by simp; omega
       clear hcall hp1 hq
       go_wp2_with fail
       go_quiet ((go_at_fn g; exact Calls.quiet_of_same (HQ.out _)))
       go_wp2_with fail
       go_roundg (s.size - (k + 1))
       case measure => omega
       case rel => exact ⟨k + 1, by omega, by omega, by omega, HK2, rdS_step (HBk.out.drewN _), (HOk.out.drewN _).setCell (.inl rfl) _⟩
     · have hp1 : p (s[k].toNat : Int) = false := by simpa using hp1
       rw [hp1] at hcall
       have hq : ∀ W, Calls Tryz.prog g #[.int .u8 (s[k].toNat : Int)] W fun e w' => e = .returned (.bool false) ∧ w' = W := fun W => (hcall W).mono fun _ _ ⟨a, b⟩ => ⟨a, b.symm⟩
       have HQ := Lib.hid hq
       have HK2 : Hid (runL p s i = k) := by show _ = _; rw [← HK.out]; exact runL_miss hlt hp1
       have hd : decide ((k : Int) < (s.size : Int)) = true := by simp; omega
       clear hcall hp1 hq
       go_wp2_with fail
       go_quiet ((go_at_fn g; exact Calls.quiet_of_same (HQ.out _)))
       go_wp2_with fail
       go_quiet (fail)
       go_wp2_with fail
       go_ret
       rw [HK2.out]
       exact ⟨rfl, (HBk.out.drewN _).drewN _, (HOk.out.drewN _).drewN _⟩
   · have HK2 : Hid (runL p s i = k) := by show _ = _; rw [← HK.out]; exact runL_end (by omega)
     have hd : decide ((k : Int) < (s.size : Int)) = false := by simp; omega
     go_wp2_with fail
     go_quiet (fail)
     go_wp2_with fail
     go_quiet (fail)
     go_wp2_with fail
     go_ret
     rw [HK2.out]
     exact ⟨rfl, (HBk.out.drewN _).drewN _, (HOk.out.drewN _).drewN _⟩
end Go.Proofs.YtbggbcnfkcadjaaGreatDoor
namespace Go.Proofs.YtbggbcnfkcadjaaGreatDoor
open Go.RowKit Go.Sort
def faultV (k : Int) (i : Nat) : List PanicEntry := [{ v := .iface 169 (.agg #[.int .i64 k, .int .i64 i]), recovered := false }]
theorem eql_err4 (k : Int) (h : k = 1 ∨ k = 4) (w : World) : (binOp .eql 25 (errV k) (.iface 33 (.int .i64 4))).run Tryz.prog w = .ok (.bool (k == 4)) w := by
 rcases h with rfl | rfl <;> kernel_rfl
@[go_sem] theorem guard_held (x y : Operand) (k : Int) (T : TypeId) (v : Value) (w : World) : (eqGuard .eql 25 x y (errV k) (.iface T v)).run Tryz.prog w = .ok () w := by
  by_cases h : k = 0
  · subst h; rw [errV_zero]; simp [eqGuard]
  · rw [errV_pos h]; simp [eqGuard]
theorem nameErr_cases (l : List UInt8) : nameErr l = 0 ∨ nameErr l = 1 ∨ nameErr l = 4 := by
 unfold nameErr
 repeat' split
 all_goals simp
set_option maxRecDepth 100000 in
set_option maxHeartbeats 1600000 in
theorem word_named_ok (s : ByteArray) (kind : Int) (i fr rb : Nat) (w : World) (hs : s.size ≤ 140737488351232) (hi : i ≤ s.size) (hb : Blk w rb 172 (rdS s i))
   (hne : nameErr (s.extract i (runL nameI s i)).toList = 0) :
   Calls Tryz.prog 154 #[.pointer (some ⟨rb, 0, none⟩), .int .i64 kind, .int .i64 fr] w fun e w' => e = .returned (.agg #[.int .i64 kind, .string (s.extract i (runL nameI s i)), .int .i64 fr]) ∧ Blk w' rb 172 (rdS s (runL nameI s i)) ∧ Only w.heap.size rb w w' := by
 have hle := runL_le nameI s hi
 have hge := runL_ge nameI s i
 have hxs : (s.extract i (runL nameI s i)).size ≤ 140737488351232 := by rw [ByteArray.size_extract]; omega
 have HW := Lib.hid (fun W (hW : Blk W rb 172 (rdS s i)) => word_while 153 nameI pb_inName s i rb W hs hi hW)
 have HC := Lib.hid (fun W => name_Check (s.extract i (runL nameI s i)) W hxs)
 rw [hne] at HC
 have HB := Lib.hid (hb.alloc (.cells #[.int .i64 0, .string ⟨#[]⟩, .int .i64 0] 42))
 have hrb := hb.lt
 generalize s.extract i (runL nameI s i) = x at HW HC hxs ⊢
 generalize runL nameI s i = j at HW hle hge ⊢
 clear hb hne
 go_enter Tryz.func154, Tryz.ntmps154
 go_wp2_with fail
 refine Calls.mono (HW.out _ HB.out) ?_
 rintro r w1 ⟨rfl, hb1, ho1⟩
 go_wp2_with fail
 refine Calls.mono (HC.out _) ?_
 rintro r w2 ⟨rfl, hb2⟩
 have hrw : w.heap.size < w1.heap.size := by have := ho1.size; simp at this; omega
 have c0 : w2.cell? ⟨w.heap.size, 0, none⟩ = some (.int .i64 0) := by
   rw [hb2.cell (p := ⟨w.heap.size, 0, none⟩) hrw, ho1.cell (p := ⟨w.heap.size, 0, none⟩) (by simp) (by simp; omega)]; simp [go_sem]
 have hB2 : Hid (Blk w2 w.heap.size 42 #[.int .i64 0, .string ⟨#[]⟩, .int .i64 0]) := ((Blk.new w 42 _).only ho1 (by simp) (by omega)).below hb2 hrw
 have f0 := hB2.out.frozen
 have k0 := hB2.out.cell
 go_wp2_with fail
 have hbl : Blk w2 rb 172 (rdS s j) := hb1.below hb2 hb1.lt
 have hne2 : rb ≠ w.heap.size := by omega
 have ho2 : Only w.heap.size rb w w2 := (((Only.refl w.heap.size rb w).alloc (Nat.le_refl _) _).trans (ho1.mono (by simp))).trans (Only.of_below hb2 (by omega))
 exact bodyPost_ret (v := .agg #[.int .i64 kind, .string x, .int .i64 fr]) (by simp [results, Tryz.results154, go_sem, k0]) rfl ⟨rfl, ((hbl.far hne2 _).far hne2 _).far hne2 _, by (repeat (first | assumption | exact Only.refl _ _ _ | apply Only.drew | apply Only.drewN | (refine Only.alloc ?_ (by first | exact Nat.le_refl _ | omega | (simp; done) | (simp; omega)) _) | (refine Only.setCell ?_ (by first | exact .inl rfl | exact .inr (Nat.le_refl _) | exact .inr (by first | omega | (simp; omega))) _)))⟩
set_option maxRecDepth 100000 in
set_option maxHeartbeats 1600000 in
theorem word_named_bad (s : ByteArray) (kind k : Int) (i fr rb : Nat) (w : World) (hs : s.size ≤ 140737488351232) (hi : i ≤ s.size) (hb : Blk w rb 172 (rdS s i))
   (hne : nameErr (s.extract i (runL nameI s i)).toList = k) (hk : k = 1 ∨ k = 4) :
   Calls Tryz.prog 154 #[.pointer (some ⟨rb, 0, none⟩), .int .i64 kind, .int .i64 fr] w fun e w' => e = .panicked (faultV k fr) ∧ Only w.heap.size rb w w' := by
 have hle := runL_le nameI s hi
 have hge := runL_ge nameI s i
 have hxs : (s.extract i (runL nameI s i)).size ≤ 140737488351232 := by rw [ByteArray.size_extract]; omega
 have HW := Lib.hid (fun W (hW : Blk W rb 172 (rdS s i)) => word_while 153 nameI pb_inName s i rb W hs hi hW)
 have HC := Lib.hid (fun W => name_Check (s.extract i (runL nameI s i)) W hxs)
 rw [hne] at HC
 have HB := Lib.hid (hb.alloc (.cells #[.int .i64 0, .string ⟨#[]⟩, .int .i64 0] 42))
 have hrb := hb.lt
 have he4 := eql_err4 k hk
 have hk0 : (k == 0) = false := by rcases hk with rfl | rfl <;> rfl
 generalize s.extract i (runL nameI s i) = x at HW HC hxs
 generalize runL nameI s i = j at HW hle hge
 clear hb hne
 rcases hk with rfl | rfl
 · have h1 : ((1 : Int) == 4) = false := rfl
   go_enter Tryz.func154, Tryz.ntmps154
   go_wp2_with fail
   refine Calls.mono (HW.out _ HB.out) ?_
   rintro r w1 ⟨rfl, hb1, ho1⟩
   go_wp2_with fail
   refine Calls.mono (HC.out _) ?_
   rintro r w2 ⟨rfl, hb2⟩
   have ho2 : Only w.heap.size rb w w2 := (((Only.refl w.heap.size rb w).alloc (Nat.le_refl _) _).trans (ho1.mono (by simp))).trans (Only.of_below hb2 (by have := ho1.size; simp at this; omega))
   go_wp2_with fail
   exact ⟨rfl, rfl, by (repeat (first | assumption | exact Only.refl _ _ _ | apply Only.drew | apply Only.drewN | (refine Only.alloc ?_ (by first | exact Nat.le_refl _ | omega | (simp; done) | (simp; omega)) _) | (refine Only.setCell ?_ (by first | exact .inl rfl | exact .inr (Nat.le_refl _) | exact .inr (by first | omega | (simp; omega))) _)))⟩
 · have h1 : ((4 : Int) == 4) = true := rfl
   go_enter Tryz.func154, Tryz.ntmps154
   go_wp2_with fail
   refine Calls.mono (HW.out _ HB.out) ?_
   rintro r w1 ⟨rfl, hb1, ho1⟩
   go_wp2_with fail
   refine Calls.mono (HC.out _) ?_
   rintro r w2 ⟨rfl, hb2⟩
   have ho2 : Only w.heap.size rb w w2 := (((Only.refl w.heap.size rb w).alloc (Nat.le_refl _) _).trans (ho1.mono (by simp))).trans (Only.of_below hb2 (by have := ho1.size; simp at this; omega))
   go_wp2_with fail
   exact ⟨rfl, rfl, by (repeat (first | assumption | exact Only.refl _ _ _ | apply Only.drew | apply Only.drewN | (refine Only.alloc ?_ (by first | exact Nat.le_refl _ | omega | (simp; done) | (simp; omega)) _) | (refine Only.setCell ?_ (by first | exact .inl rfl | exact .inr (Nat.le_refl _) | exact .inr (by first | omega | (simp; omega))) _)))⟩
end Go.Proofs.YtbggbcnfkcadjaaGreatDoor
namespace Go.Proofs.YtbggbcnfkcadjaaGreatDoor
open Go.RowKit Go.Sort
def sgL : List (List UInt8) := [[58, 58], [61, 61], [60, 61], [38, 38], [124, 124], [40], [41], [91], [93], [123], [125], [44], [58], [46], [60], [33], [43], [45], [42]]
def sgF (xs : List (List UInt8)) (l : List UInt8) : List UInt8 := (xs.find? fun x => x.isPrefixOf l).getD []
theorem pre1 (x : UInt8) (r : List UInt8) : List.isPrefixOf [x] r = (r.head? == some x) := by
 cases r with
 | nil => rfl
 | cons b r => simp only [List.isPrefixOf, List.head?_cons, Bool.and_true, Option.some_beq_some]; exact BEq.comm
theorem pre2 (x y a : UInt8) (r : List UInt8) : List.isPrefixOf [x, y] (a :: r) = (x == a && r.head? == some y) := by
 rw [List.isPrefixOf_cons_cons, pre1]
theorem head1 (a : UInt8) (r : List UInt8) (x : UInt8) : List.isPrefixOf [x] (a :: r) = (x == a) := by rw [pre1, List.head?_cons]; exact BEq.comm
theorem sgF_eq (l : List UInt8) : sgF sgL l = signP l := by
 cases l with
 | nil => rfl
 | cons a r =>
   rw [signP_cons]
   by_cases h1 : sign1 a = true
   · rw [if_pos h1]
     unfold sign1 at h1
     simp only [Bool.or_eq_true, beq_iff_eq, or_assoc] at h1
     rcases h1 with rfl | rfl | rfl | rfl | rfl | rfl | rfl | rfl | rfl | rfl | rfl | rfl <;> simp only [sgF, sgL, List.find?, head1, pre2] <;> simp
   · rw [if_neg h1]
     by_cases h2 : a = 58
     · subst h2
       rw [if_pos rfl]
       cases hb : (r.head? == some 58) <;> simp only [sgF, sgL, List.find?, head1, pre2, hb] <;> simp at hb <;> simp [hb]
     · rw [if_neg h2]
       by_cases h3 : a = 60
       · subst h3
         rw [if_pos rfl]
         cases hb : (r.head? == some 61) <;> simp only [sgF, sgL, List.find?, head1, pre2, hb] <;> simp at hb <;> simp [hb]
       · rw [if_neg h3]
         unfold sign1 at h1
         simp only [Bool.or_eq_true, beq_iff_eq, not_or] at h1
         obtain ⟨⟨⟨⟨⟨⟨⟨⟨⟨⟨⟨n1, n2⟩, n3⟩, n4⟩, n5⟩, n6⟩, n7⟩, n8⟩, n9⟩, n10⟩, n11⟩, n12⟩ := h1
         have e : ∀ x : UInt8, a ≠ x → (x == a) = false := fun x h => by simpa using Ne.symm h
         by_cases h4 : a = 61
         · subst h4; cases hb : (r.head? == some 61) <;> simp only [sgF, sgL, List.find?, head1, pre2, hb] <;> simp at hb <;> simp [hb]
         · by_cases h5 : a = 38
           · subst h5; cases hb : (r.head? == some 38) <;> simp only [sgF, sgL, List.find?, head1, pre2, hb] <;> simp at hb <;> simp [hb]
           · by_cases h6 : a = 124
             · subst h6; cases hb : (r.head? == some 124) <;> simp only [sgF, sgL, List.find?, head1, pre2, hb] <;> simp at hb <;> simp [hb]
             · rw [if_neg (by rintro ⟨h | h | h, _⟩; exact h4 h; exact h5 h; exact h6 h)]
               simp only [sgF, sgL, List.find?, head1, pre2] <;> simp [e _ n1, e _ n2, e _ n3, e _ n4, e _ n5, e _ n6, e _ n7, e _ n8, e _ n9, e _ n10, e _ n11, e _ n12, e _ h2, e _ h3, e _ h4, e _ h5, e _ h6]
theorem sgF_hit {k : Nat} {x l : List UInt8} (h : sgL[k]? = some x) (hp : x.isPrefixOf l = true) : sgF (sgL.drop k) l = x := by
 have hk := (List.getElem?_eq_some_iff.1 h).1
 rw [List.getElem?_eq_getElem hk] at h
 injection h with h
 unfold sgF
 rw [List.drop_eq_getElem_cons hk, h, List.find?_cons_of_pos (by simpa using hp)]; rfl
theorem sgF_miss {k : Nat} {x l : List UInt8} (h : sgL[k]? = some x) (hp : x.isPrefixOf l = false) : sgF (sgL.drop k) l = sgF (sgL.drop (k + 1)) l := by
 have hk := (List.getElem?_eq_some_iff.1 h).1
 rw [List.getElem?_eq_getElem hk] at h
 injection h with h
 unfold sgF
 rw [List.drop_eq_getElem_cons hk, h, List.find?_cons_of_neg (by simp [hp])]
theorem encStr_bs (x : List UInt8) : encStr x = .string (bsOf x) := rfl
set_option maxRecDepth 100000 in
set_option maxHeartbeats 1600000 in
theorem word_sign (s : ByteArray) (w : World) :
   Calls Tryz.prog 156 #[.string s] w fun e w' => e = .returned (.string (bsOf (signP s.toList))) ∧ RowKit.Below w.heap.size w w' := by
 have hsl : ∀ (i : Nat) (l : List UInt8), sgL[i]? = some l → (w.alloc (.cells #[.string ⟨#[58, 58]⟩, .string ⟨#[61, 61]⟩, .string ⟨#[60, 61]⟩, .string ⟨#[38, 38]⟩, .string ⟨#[124, 124]⟩, .string ⟨#[40]⟩, .string ⟨#[41]⟩, .string ⟨#[91]⟩, .string ⟨#[93]⟩, .string ⟨#[123]⟩, .string ⟨#[125]⟩, .string ⟨#[44]⟩, .string ⟨#[58]⟩, .string ⟨#[46]⟩, .string ⟨#[60]⟩, .string ⟨#[33]⟩, .string ⟨#[43]⟩, .string ⟨#[45]⟩, .string ⟨#[42]⟩] 9)).cell? ⟨w.heap.size, i, none⟩ = some (.string (bsOf l)) := fun i l hl => by
   have hh : (#[.string ⟨#[58, 58]⟩, .string ⟨#[61, 61]⟩, .string ⟨#[60, 61]⟩, .string ⟨#[38, 38]⟩, .string ⟨#[124, 124]⟩, .string ⟨#[40]⟩, .string ⟨#[41]⟩, .string ⟨#[91]⟩, .string ⟨#[93]⟩, .string ⟨#[123]⟩, .string ⟨#[125]⟩, .string ⟨#[44]⟩, .string ⟨#[58]⟩, .string ⟨#[46]⟩, .string ⟨#[60]⟩, .string ⟨#[33]⟩, .string ⟨#[43]⟩, .string ⟨#[45]⟩, .string ⟨#[42]⟩] : Array Value) = (sgL.map encStr).toArray := rfl
   rw [World.cell?_alloc_new, hh, List.getElem?_toArray, List.getElem?_map, hl]; rfl
 have hb1 : RowKit.Below w.heap.size w (w.alloc (.cells #[.string ⟨#[58, 58]⟩, .string ⟨#[61, 61]⟩, .string ⟨#[60, 61]⟩, .string ⟨#[38, 38]⟩, .string ⟨#[124, 124]⟩, .string ⟨#[40]⟩, .string ⟨#[41]⟩, .string ⟨#[91]⟩, .string ⟨#[93]⟩, .string ⟨#[123]⟩, .string ⟨#[125]⟩, .string ⟨#[44]⟩, .string ⟨#[58]⟩, .string ⟨#[46]⟩, .string ⟨#[60]⟩, .string ⟨#[33]⟩, .string ⟨#[43]⟩, .string ⟨#[45]⟩, .string ⟨#[42]⟩] 9)) := by (repeat (first | assumption | exact Below.refl _ _ | apply Below.drew | apply below_drewN | (refine Below.alloc ?_ (by first | exact Nat.le_refl _ | omega | (simp; done) | (simp; omega)) _)))
 have HS := Lib.hid hsl
 clear hsl
 go_enter Tryz.func156, Tryz.ntmps156
 go_wp2_with fail
 generalize (w.alloc (.cells #[.string ⟨#[58, 58]⟩, .string ⟨#[61, 61]⟩, .string ⟨#[60, 61]⟩, .string ⟨#[38, 38]⟩, .string ⟨#[124, 124]⟩, .string ⟨#[40]⟩, .string ⟨#[41]⟩, .string ⟨#[91]⟩, .string ⟨#[93]⟩, .string ⟨#[123]⟩, .string ⟨#[125]⟩, .string ⟨#[44]⟩, .string ⟨#[58]⟩, .string ⟨#[46]⟩, .string ⟨#[60]⟩, .string ⟨#[33]⟩, .string ⟨#[43]⟩, .string ⟨#[45]⟩, .string ⟨#[42]⟩] 9)) = w1 at HS hb1 ⊢
 go_loop [7] (fun t => ∃ k : Nat, k ≤ 19 ∧ t = .int .i64 k ∧ Hid (sgF (sgL.drop k) s.toList = signP s.toList)) (fun t => 19 - (intOf t).toNat)
 case atStart => exact ⟨0, by omega, rfl, sgF_eq _⟩
 case round =>
   obtain ⟨k, hk, rfl, HK⟩ := hrel
   by_cases hlt : k < 19
   · obtain ⟨x, hx⟩ : ∃ x, sgL[k]? = some x := ⟨_, List.getElem?_eq_getElem (show k < sgL.length from hlt)⟩
     have c0 := HS.out k x hx
     have HX := Lib.hid hx
     have hpx : Lib.hasPrefix s.data.toList (bsOf x).data.toList = x.isPrefixOf s.toList := by rw [← ByteArray.toList_eq]; rfl
     have HP := Lib.hid (fun W => Tryz.strings_HasPrefix s (bsOf x) W)
     rw [hpx] at HP
     clear hx hpx
     by_cases hp : x.isPrefixOf s.toList = true
     · have HR : Hid (signP s.toList = x) := by show _ = _; rw [← HK.out]; exact sgF_hit HX.out hp
       rw [hp] at HP
       clear hp
       go_wp2_with fail
       refine Calls.mono (HP.out _) ?_
       rintro r w2 ⟨rfl, rfl⟩
       go_wp2_with fail
       go_ret
       rw [HR.out]
       exact ⟨rfl, hb1⟩
     · have hp : x.isPrefixOf s.toList = false := Bool.eq_false_iff.2 hp
       have HK2 : Hid (sgF (sgL.drop (k + 1)) s.toList = signP s.toList) := by show _ = _; rw [← HK.out]; exact (sgF_miss HX.out hp).symm
       rw [hp] at HP
       clear hp
       go_wp2_with fail
       refine Calls.mono (HP.out _) ?_
       rintro r w2 ⟨rfl, rfl⟩
       go_wp2_with fail
       go_round
       case rel => exact ⟨k + 1, by omega, by go_num, HK2⟩
       case measure => simp [intOf]; omega
   · have hk19 : k = 19 := by omega
     have HR : Hid (signP s.toList = []) := by show _ = _; rw [← HK.out, hk19]; rfl
     go_wp2_with fail
     go_ret
     rw [HR.out]
     exact ⟨rfl, hb1⟩
end Go.Proofs.YtbggbcnfkcadjaaGreatDoor
namespace Go.Proofs.YtbggbcnfkcadjaaGreatDoor
open Go.RowKit
theorem bld_size : (Tryz.prog.info? 137).map (·.size) = some 2 := by kernel_rfl
theorem bld_lies : liesAt Tryz.prog Tryz.prog.depth 137 (2 / Tryz.prog.cellsOf 137) 0 137 1 = true := by kernel_rfl
theorem bld_byte : (Tryz.prog.info? 5).map (fun i => (i.zero, i.size, i.bytes)) = some (some (.int .u8 0), 1, 1) := by kernel_rfl
set_option maxHeartbeats 1000000 in
set_option maxRecDepth 100000 in
theorem bld_check_used (b : Nat) (w : World) (h0 : w.cell? ⟨b, 0, none⟩ = some (.pointer (some ⟨b, 0, none⟩))) :
   Calls Tryz.prog 131 #[.pointer (some ⟨b, 0, none⟩)] w fun e w' => e = .returned (.tuple #[]) ∧ w' = w := by
 obtain ⟨j, hj, _⟩ := Option.map_eq_some_iff.1 bld_size
 go_enter Tryz.func131, Tryz.ntmps131
 go_wp2
 rw [Lib.run_neq_ptr_same w _ Tryz.underlying134 hj]
 go_wp2
 go_end0
 exact ⟨rfl, rfl⟩
set_option maxHeartbeats 1000000 in
set_option maxRecDepth 100000 in
theorem bld_check_fresh (b : Nat) (w : World) (h0 : w.cell? ⟨b, 0, none⟩ = some (.pointer none)) (hsh : w.shape? b = some (137, 2)) (hfz : w.frozen? ⟨b, 0, none⟩ = false) :
   Calls Tryz.prog 131 #[.pointer (some ⟨b, 0, none⟩)] w fun e w' => e = .returned (.tuple #[]) ∧ w' = w.setCell ⟨b, 0, none⟩ (.pointer (some ⟨b, 0, none⟩)) := by
 obtain ⟨j, hj, hjs⟩ := Option.map_eq_some_iff.1 bld_size
 go_enter Tryz.func131, Tryz.ntmps131
 go_wp2
 rw [Lib.run_to_unsafe w ⟨b, 0, none⟩ Tryz.underlying134 Tryz.underlying118 hj (by rw [hjs]; decide) hsh (Nat.zero_lt_succ 1)]
 simp only [Result.andThen]
 rw [Oper.upon_value]
 go_wp2
 rw [run_callFunc_extern Tryz.func157 (by kernel_rfl) (by kernel_rfl) (by kernel_rfl) (e := Extern.AbiNoEscape.same) (by kernel_rfl)]
 rw [Lib.run_noEscape]
 simp only [Result.andThen]
 rw [Oper.upon_value]
 go_wp2
 rw [Lib.run_from_unsafe w ⟨b, 0, none⟩ Tryz.underlying118 Tryz.underlying134 hj hsh bld_lies]
 simp only [Result.andThen]
 rw [Oper.upon_value]
 go_wp2
 go_end0
 exact ⟨rfl, rfl⟩
theorem bld_check (B b : Nat) (bs : List Value) (w : World) (h : Lib.IsBuilder 137 5 B b bs w) :
   Calls Tryz.prog 131 #[.pointer (some ⟨b, 0, none⟩)] w fun e w' => e = .returned (.tuple #[]) ∧ (Lib.BuilderAt 137 5 B b (.pointer (some ⟨b, 0, none⟩)) bs w' ∧ Below B w w') := by
 rcases h with h | h
 · refine (bld_check_fresh b w h.cell0 h.shape h.frozen0).mono ?_
   rintro e w' ⟨rfl, rfl⟩
   exact ⟨rfl, h.used _, (Below.refl B w).setCell (p := ⟨b, 0, none⟩) h.1 _⟩
 · refine (bld_check_used b w h.cell0).mono ?_
   rintro e w' ⟨rfl, rfl⟩
   exact ⟨rfl, h, Below.refl B _⟩
set_option maxHeartbeats 2000000 in
set_option maxRecDepth 100000 in
theorem bld_WriteByte (B b : Nat) (bs : List Value) (c : Int) (w : World) (h : Lib.IsBuilder 137 5 B b bs w) (hlen : bs.length + 1 ≤ 140737488355328) (hBw : B ≤ w.heap.size) :
   Calls Tryz.prog 174 #[.pointer (some ⟨b, 0, none⟩), .int .u8 c] w fun e w' => e = .returned .nilIface ∧ (Lib.BuilderAt 137 5 B b (.pointer (some ⟨b, 0, none⟩)) (bs ++ [.int .u8 c]) w' ∧ Below B w w') := by
 obtain ⟨i0, hi, hz0, hz1, hz2⟩ := info_parts bld_byte
 go_enter Tryz.func174, Tryz.ntmps174
 go_wp2_with (go_at_call 131; refine (bld_check B b bs _ h).mono ?_)
 rintro e w1 ⟨rfl, h1, hb1⟩
 obtain ⟨hB, v, hbk, hown, hne⟩ := h1
 have c0 : w1.cell? ⟨b, 0, none⟩ = some (.pointer (some ⟨b, 0, none⟩)) := by rw [Lib.cell_of_heap hbk]; rfl
 have c1 : w1.cell? ⟨b, 1, none⟩ = some v := by rw [Lib.cell_of_heap hbk]; rfl
 go_wp2_with (at_builtin; refine wpList_append_own _ rfl _ _ 135 rfl B 5 i0 (.int .u8 0) 1 1 Tryz.underlying135 hi hz0 hz1 hz2 rfl (by decide) _ _ _ rfl (hown.alloc _) ⟨w1.heap.size, 0, none⟩ 1 1 [.int .u8 c] rfl rfl ?c1 ?c2 ?c3 ?c4 ?c5 ?_)
 case c1 =>
   intro j u hj
   match j, hj with
   | 0, hj => simp at hj; subst hj; simp [Addr.add]
 case c2 => intro u hu; simp at hu; subst hu; rfl
 case c3 => unfold maxLen; omega
 case c4 => omega
 case c5 => have := hb1.size; simp; omega
 intro v' w2 hown' hgrow _
 have hlt : b < w1.heap.size := by
   rcases Nat.lt_or_ge b w1.heap.size with h' | h'
   · exact h'
   · simp [Array.getElem?_eq_none h'] at hbk
 have hb2 : w2.heap[b]? = some (.cells #[.pointer (some ⟨b, 0, none⟩), v] 137 (0, 0)) := by
   rw [hgrow.block b (by simp; omega) (fun e => hne e.symm), Lib.alloc_old w1 _ b hlt]
   exact hbk
 have d0 : w2.cell? ⟨b, 0, none⟩ = some (.pointer (some ⟨b, 0, none⟩)) := by rw [Lib.cell_of_heap hb2]; rfl
 have d1 : w2.cell? ⟨b, 1, none⟩ = some v := by rw [Lib.cell_of_heap hb2]; rfl
 have f1 : w2.frozen? ⟨b, 1, none⟩ = false := Lib.frozen_of_heap hb2 1
 obtain ⟨g, cap, rfl⟩ : ∃ g cap, v' = .slice (some ⟨g, 0, none⟩) (bs.length + 1) cap := by
   rcases hown'.2 with ⟨_, h0⟩ | ⟨g, cap, cur, hv, _⟩
   · omega
   · exact ⟨g, cap, hv⟩
 go_wp2
 go_ret
 refine ⟨rfl, ?_, ?_⟩
 · exact Lib.BuilderAt.put (T := 137) (e := 5) hB hb2 (bs' := bs ++ [.int .u8 c]) (by simpa using hown') (by decide)
 · exact ((hb1.alloc (by have := hb1.size; omega) _).grown hgrow (by have := hb1.size; simp; omega) (fun k hk => (hown.lt k hk).1)).setCell (p := ⟨b, 1, none⟩) hB _
end Go.Proofs.YtbggbcnfkcadjaaGreatDoor
namespace Go.Proofs.YtbggbcnfkcadjaaGreatDoor
open Go.RowKit
def headB (l : List UInt8) : Bool := match l with | [] => true | c :: _ => letterI (c.toNat : Int)
theorem nameErr_cons (c : UInt8) (r : List UInt8) : nameErr (c :: r) = if letterI (c.toNat : Int) = false then 1 else if (c :: r).all nameB = false then 1 else if 20 < (c :: r).length then 4 else 0 := rfl
theorem nameErr_bad {l : List UInt8} (h : headB l = false ∨ l.all nameB = false) : nameErr l = 1 := by
 cases l with
 | nil => rfl
 | cons c r =>
   rw [nameErr_cons]
   by_cases h1 : letterI (c.toNat : Int) = false
   · rw [if_pos h1]
   · rw [if_neg h1]
     rcases h with h | h
     · exact absurd h h1
     · rw [if_pos h]
theorem nameErr_end {l : List UInt8} (hne : l.length ≠ 0) (hh : headB l = true) (ha : l.all nameB = true) : nameErr l = if 20 < l.length then 4 else 0 := by
 cases l with
 | nil => exact absurd rfl hne
 | cons c r =>
   have hc : letterI (c.toNat : Int) = true := hh
   rw [nameErr_cons, if_neg (by rw [hc]; decide), if_neg (by rw [ha]; decide)]
theorem drop_none (s : ByteArray) (k : Nat) (h : s.size ≤ k) : s.toList.drop k = [] := List.drop_eq_nil_of_le (by rw [toList_len]; exact h)
theorem toList_drop (s : ByteArray) (k : Nat) (h : k < s.size) : s.toList.drop k = s[k] :: s.toList.drop (k + 1) := by
 have h1 := toList_get s k h
 have h2 : k < s.toList.length := by rw [toList_len]; exact h
 rw [List.drop_eq_getElem_cons h2]
 rw [List.getElem?_eq_getElem h2] at h1
 injection h1 with h1
 rw [h1]
set_option maxRecDepth 100000 in
set_option maxHeartbeats 400000 in
theorem r1_isLetter (b : Int) (w : World) :
   Calls Tryz.prog 72 #[.int .u8 b] w fun e w' => e = .returned (.bool (letterI b)) ∧ w = w' := by
 go_enter Tryz.func72, Tryz.ntmps72
 go_wp2
 all_goals (go_ret; exact ⟨ret_bool (by rw [Bool.eq_iff_iff]; simp [letterI]; omega), rfl⟩)
set_option maxRecDepth 100000 in
set_option maxHeartbeats 400000 in
theorem r1_isDigit (b : Int) (w : World) :
   Calls Tryz.prog 73 #[.int .u8 b] w fun e w' => e = .returned (.bool (digitI b)) ∧ w = w' := by
 go_enter Tryz.func73, Tryz.ntmps73
 go_wp2
 all_goals (go_ret; exact ⟨ret_bool (by rw [Bool.eq_iff_iff]; simp [digitI]; omega), rfl⟩)
set_option maxRecDepth 100000 in
set_option maxHeartbeats 400000 in
theorem r1_NameFault (s : ByteArray) (w : World) (hs : s.size ≤ 140737488351232) :
   Calls Tryz.prog 36 #[.string s] w fun e w' => e = .returned (.int .i64 (nameErr s.toList)) ∧ w = w' := by
 go_enter Tryz.func36, Tryz.ntmps36
 go_wp2_with fail
 go_loop [3] (fun i => ∃ k : Nat, k ≤ s.size ∧ i = .int .i64 k ∧ Hid ((s.toList.take k).all nameB = true) ∧ Hid (k = 0 ∨ headB s.toList = true)) (fun i => s.size - (intOf i).toNat)
 case atStart => exact ⟨0, by omega, rfl, by simp [Hid], .inl rfl⟩
 case round =>
   obtain ⟨k, hk, rfl, HK, HF⟩ := hrel
   by_cases hlt : k < s.size
   · have HG := Lib.hid (toList_get s k hlt)
     have HD : Hid (k = 0 → headB s.toList = letterI (s[k].toNat : Int)) := by
       intro h0
       subst h0
       obtain ⟨l, hl⟩ := toList_cons hlt
       rw [hl]; rfl
     by_cases h1 : letterI (s[k].toNat : Int) = true
     · go_wp2_with (go_at_call 72; refine (r1_isLetter _ _).mono ?_; rintro e w' ⟨rfl, rfl⟩)
       exact ⟨⟨k + 1, by omega, by go_num, all_take _ _ _ _ HK.out HG.out (by simp [nameB, h1]), (by
         rcases HF.out with h | h
         · right; rw [HD.out h]; exact h1
         · exact .inr h)⟩, by simp [intOf]; omega⟩
     · have h1' : letterI (s[k].toNat : Int) = false := by simpa using h1
       clear h1
       by_cases h0 : k = 0
       · have hz : (((k : Nat) : Int) == 0) = true := by simp [h0]
         have HB : Hid (nameErr s.toList = 1) := nameErr_bad (.inl (by rw [HD.out h0]; exact h1'))
         clear h0
         go_wp2_with (go_at_call 72; refine (r1_isLetter _ _).mono ?_; rintro e w' ⟨rfl, rfl⟩)
         go_ret
         exact ⟨ret_int HB.out.symm, rfl⟩
       · have hz : (((k : Nat) : Int) == 0) = false := by simp [h0]
         have HH : Hid (headB s.toList = true) := HF.out.resolve_left h0
         clear h0
         by_cases h2 : digitI (s[k].toNat : Int) = true
         · go_wp2_with (first | (go_at_call 72; refine (r1_isLetter _ _).mono ?_; rintro e w' ⟨rfl, rfl⟩) | (go_at_call 73; refine (r1_isDigit _ _).mono ?_; rintro e w' ⟨rfl, rfl⟩))
           exact ⟨⟨k + 1, by omega, by go_num, all_take _ _ _ _ HK.out HG.out (by simp [nameB, h2]), .inr HH.out⟩, by simp [intOf]; omega⟩
         · have h2' : digitI (s[k].toNat : Int) = false := by simpa using h2
           have HB : Hid (nameErr s.toList = 1) := nameErr_bad (.inr (all_bad s.toList nameB k s[k] HG.out (by simp [nameB, h1', h2'])))
           clear h2
           go_wp2_with (first | (go_at_call 72; refine (r1_isLetter _ _).mono ?_; rintro e w' ⟨rfl, rfl⟩) | (go_at_call 73; refine (r1_isDigit _ _).mono ?_; rintro e w' ⟨rfl, rfl⟩))
           go_ret
           exact ⟨ret_int HB.out.symm, rfl⟩
   · have hks : k = s.size := by omega
     subst hks
     have ha : s.toList.all nameB = true := by have := HK.out; rwa [List.take_of_length_le (by rw [toList_len]; omega)] at this
     have hsz := toList_len s
     by_cases h0 : s.size = 0
     · have hz : ((s.size : Int) == 0) = true := by simp [h0]
       have HB : Hid (nameErr s.toList = 1) := by
         have h5 : s.toList = [] := List.eq_nil_of_length_eq_zero (by omega)
         show _ = _
         rw [h5]; rfl
       clear h0 ha hsz
       go_wp2_with fail
       go_ret
       exact ⟨ret_int HB.out.symm, rfl⟩
     · have hz : ((s.size : Int) == 0) = false := by simp [h0]
       have HB : Hid (nameErr s.toList = if 20 < s.size then 4 else 0) := by
         show _ = _
         rw [nameErr_end (by omega) (HF.out.resolve_left h0) ha, hsz]
       clear h0 ha hsz
       by_cases h20 : 20 < s.size
       · go_wp2_with fail
         go_ret
         exact ⟨ret_int (by rw [HB.out, if_pos h20]), rfl⟩
       · go_wp2_with fail
         go_ret
         exact ⟨ret_int (by rw [HB.out, if_neg h20]), rfl⟩
end Go.Proofs.YtbggbcnfkcadjaaGreatDoor
namespace Go.Proofs.YtbggbcnfkcadjaaGreatDoor
open Go.RowKit
theorem isBuilder_far {T e : TypeId} {B b : Nat} {bs : List Value} {w : World} (h : Lib.IsBuilder T e B b bs w) {p : Addr} (hp : p.block < B) (u : Value) : Lib.IsBuilder T e B b bs (w.setCell p u) := by
 have key : ∀ q, Lib.BuilderAt T e B b q bs w → Lib.BuilderAt T e B b q bs (w.setCell p u) := fun q hq => by
   obtain ⟨hB, v, hb, hown, hne⟩ := hq
   refine ⟨hB, v, (Below.heap_setCell w p u b (by omega)).trans hb, hown.kept (row := some p.block) ⟨rfl, rfl, rfl, by simp [World.setCell], fun k _ hk => Below.heap_setCell w p u k (fun e => hk (by rw [e]))⟩ ?_, hne⟩
   cases hv : v.ownBlock with
   | none => exact .inl rfl
   | some g =>
     right
     intro h
     injection h with h
     have := (hown.lt g hv).1
     omega
 exact h.imp (key _) (key _)
def QuoPost (s : ByteArray) (i rb : Nat) (w : World) (q : Wd) (e : Ending) (w' : World) : Prop :=
 match q with
 | .ok kind t n => e = .returned (.agg #[.int .i64 kind, .string (bsOf t), .int .i64 i]) ∧ Blk w' rb 172 (rdS s (i + n)) ∧ Only w.heap.size rb w w'
 | .bad k => e = .panicked (faultV k i) ∧ Only w.heap.size rb w w'
theorem QuoPost.bad {s : ByteArray} {i rb : Nat} {w : World} {q : Wd} {e : Ending} {w' : World} {k : Int} (hq : q = .bad k) (he : e = .panicked (faultV k i)) (ho : Only w.heap.size rb w w') : QuoPost s i rb w q e w' := by subst hq; exact ⟨he, ho⟩
theorem QuoPost.ok {s : ByteArray} {i rb : Nat} {w : World} {q : Wd} {e : Ending} {w' : World} {kind : Int} {t : List UInt8} {n : Nat} (hq : q = .ok kind t n) (he : e = .returned (.agg #[.int .i64 kind, .string (bsOf t), .int .i64 i]))
   (hb : Blk w' rb 172 (rdS s (i + n))) (ho : Only w.heap.size rb w w') : QuoPost s i rb w q e w' := by subst hq; exact ⟨he, hb, ho⟩
theorem drop_noneW (s : ByteArray) (k : Nat) (h : s.size ≤ k) : s.toList.drop k = [] := List.drop_eq_nil_of_le (by rw [toList_len]; exact h)
theorem beq_lit {c d : UInt8} (h : c = d) : ((c.toNat : Int) == (d.toNat : Int)) = true := by rw [h]; simp
theorem bne_lit {c d : UInt8} (h : ¬ c = d) : ((c.toNat : Int) == (d.toNat : Int)) = false := by
 simp only [beq_eq_false_iff_ne, ne_eq]
 intro hh
 exact h (UInt8.toNat_inj.1 (by omega))
theorem bne_lit2 {c d : UInt8} (h : ¬ c = d) : ((c.toNat : Int) != (d.toNat : Int)) = true := by rw [bne, bne_lit h]; rfl
structure QInv (s : ByteArray) (rb : Nat) (w : World) (acc : List UInt8) (p : Nat) (W : World) : Prop where
 bu : Lib.IsBuilder 137 5 (w.heap.size + 1) (w.heap.size + 1) (Lib.byteCells acc) W
 rd : Blk W rb 172 (rdS s p)
 tk : Blk W w.heap.size 42 #[.int .i64 0, .string ⟨#[]⟩, .int .i64 0]
 on : Only w.heap.size rb w W
theorem QInv.drewN {s : ByteArray} {rb : Nat} {w : World} {acc : List UInt8} {p : Nat} {W : World} (h : QInv s rb w acc p W) (n : Nat) : QInv s rb w acc p (W.drewN n) := ⟨h.bu, h.rd, h.tk, h.on.drewN n⟩
theorem QInv.step {s : ByteArray} {rb : Nat} {w : World} {acc : List UInt8} {p : Nat} {W : World} (h : QInv s rb w acc p W) (hrb : rb < w.heap.size) (j : Nat) : QInv s rb w acc j (W.setCell ⟨rb, 1, none⟩ (.int .i64 (j : Int))) :=
 ⟨isBuilder_far h.bu (show rb < w.heap.size + 1 by omega) _, rdS_step h.rd, h.tk.far (show w.heap.size ≠ rb by omega) _, h.on.setCell (.inl rfl) _⟩
theorem QInv.wrote {s : ByteArray} {rb : Nat} {w : World} {acc : List UInt8} {p : Nat} {W W' : World} (h : QInv s rb w acc p W) (hrb : rb < w.heap.size) {c : UInt8}
   (hb : Lib.BuilderAt 137 5 (w.heap.size + 1) (w.heap.size + 1) (.pointer (some ⟨w.heap.size + 1, 0, none⟩)) (Lib.byteCells acc ++ [.int .u8 (c.toNat : Int)]) W') (hW : Below (w.heap.size + 1) W W') : QInv s rb w (acc ++ [c]) p W' :=
 ⟨.inr (by rw [Lib.byteCells_append]; exact hb), h.rd.below hW (by omega), h.tk.below hW (by omega), h.on.trans (Only.of_below hW (by omega))⟩
theorem QInv.size {s : ByteArray} {rb : Nat} {w : World} {acc : List UInt8} {p : Nat} {W : World} (h : QInv s rb w acc p W) : w.heap.size + 1 ≤ W.heap.size := h.tk.lt
set_option maxRecDepth 100000 in
set_option maxHeartbeats 6400000 in
theorem word_quoted (s : ByteArray) (i rb : Nat) (w : World) (hs : s.size ≤ 140737488351232) (hi : i < s.size) (hb : Blk w rb 172 (rdS s i)) :
   Calls Tryz.prog 155 #[.pointer (some ⟨rb, 0, none⟩)] w (QuoPost s i rb w (quoP (s.toList.drop (i + 1)) [] 1)) := by
 have hrb := hb.lt
 have k0 : w.cell? ⟨rb, 0, none⟩ = some (.string s) := hb.cell 0
 have k1 : w.cell? ⟨rb, 1, none⟩ = some (.int .i64 i) := hb.cell 1
 have z1 : w.frozen? ⟨rb, 1, none⟩ = false := hb.frozen 1
 have HB := Lib.hid hb
 obtain ⟨q, hq⟩ : ∃ q, quoP (s.toList.drop (i + 1)) [] 1 = q := ⟨_, rfl⟩
 rw [hq]
 have HQ := Lib.hid hq
 clear hb hq
 go_enter Tryz.func155, Tryz.ntmps155
 go_wp2_with fail
 go_loopg [5] (s.size + 1) (fun gg cc wr => ∃ p : Nat, ∃ acc : List UInt8, i + 1 ≤ p ∧ p ≤ s.size ∧ acc.length ≤ p ∧ s.size + 1 - p ≤ gg ∧ Hid (quoP (s.toList.drop p) acc (p - i) = q) ∧ Hid (QInv s rb w acc p wr))
 case atStart =>
   refine ⟨i + 1, [], Nat.le_refl _, by omega, by simp, by omega, by show _ = _; rw [show i + 1 - i = 1 from by omega]; exact HQ.out, ?_⟩
   show QInv _ _ _ _ _ _
   refine ⟨?_, ((rdS_step HB.out).alloc _).alloc _, ?_, (((Only.refl w.heap.size rb w).setCell (.inl rfl) _).alloc (by simp [World.setCell]) _).alloc (by simp [World.setCell]) _⟩
   · have := Lib.fresh_isBuilder 137 5 ((w.setCell ⟨rb, 1, none⟩ (.int .i64 ((i : Int) + 1))).alloc (.cells #[.int .i64 0, .string ⟨#[]⟩, .int .i64 0] 42))
     rwa [World.size_alloc, show (w.setCell ⟨rb, 1, none⟩ (.int .i64 ((i : Int) + 1))).heap.size = w.heap.size from by simp [World.setCell]] at this
   · have h := (Blk.new (w.setCell ⟨rb, 1, none⟩ (.int .i64 ((i : Int) + 1))) 42 #[.int .i64 0, .string ⟨#[]⟩, .int .i64 0]).alloc (.cells #[.pointer none, .slice none 0 0] 137)
     rwa [show (w.setCell ⟨rb, 1, none⟩ (.int .i64 ((i : Int) + 1))).heap.size = w.heap.size from by simp [World.setCell]] at h
 case round =>
   obtain ⟨p, acc, hip, hp, hacc, hgg, HP, HI⟩ := hrel
   have hrbw : rb < wr.heap.size := HI.out.rd.lt
   have c0 : wr.cell? ⟨rb, 0, none⟩ = some (.string s) := HI.out.rd.cell 0
   have c1 : wr.cell? ⟨rb, 1, none⟩ = some (.int .i64 p) := HI.out.rd.cell 1
   have y1 : wr.frozen? ⟨rb, 1, none⟩ = false := HI.out.rd.frozen 1
   clear k0 k1 z1
   by_cases hlt : p < s.size
   · have HD := Lib.hid (toList_drop s p hlt)
     rw [HD.out, quoP_cons] at HP
     have hd : decide ((s.size : Int) ≤ (p : Int)) = false := by simp; omega
     by_cases h34 : s[p] = 34
     · have t34 : ((s[p].toNat : Int) == 34) = true := beq_lit h34
       rw [if_pos h34] at HP
       clear h34
       by_cases h60 : 60 < acc.length
       · have HP2 : Hid (q = .bad 4) := by show _ = _; rw [← HP.out, if_pos h60]
         clear HP
         go_wp2_with fail
         go_quiet (fail)
         go_wp2_with fail
         go_quiet (fail)
         go_wp2_with fail
         generalize hw1 : (wr.drewN _).setCell ⟨rb, 1, none⟩ (.int .i64 ((p : Int) + 1)) = w1
         have hI1 : QInv s rb w acc (p + 1) w1 := by rw [← hw1]; exact (HI.out.drewN _).step hrb (p + 1)
         have hL := Tryz.Builder_Len (w.heap.size + 1) (w.heap.size + 1) (Lib.byteCells acc) _ hI1.bu
         rw [Lib.byteCells_length] at hL
         clear hw1
         refine Calls.mono hL ?_
         rintro r w2 ⟨rfl, rfl⟩
         go_wp2_with fail
         exact ⟨rfl, QuoPost.bad HP2.out rfl hI1.on⟩
       · have HP2 : Hid (q = .ok 3 acc (p - i + 1)) := by show _ = _; rw [← HP.out, if_neg h60]
         clear HP
         go_wp2_with fail
         go_quiet (fail)
         go_wp2_with fail
         go_quiet (fail)
         go_wp2_with fail
         generalize hw1 : (wr.drewN _).setCell ⟨rb, 1, none⟩ (.int .i64 ((p : Int) + 1)) = w1
         have hI1 : QInv s rb w acc (p + 1) w1 := by rw [← hw1]; exact (HI.out.drewN _).step hrb (p + 1)
         have hL := Tryz.Builder_Len (w.heap.size + 1) (w.heap.size + 1) (Lib.byteCells acc) _ hI1.bu
         have HST := Lib.hid (Tryz.Builder_String_any (w.heap.size + 1) (w.heap.size + 1) acc _ hI1.bu hI1.size)
         rw [Lib.byteCells_length] at hL
         have HI1 := Lib.hid hI1
         clear hw1 hI1 c0 c1 y1
         refine Calls.mono hL ?_
         rintro r w2 ⟨rfl, rfl⟩
         go_wp2_with fail
         refine Calls.mono HST.out ?_
         rintro r w3 ⟨rfl, hb3⟩
         have HT3 := Lib.hid (HI1.out.tk.below hb3 (by omega))
         have hk3 := HT3.out.cell
         have hz3 := HT3.out.frozen
         have hlt3 := HT3.out.lt
         go_wp2_with fail
         have hne2 : rb ≠ w.heap.size := by omega
         have hb4 : Blk w3 rb 172 (rdS s (p + 1)) := HI1.out.rd.below hb3 (by omega)
         have ho4 : Only w.heap.size rb w w3 := HI1.out.on.trans (Only.of_below hb3 (by omega))
         refine bodyPost_ret (v := .agg #[.int .i64 3, .string ⟨acc.toArray⟩, .int .i64 i]) (by simp [results, Tryz.results155, go_sem, hk3]) rfl ?_
         refine QuoPost.ok HP2.out rfl ?_ (by (repeat (first | assumption | exact Only.refl _ _ _ | apply Only.drew | apply Only.drewN | (refine Only.alloc ?_ (by first | exact Nat.le_refl _ | omega | (simp; done) | (simp; omega)) _) | (refine Only.setCell ?_ (by first | exact .inl rfl | exact .inr (Nat.le_refl _) | exact .inr (by first | omega | (simp; omega))) _))))
         rw [show i + (p - i + 1) = p + 1 from by omega]
         exact ((hb4.far hne2 _).far hne2 _).far hne2 _
     · have t34 : ((s[p].toNat : Int) == 34) = false := bne_lit h34
       rw [if_neg h34] at HP
       clear h34
       by_cases h92 : s[p] = 92
       · have t92 : ((s[p].toNat : Int) == 92) = true := beq_lit h92
         rw [if_pos h92] at HP
         clear h92
         by_cases hlt1 : p + 1 < s.size
         · rw [toList_drop s (p + 1) hlt1] at HP
           have hd1 : decide ((s.size : Int) ≤ (p : Int) + 1) = false := by simp; omega
           have hix : ∀ W, (Instr.index 9 (.string s) (.int .i64 ((p : Int) + 1))).run Tryz.prog W = .ok (.int .u8 (s[p + 1].toNat : Int)) W := run_index_str s (p + 1) hlt1
           by_cases hq2 : s[p + 1] = 34 ∨ s[p + 1] = 92
           · have HP2 : Hid (quoP (s.toList.drop (p + 2)) (acc ++ [s[p + 1]]) (p + 2 - i) = q) := by
               show _ = _; rw [← HP.out]; simp only; rw [if_pos hq2, show p + 2 - i = p - i + 2 from by omega]
             clear HP
             have hlo : ¬ (s[p + 1].toNat : Int) < 32 := by rcases hq2 with h | h <;> rw [h] <;> decide
             have hhi : ¬ 126 < (s[p + 1].toNat : Int) := by rcases hq2 with h | h <;> rw [h] <;> decide
             go_wp2_with fail
             go_quiet (fail)
             go_wp2_with fail
             go_quiet (fail)
             go_wp2_with fail
             generalize hw1 : (wr.drewN _).setCell ⟨rb, 1, none⟩ (.int .i64 ((p : Int) + 1)) = w1
             have hI1 : QInv s rb w acc (p + 1) w1 := by rw [← hw1]; exact (HI.out.drewN _).step hrb (p + 1)
             have HI1 := Lib.hid hI1
             clear hw1 hI1 c0 c1 y1
             have c0 : w1.cell? ⟨rb, 0, none⟩ = some (.string s) := HI1.out.rd.cell 0
             have c1 : w1.cell? ⟨rb, 1, none⟩ = some (.int .i64 ((p : Int) + 1)) := HI1.out.rd.cell 1
             have y1 : w1.frozen? ⟨rb, 1, none⟩ = false := HI1.out.rd.frozen 1
             have hlt2 := HI1.out.rd.lt
             rcases hq2 with hq2 | hq2
             · have e34 : ((s[p + 1].toNat : Int) != 34) = false := by rw [hq2]; rfl
               clear hq2
               go_quiet (fail)
               go_wp2_with fail
               go_quiet (fail)
               go_wp2_with fail
               generalize hw2 : w1.drewN _ = w2
               have hI2 : QInv s rb w acc (p + 1) w2 := by rw [← hw2]; exact HI1.out.drewN _
               have HI2 := Lib.hid hI2
               clear hw2 hI2 c0 c1 y1
               refine Calls.mono (bld_WriteByte (w.heap.size + 1) (w.heap.size + 1) (Lib.byteCells acc) (s[p + 1].toNat : Int) _ HI2.out.bu (by rw [Lib.byteCells_length]; omega) HI2.out.size) ?_
               rintro r w3 ⟨rfl, hbd2, hb2⟩
               have HI3 := Lib.hid (HI2.out.wrote hrb hbd2 hb2)
               have c0 : w3.cell? ⟨rb, 0, none⟩ = some (.string s) := HI3.out.rd.cell 0
               have c1 : w3.cell? ⟨rb, 1, none⟩ = some (.int .i64 ((p + 1 : Nat) : Int)) := HI3.out.rd.cell 1
               have y1 : w3.frozen? ⟨rb, 1, none⟩ = false := HI3.out.rd.frozen 1
               have hlt3 := HI3.out.rd.lt
               clear hbd2 hb2 HI2 hix
               go_wp2_with fail
               go_roundg (s.size + 1 - (p + 2))
               case measure => omega
               case rel => exact ⟨p + 2, acc ++ [s[p + 1]], by omega, by omega, by rw [List.length_append, List.length_singleton]; omega, by omega, HP2, HI3.out.step hrb (p + 2)⟩
             · have e34 : ((s[p + 1].toNat : Int) != 34) = true := by rw [hq2]; rfl
               have e92 : ((s[p + 1].toNat : Int) != 92) = false := by rw [hq2]; rfl
               clear hq2
               go_quiet (fail)
               go_wp2_with fail
               go_quiet (fail)
               go_wp2_with fail
               generalize hw2 : w1.drewN _ = w2
               have hI2 : QInv s rb w acc (p + 1) w2 := by rw [← hw2]; exact HI1.out.drewN _
               have HI2 := Lib.hid hI2
               clear hw2 hI2 c0 c1 y1
               refine Calls.mono (bld_WriteByte (w.heap.size + 1) (w.heap.size + 1) (Lib.byteCells acc) (s[p + 1].toNat : Int) _ HI2.out.bu (by rw [Lib.byteCells_length]; omega) HI2.out.size) ?_
               rintro r w3 ⟨rfl, hbd2, hb2⟩
               have HI3 := Lib.hid (HI2.out.wrote hrb hbd2 hb2)
               have c0 : w3.cell? ⟨rb, 0, none⟩ = some (.string s) := HI3.out.rd.cell 0
               have c1 : w3.cell? ⟨rb, 1, none⟩ = some (.int .i64 ((p + 1 : Nat) : Int)) := HI3.out.rd.cell 1
               have y1 : w3.frozen? ⟨rb, 1, none⟩ = false := HI3.out.rd.frozen 1
               have hlt3 := HI3.out.rd.lt
               clear hbd2 hb2 HI2 hix
               go_wp2_with fail
               go_roundg (s.size + 1 - (p + 2))
               case measure => omega
               case rel => exact ⟨p + 2, acc ++ [s[p + 1]], by omega, by omega, by rw [List.length_append, List.length_singleton]; omega, by omega, HP2, HI3.out.step hrb (p + 2)⟩
           · have HP2 : Hid (q = .bad 1) := by show _ = _; rw [← HP.out]; simp only; rw [if_neg hq2]
             have e34 : ((s[p + 1].toNat : Int) != 34) = true := bne_lit2 (d := 34) (fun h => hq2 (.inl h))
             have e92 : ((s[p + 1].toNat : Int) != 92) = true := bne_lit2 (d := 92) (fun h => hq2 (.inr h))
             clear HP hq2
             go_wp2_with fail
             go_quiet (fail)
             go_wp2_with fail
             go_quiet (fail)
             go_wp2_with fail
             generalize hw1 : (wr.drewN _).setCell ⟨rb, 1, none⟩ (.int .i64 ((p : Int) + 1)) = w1
             have hI1 : QInv s rb w acc (p + 1) w1 := by rw [← hw1]; exact (HI.out.drewN _).step hrb (p + 1)
             have HI1 := Lib.hid hI1
             clear hw1 hI1 c0 c1 y1
             have c0 : w1.cell? ⟨rb, 0, none⟩ = some (.string s) := HI1.out.rd.cell 0
             have c1 : w1.cell? ⟨rb, 1, none⟩ = some (.int .i64 ((p : Int) + 1)) := HI1.out.rd.cell 1
             go_quiet (fail)
             go_wp2_with fail
             exact ⟨rfl, QuoPost.bad HP2.out rfl (by have := HI1.out.on; (repeat (first | assumption | exact Only.refl _ _ _ | apply Only.drew | apply Only.drewN | (refine Only.alloc ?_ (by first | exact Nat.le_refl _ | omega | (simp; done) | (simp; omega)) _) | (refine Only.setCell ?_ (by first | exact .inl rfl | exact .inr (Nat.le_refl _) | exact .inr (by first | omega | (simp; omega))) _))))⟩
         · have HP2 : Hid (q = .bad 1) := by show _ = _; rw [← HP.out, drop_noneW s (p + 1) (by omega)]
           have hd1 : decide ((s.size : Int) ≤ (p : Int) + 1) = true := by simp; omega
           clear HP
           go_wp2_with fail
           go_quiet (fail)
           go_wp2_with fail
           go_quiet (fail)
           go_wp2_with fail
           generalize hw1 : (wr.drewN _).setCell ⟨rb, 1, none⟩ (.int .i64 ((p : Int) + 1)) = w1
           have hI1 : QInv s rb w acc (p + 1) w1 := by rw [← hw1]; exact (HI.out.drewN _).step hrb (p + 1)
           have HI1 := Lib.hid hI1
           clear hw1 hI1 c0 c1 y1
           have c0 : w1.cell? ⟨rb, 0, none⟩ = some (.string s) := HI1.out.rd.cell 0
           have c1 : w1.cell? ⟨rb, 1, none⟩ = some (.int .i64 ((p : Int) + 1)) := HI1.out.rd.cell 1
           go_quiet (fail)
           go_wp2_with fail
           exact ⟨rfl, QuoPost.bad HP2.out rfl (by have := HI1.out.on; (repeat (first | assumption | exact Only.refl _ _ _ | apply Only.drew | apply Only.drewN | (refine Only.alloc ?_ (by first | exact Nat.le_refl _ | omega | (simp; done) | (simp; omega)) _) | (refine Only.setCell ?_ (by first | exact .inl rfl | exact .inr (Nat.le_refl _) | exact .inr (by first | omega | (simp; omega))) _))))⟩
       · have t92 : ((s[p].toNat : Int) == 92) = false := bne_lit h92
         rw [if_neg h92] at HP
         clear h92
         by_cases hlo : (s[p].toNat : Int) < 32
         · have HP2 : Hid (q = .bad 1) := by show _ = _; rw [← HP.out, if_neg (by simp [plainB]; omega)]
           clear HP
           go_wp2_with fail
           go_quiet (fail)
           go_wp2_with fail
           go_quiet (fail)
           go_wp2_with fail
           exact ⟨rfl, QuoPost.bad HP2.out rfl (by have := HI.out.on; (repeat (first | assumption | exact Only.refl _ _ _ | apply Only.drew | apply Only.drewN | (refine Only.alloc ?_ (by first | exact Nat.le_refl _ | omega | (simp; done) | (simp; omega)) _) | (refine Only.setCell ?_ (by first | exact .inl rfl | exact .inr (Nat.le_refl _) | exact .inr (by first | omega | (simp; omega))) _))))⟩
         · by_cases hhi : 126 < (s[p].toNat : Int)
           · have HP2 : Hid (q = .bad 1) := by show _ = _; rw [← HP.out, if_neg (by simp [plainB]; omega)]
             clear HP
             go_wp2_with fail
             go_quiet (fail)
             go_wp2_with fail
             go_quiet (fail)
             go_wp2_with fail
             exact ⟨rfl, QuoPost.bad HP2.out rfl (by have := HI.out.on; (repeat (first | assumption | exact Only.refl _ _ _ | apply Only.drew | apply Only.drewN | (refine Only.alloc ?_ (by first | exact Nat.le_refl _ | omega | (simp; done) | (simp; omega)) _) | (refine Only.setCell ?_ (by first | exact .inl rfl | exact .inr (Nat.le_refl _) | exact .inr (by first | omega | (simp; omega))) _))))⟩
           · have HP2 : Hid (quoP (s.toList.drop (p + 1)) (acc ++ [s[p]]) (p + 1 - i) = q) := by
               show _ = _; rw [← HP.out, if_pos (by simp [plainB]; omega), show p + 1 - i = p - i + 1 from by omega]
             clear HP
             go_wp2_with fail
             go_quiet (fail)
             go_wp2_with fail
             go_quiet (fail)
             go_wp2_with fail
             generalize hw1 : wr.drewN _ = w1
             have hI1 : QInv s rb w acc p w1 := by rw [← hw1]; exact HI.out.drewN _
             have HI1 := Lib.hid hI1
             clear hw1 hI1 c0 c1 y1
             refine Calls.mono (bld_WriteByte (w.heap.size + 1) (w.heap.size + 1) (Lib.byteCells acc) (s[p].toNat : Int) _ HI1.out.bu (by rw [Lib.byteCells_length]; omega) HI1.out.size) ?_
             rintro r w2 ⟨rfl, hbd2, hb2⟩
             have HI2 := Lib.hid (HI1.out.wrote hrb hbd2 hb2)
             have c0 : w2.cell? ⟨rb, 0, none⟩ = some (.string s) := HI2.out.rd.cell 0
             have c1 : w2.cell? ⟨rb, 1, none⟩ = some (.int .i64 p) := HI2.out.rd.cell 1
             have y1 : w2.frozen? ⟨rb, 1, none⟩ = false := HI2.out.rd.frozen 1
             have hlt2 := HI2.out.rd.lt
             clear hbd2 hb2 HI1
             go_wp2_with fail
             go_roundg (s.size + 1 - (p + 1))
             case measure => omega
             case rel => exact ⟨p + 1, acc ++ [s[p]], by omega, by omega, by rw [List.length_append, List.length_singleton]; omega, by omega, HP2, HI2.out.step hrb (p + 1)⟩
   · have HP2 : Hid (q = .bad 1) := by show _ = _; rw [← HP.out, drop_noneW s p (by omega)]; rfl
     have hd : decide ((s.size : Int) ≤ (p : Int)) = true := by simp; omega
     clear HP
     go_wp2_with fail
     go_quiet (fail)
     go_wp2_with fail
     exact ⟨rfl, QuoPost.bad HP2.out rfl (by have := HI.out.on; (repeat (first | assumption | exact Only.refl _ _ _ | apply Only.drew | apply Only.drewN | (refine Only.alloc ?_ (by first | exact Nat.le_refl _ | omega | (simp; done) | (simp; omega)) _) | (refine Only.setCell ?_ (by first | exact .inl rfl | exact .inr (Nat.le_refl _) | exact .inr (by first | omega | (simp; omega))) _))))⟩
end Go.Proofs.YtbggbcnfkcadjaaGreatDoor
namespace Go.Proofs.YtbggbcnfkcadjaaGreatDoor
open Go.RowKit
theorem runL_span (p : Int → Bool) (s : ByteArray) (i : Nat) : (s.extract i (runL p s i)).toList = (s.toList.drop i).takeWhile fun c => p (c.toNat : Int) := by
 have h := List.prefix_iff_eq_take.1 (List.takeWhile_prefix (fun c : UInt8 => p (c.toNat : Int)) (l := s.toList.drop i))
 rw [ByteArray.toList_eq, Lib.extract_data, ← ByteArray.toList_eq]
 unfold runL
 rw [show ∀ n, i + n - i = n from fun n => by omega]
 exact h.symm
theorem bs_eq {x : ByteArray} {l : List UInt8} (h : x.toList = l) : x = bsOf l := by
 subst h
 rw [ByteArray.toList_eq]; rfl
theorem span_bs (p : Int → Bool) (s : ByteArray) (i : Nat) : s.extract i (runL p s i) = bsOf ((s.toList.drop i).takeWhile fun c => p (c.toNat : Int)) := bs_eq (runL_span p s i)
theorem wordP_num {c : UInt8} {r : List UInt8} (h : digitI (c.toNat : Int) = true) : wordP (c :: r) = numP (c :: r) := by
 rw [wordP, if_pos (show digB c = true from h)]
theorem wordP_name {c : UInt8} {r : List UInt8} (h1 : digitI (c.toNat : Int) = false) (h2 : letterI (c.toNat : Int) = true) : wordP (c :: r) = namedP 1 (c :: r) 0 := by
 rw [wordP, if_neg (by unfold digB; rw [h1]; decide), if_pos (show letB c = true from h2)]
theorem wordP_quo {c : UInt8} {r : List UInt8} (h1 : digitI (c.toNat : Int) = false) (h2 : letterI (c.toNat : Int) = false) (h3 : c = 34) : wordP (c :: r) = quoP r [] 1 := by
 rw [wordP, if_neg (by unfold digB; rw [h1]; decide), if_neg (by unfold letB; rw [h2]; decide), if_pos h3]
theorem wordP_slot {c : UInt8} {r : List UInt8} (h1 : digitI (c.toNat : Int) = false) (h2 : letterI (c.toNat : Int) = false) (h3 : ¬ c = 34) (h4 : c = 63) : wordP (c :: r) = namedP 4 r 1 := by
 rw [wordP, if_neg (by unfold digB; rw [h1]; decide), if_neg (by unfold letB; rw [h2]; decide), if_neg h3, if_pos h4]
theorem wordP_sign {c : UInt8} {r : List UInt8} (h1 : digitI (c.toNat : Int) = false) (h2 : letterI (c.toNat : Int) = false) (h3 : ¬ c = 34) (h4 : ¬ c = 63) : wordP (c :: r) = if signP (c :: r) = [] then .bad 1 else .ok 5 (signP (c :: r)) (signP (c :: r)).length := by
 rw [wordP, if_neg (by unfold digB; rw [h1]; decide), if_neg (by unfold letB; rw [h2]; decide), if_neg h3, if_neg h4]
structure WInv (s : ByteArray) (rb : Nat) (w : World) (p : Nat) (W : World) : Prop where
 rd : Blk W rb 172 (rdS s p)
 tk : Blk W w.heap.size 42 #[.int .i64 0, .string ⟨#[]⟩, .int .i64 0]
 on : Only w.heap.size rb w W
theorem WInv.drewN {s : ByteArray} {rb : Nat} {w : World} {p : Nat} {W : World} (h : WInv s rb w p W) (n : Nat) : WInv s rb w p (W.drewN n) := ⟨h.rd, h.tk, h.on.drewN n⟩
theorem WInv.step {s : ByteArray} {rb : Nat} {w : World} {p : Nat} {W : World} (h : WInv s rb w p W) (hrb : rb < w.heap.size) (j : Nat) : WInv s rb w j (W.setCell ⟨rb, 1, none⟩ (.int .i64 (j : Int))) :=
 ⟨rdS_step h.rd, h.tk.far (show w.heap.size ≠ rb by omega) _, h.on.setCell (.inl rfl) _⟩
theorem WInv.only {s : ByteArray} {rb : Nat} {w : World} {p q : Nat} {W W' : World} (h : WInv s rb w p W) (hrb : rb < w.heap.size) (hr : Blk W' rb 172 (rdS s q)) (ho : Only W.heap.size rb W W') : WInv s rb w q W' :=
 ⟨hr, h.tk.only ho h.tk.lt (by omega), h.on.trans (ho.mono (Nat.le_of_lt h.tk.lt))⟩
theorem WInv.below {s : ByteArray} {rb : Nat} {w : World} {p : Nat} {W W' : World} (h : WInv s rb w p W) (hb : Below W.heap.size W W') : WInv s rb w p W' :=
 ⟨h.rd.below hb h.rd.lt, h.tk.below hb h.tk.lt, h.on.trans (Only.of_below hb (Nat.le_of_lt h.tk.lt))⟩
theorem WInv.new {s : ByteArray} {rb : Nat} {w : World} {p : Nat} (hb : Blk w rb 172 (rdS s p)) : WInv s rb w p (w.alloc (.cells #[.int .i64 0, .string ⟨#[]⟩, .int .i64 0] 42)) :=
 ⟨hb.alloc _, Blk.new w _ _, (Only.refl _ _ _).alloc (Nat.le_refl _) _⟩
theorem WInv.done {s : ByteArray} {rb : Nat} {w : World} {p : Nat} {W : World} (h : WInv s rb w p W) (hrb : rb < w.heap.size) (a b c : Value) :
   Blk (((W.setCell ⟨w.heap.size, 0, none⟩ a).setCell ⟨w.heap.size, 1, none⟩ b).setCell ⟨w.heap.size, 2, none⟩ c) rb 172 (rdS s p) ∧ Only w.heap.size rb w (((W.setCell ⟨w.heap.size, 0, none⟩ a).setCell ⟨w.heap.size, 1, none⟩ b).setCell ⟨w.heap.size, 2, none⟩ c) :=
 have hne : rb ≠ w.heap.size := by omega
 ⟨((h.rd.far hne _).far hne _).far hne _, by have := h.on; (repeat (first | assumption | exact Only.refl _ _ _ | apply Only.drew | apply Only.drewN | (refine Only.alloc ?_ (by first | exact Nat.le_refl _ | omega | (simp; done) | (simp; omega)) _) | (refine Only.setCell ?_ (by first | exact .inl rfl | exact .inr (Nat.le_refl _) | exact .inr (by first | omega | (simp; omega))) _)))⟩
set_option maxRecDepth 100000 in
set_option maxHeartbeats 3200000 in
theorem word_word_num (s : ByteArray) (p rb : Nat) (w : World) (hs : s.size ≤ 140737488351232) (hi : p < s.size) (hb : Blk w rb 172 (rdS s p)) (hd : digitI (s[p].toNat : Int) = true) :
   Calls Tryz.prog 130 #[.pointer (some ⟨rb, 0, none⟩)] w (QuoPost s p rb w (wordP (s.toList.drop p))) := by
 have hrb := hb.lt
 obtain ⟨q, hq⟩ : ∃ q, wordP (s.toList.drop p) = q := ⟨_, rfl⟩
 rw [hq]
 rw [toList_drop s p hi, wordP_num hd, ← toList_drop s p hi] at hq
 have hsp := runL_span digitI s p
 have hW0 := WInv.new hb
 have HWH := Lib.hid (fun W (hW : Blk W rb 172 (rdS s p)) => word_while 151 digitI pb_digit s p rb W hs (Nat.le_of_lt hi) hW)
 have hrl : runL digitI s p = p + ((s.toList.drop p).takeWhile digB).length := rfl
 have hrle := runL_le digitI s (Nat.le_of_lt hi)
 have hxs : (s.extract p (runL digitI s p)).size ≤ 140737488351232 := by rw [ByteArray.size_extract]; omega
 generalize s.extract p (runL digitI s p) = x at hsp HWH hxs
 generalize runL digitI s p = j at hrl hrle HWH
 have hx : x.data.toList = (s.toList.drop p).takeWhile digB := by rw [← ByteArray.toList_eq]; exact hsp
 unfold numP at hq
 have HTL := Lib.hid (fun W => Tryz.strings_TrimLeft_one x 48 (by decide) W)
 rw [hx] at HTL
 have htl : ∀ l, Lib.trimLeftB l 48 = l.dropWhile (· == 48) := fun _ => rfl
 rw [htl] at HTL
 generalize hL : ((s.toList.drop p).takeWhile digB).dropWhile (· == 48) = L at hq HTL
 have HQ := Lib.hid hq
 have HJ := Lib.hid hrl
 have hLl : L.length ≤ 140737488351232 := by
   rw [← hL]
   have h1 := (List.dropWhile_sublist (fun x : UInt8 => x == 48) (l := (s.toList.drop p).takeWhile digB)).length_le
   omega
 obtain ⟨bl, hbl⟩ : ∃ bl : ByteArray, bl = bsOf L := ⟨_, rfl⟩
 rw [show (⟨L.toArray⟩ : ByteArray) = bl from hbl.symm] at HTL
 have hbs : bl.size = L.length := by rw [hbl]; rfl
 have hbt : bl.toList = L := by rw [hbl, ByteArray.toList_eq]; rfl
 have HBL := Lib.hid hbl
 have c0 : (w.alloc (.cells #[.int .i64 0, .string ⟨#[]⟩, .int .i64 0] 42)).cell? ⟨rb, 0, none⟩ = some (.string s) := hW0.rd.cell 0
 have c1 : (w.alloc (.cells #[.int .i64 0, .string ⟨#[]⟩, .int .i64 0] 42)).cell? ⟨rb, 1, none⟩ = some (.int .i64 p) := hW0.rd.cell 1
 have HW0 := Lib.hid hW0
 clear hq hrl hL hsp hx htl hW0 hb hbl
 by_cases h19 : 19 < L.length
 · have HQ2 : Hid (q = .bad 4) := by show _ = _; rw [← HQ.out, if_pos h19]
   have h19' : 19 < (bl.size : Int) := by omega
   clear HQ h19 hbs hbt
   go_enter Tryz.func130, Tryz.ntmps130
   go_wp2_with fail
   go_quiet (fail)
   go_wp2_with (go_at_call 151; refine (word_digit _ _).mono ?_; rintro e w' ⟨rfl, rfl⟩)
   generalize hw1 : (w.alloc _).drewN _ = w1
   have hI1 : WInv s rb w p w1 := by rw [← hw1]; exact HW0.out.drewN _
   have HI1 := Lib.hid hI1
   clear hw1 hI1 c0 c1
   refine Calls.mono (HWH.out _ HI1.out.rd) ?_
   rintro r w2 ⟨rfl, hb2, ho2⟩
   have HI2 := Lib.hid (HI1.out.only hrb hb2 ho2)
   clear hb2 ho2
   go_wp2_with fail
   refine Calls.mono (HTL.out _) ?_
   rintro r w3 ⟨rfl, rfl⟩
   go_wp2_with fail
   exact ⟨rfl, QuoPost.bad HQ2.out rfl HI2.out.on⟩
 · have HQ2 : Hid (q = .ok 2 (if L = [] then [48] else L) ((s.toList.drop p).takeWhile digB).length) := by show _ = _; rw [← HQ.out, if_neg h19]
   have h19' : ¬ 19 < (bl.size : Int) := by omega
   clear HQ h19
   by_cases he : L = []
   · have hem : bl.toList.isEmpty = true := by rw [hbt, he]; rfl
     rw [if_pos he] at HQ2
     clear hbs hbt he
     go_enter Tryz.func130, Tryz.ntmps130
     go_wp2_with fail
     go_quiet (fail)
     go_wp2_with (go_at_call 151; refine (word_digit _ _).mono ?_; rintro e w' ⟨rfl, rfl⟩)
     generalize hw1 : (w.alloc _).drewN _ = w1
     have hI1 : WInv s rb w p w1 := by rw [← hw1]; exact HW0.out.drewN _
     have HI1 := Lib.hid hI1
     clear hw1 hI1 c0 c1
     refine Calls.mono (HWH.out _ HI1.out.rd) ?_
     rintro r w2 ⟨rfl, hb2, ho2⟩
     have HI2 := Lib.hid (HI1.out.only hrb hb2 ho2)
     clear hb2 ho2
     go_wp2_with fail
     refine Calls.mono (HTL.out _) ?_
     rintro r w3 ⟨rfl, rfl⟩
     have k0 := HI2.out.tk.cell
     have f0 := HI2.out.tk.frozen
     have hlt0 := HI2.out.tk.lt
     go_wp2_with fail
     refine bodyPost_ret (v := .agg #[.int .i64 2, .string ⟨#[48]⟩, .int .i64 p]) (by simp [results, Tryz.results130, go_sem, k0]) rfl ?_
     have hdn := HI2.out.done hrb (.int .i64 2) (.string ⟨#[48]⟩) (.int .i64 p)
     exact QuoPost.ok HQ2.out rfl (by rw [← HJ.out]; exact hdn.1) hdn.2
   · have hem : bl.toList.isEmpty = false := by rw [hbt]; cases L with | nil => exact absurd rfl he | cons => rfl
     rw [if_neg he] at HQ2
     clear hbs hbt he
     go_enter Tryz.func130, Tryz.ntmps130
     go_wp2_with fail
     go_quiet (fail)
     go_wp2_with (go_at_call 151; refine (word_digit _ _).mono ?_; rintro e w' ⟨rfl, rfl⟩)
     generalize hw1 : (w.alloc _).drewN _ = w1
     have hI1 : WInv s rb w p w1 := by rw [← hw1]; exact HW0.out.drewN _
     have HI1 := Lib.hid hI1
     clear hw1 hI1 c0 c1
     refine Calls.mono (HWH.out _ HI1.out.rd) ?_
     rintro r w2 ⟨rfl, hb2, ho2⟩
     have HI2 := Lib.hid (HI1.out.only hrb hb2 ho2)
     clear hb2 ho2
     go_wp2_with fail
     refine Calls.mono (HTL.out _) ?_
     rintro r w3 ⟨rfl, rfl⟩
     have k0 := HI2.out.tk.cell
     have f0 := HI2.out.tk.frozen
     have hlt0 := HI2.out.tk.lt
     go_wp2_with fail
     refine bodyPost_ret (v := .agg #[.int .i64 2, .string bl, .int .i64 p]) (by simp [results, Tryz.results130, go_sem, k0]) rfl ?_
     have hdn := HI2.out.done hrb (.int .i64 2) (.string bl) (.int .i64 p)
     exact QuoPost.ok HQ2.out (by rw [HBL.out]) (by rw [← HJ.out]; exact hdn.1) hdn.2
set_option maxRecDepth 100000 in
set_option maxHeartbeats 3200000 in
theorem word_word_name (s : ByteArray) (p rb : Nat) (w : World) (hs : s.size ≤ 140737488351232) (hi : p < s.size) (hb : Blk w rb 172 (rdS s p)) (hd : digitI (s[p].toNat : Int) = false) (hl : letterI (s[p].toNat : Int) = true) :
   Calls Tryz.prog 130 #[.pointer (some ⟨rb, 0, none⟩)] w (QuoPost s p rb w (wordP (s.toList.drop p))) := by
 have hrb := hb.lt
 have hni : nameI (s[p].toNat : Int) = true := by unfold nameI; rw [hl]; rfl
 obtain ⟨q, hq⟩ : ∃ q, wordP (s.toList.drop p) = q := ⟨_, rfl⟩
 rw [hq]
 rw [toList_drop s p hi, wordP_name hd hl, ← toList_drop s p hi] at hq
 have hrl : runL nameI s p = p + ((s.toList.drop p).takeWhile nameB).length := rfl
 have hsp : (s.extract p (runL nameI s p)).toList = (s.toList.drop p).takeWhile nameB := runL_span nameI s p
 have hbq : s.extract p (runL nameI s p) = bsOf ((s.toList.drop p).takeWhile nameB) := span_bs nameI s p
 unfold namedP at hq
 have hW0 := WInv.new hb
 have c0 : (w.alloc (.cells #[.int .i64 0, .string ⟨#[]⟩, .int .i64 0] 42)).cell? ⟨rb, 0, none⟩ = some (.string s) := hW0.rd.cell 0
 have c1 : (w.alloc (.cells #[.int .i64 0, .string ⟨#[]⟩, .int .i64 0] 42)).cell? ⟨rb, 1, none⟩ = some (.int .i64 p) := hW0.rd.cell 1
 have HW0 := Lib.hid hW0
 have hne := nameErr_cases ((s.toList.drop p).takeWhile nameB)
 by_cases h0 : nameErr ((s.toList.drop p).takeWhile nameB) = 0
 · rw [if_pos h0] at hq
   have HQ := Lib.hid hq
   have HN := Lib.hid (fun W (hW : Blk W rb 172 (rdS s p)) => word_named_ok s 1 p p rb W hs (Nat.le_of_lt hi) hW (by rw [hsp]; exact h0))
   rw [hbq] at HN
   rw [hrl] at HN
   clear hq hsp hbq hrl h0 hne hW0 hb
   generalize (s.toList.drop p).takeWhile nameB = L at HQ HN
   go_enter Tryz.func130, Tryz.ntmps130
   go_wp2_with fail
   go_quiet (fail)
   go_wp2_with (first | (go_at_call 151; refine (word_digit _ _).mono ?_; rintro e w' ⟨rfl, rfl⟩) | (go_at_call 153; refine (word_inName _ _).mono ?_; rintro e w' ⟨rfl, rfl⟩))
   generalize hw1 : (w.alloc _).drewN _ = w1
   have hI1 : WInv s rb w p w1 := by rw [← hw1]; exact HW0.out.drewN _
   have HI1 := Lib.hid hI1
   clear hw1 hI1 c0 c1
   refine Calls.mono (HN.out _ HI1.out.rd) ?_
   rintro r w2 ⟨rfl, hb2, ho2⟩
   have HI2 := Lib.hid (HI1.out.only hrb hb2 ho2)
   clear hb2 ho2
   have k0 := HI2.out.tk.cell
   have f0 := HI2.out.tk.frozen
   have hlt0 := HI2.out.tk.lt
   go_wp2_with fail
   refine bodyPost_ret (v := .agg #[.int .i64 1, .string (bsOf L), .int .i64 p]) (by simp [results, Tryz.results130, go_sem, k0]) rfl ?_
   have hdn := HI2.out.done hrb (.int .i64 1) (.string (bsOf L)) (.int .i64 p)
   exact QuoPost.ok HQ.out.symm rfl (by exact hdn.1) hdn.2
 · rw [if_neg h0] at hq
   have HQ := Lib.hid hq
   have HN := Lib.hid (fun W (hW : Blk W rb 172 (rdS s p)) => word_named_bad s 1 _ p p rb W hs (Nat.le_of_lt hi) hW rfl (by rw [hsp]; exact hne.resolve_left h0))
   rw [hsp] at HN
   clear hq hsp hbq hrl h0 hne hW0 hb
   generalize nameErr ((s.toList.drop p).takeWhile nameB) = k at HQ HN
   go_enter Tryz.func130, Tryz.ntmps130
   go_wp2_with fail
   go_quiet (fail)
   go_wp2_with (first | (go_at_call 151; refine (word_digit _ _).mono ?_; rintro e w' ⟨rfl, rfl⟩) | (go_at_call 153; refine (word_inName _ _).mono ?_; rintro e w' ⟨rfl, rfl⟩))
   generalize hw1 : (w.alloc _).drewN _ = w1
   have hI1 : WInv s rb w p w1 := by rw [← hw1]; exact HW0.out.drewN _
   have HI1 := Lib.hid hI1
   clear hw1 hI1 c0 c1
   refine Calls.mono (HN.out _ HI1.out.rd) ?_
   rintro r w2 ⟨rfl, ho2⟩
   go_wp2_with fail
   exact ⟨rfl, QuoPost.bad HQ.out.symm rfl (HI1.out.on.trans (ho2.mono (Nat.le_of_lt HI1.out.tk.lt)))⟩
end Go.Proofs.YtbggbcnfkcadjaaGreatDoor
namespace Go.Proofs.YtbggbcnfkcadjaaGreatDoor
open Go.RowKit
set_option maxRecDepth 100000 in
set_option maxHeartbeats 3200000 in
theorem word_word_quo (s : ByteArray) (p rb : Nat) (w : World) (hs : s.size ≤ 140737488351232) (hi : p < s.size) (hb : Blk w rb 172 (rdS s p)) (hd : digitI (s[p].toNat : Int) = false) (hl : letterI (s[p].toNat : Int) = false) (h34 : s[p] = 34) :
   Calls Tryz.prog 130 #[.pointer (some ⟨rb, 0, none⟩)] w (QuoPost s p rb w (wordP (s.toList.drop p))) := by
 have hrb := hb.lt
 have hni : nameI (s[p].toNat : Int) = false := by unfold nameI; rw [hl, hd]; rfl
 have t34 : ((s[p].toNat : Int) == 34) = true := beq_lit h34
 have hq : wordP (s.toList.drop p) = quoP (s.toList.drop (p + 1)) [] 1 := by rw [toList_drop s p hi]; exact wordP_quo hd hl h34
 rw [hq]
 have HN := Lib.hid (fun W (hW : Blk W rb 172 (rdS s p)) => word_quoted s p rb W hs hi hW)
 have hW0 := WInv.new hb
 have c0 : (w.alloc (.cells #[.int .i64 0, .string ⟨#[]⟩, .int .i64 0] 42)).cell? ⟨rb, 0, none⟩ = some (.string s) := hW0.rd.cell 0
 have c1 : (w.alloc (.cells #[.int .i64 0, .string ⟨#[]⟩, .int .i64 0] 42)).cell? ⟨rb, 1, none⟩ = some (.int .i64 p) := hW0.rd.cell 1
 have HW0 := Lib.hid hW0
 clear hq hW0 hb h34
 cases hqq : quoP (s.toList.drop (p + 1)) [] 1 with
 | bad k =>
   rw [hqq] at HN
   clear hqq
   go_enter Tryz.func130, Tryz.ntmps130
   go_wp2_with fail
   go_quiet (fail)
   go_wp2_with (first | (go_at_call 151; refine (word_digit _ _).mono ?_; rintro e w' ⟨rfl, rfl⟩) | (go_at_call 153; refine (word_inName _ _).mono ?_; rintro e w' ⟨rfl, rfl⟩))
   generalize hw1 : (w.alloc _).drewN _ = w1
   have hI1 : WInv s rb w p w1 := by rw [← hw1]; exact HW0.out.drewN _
   have HI1 := Lib.hid hI1
   clear hw1 hI1 c0 c1
   refine Calls.mono (HN.out _ HI1.out.rd) ?_
   rintro r w2 ⟨rfl, ho2⟩
   go_wp2_with fail
   exact ⟨rfl, QuoPost.bad rfl rfl (HI1.out.on.trans (ho2.mono (Nat.le_of_lt HI1.out.tk.lt)))⟩
 | ok kind t n =>
   rw [hqq] at HN
   clear hqq
   go_enter Tryz.func130, Tryz.ntmps130
   go_wp2_with fail
   go_quiet (fail)
   go_wp2_with (first | (go_at_call 151; refine (word_digit _ _).mono ?_; rintro e w' ⟨rfl, rfl⟩) | (go_at_call 153; refine (word_inName _ _).mono ?_; rintro e w' ⟨rfl, rfl⟩))
   generalize hw1 : (w.alloc _).drewN _ = w1
   have hI1 : WInv s rb w p w1 := by rw [← hw1]; exact HW0.out.drewN _
   have HI1 := Lib.hid hI1
   clear hw1 hI1 c0 c1
   refine Calls.mono (HN.out _ HI1.out.rd) ?_
   rintro r w2 ⟨rfl, hb2, ho2⟩
   have HI2 := Lib.hid (HI1.out.only hrb hb2 ho2)
   clear hb2 ho2
   have k0 := HI2.out.tk.cell
   have f0 := HI2.out.tk.frozen
   have hlt0 := HI2.out.tk.lt
   go_wp2_with fail
   refine bodyPost_ret (v := .agg #[.int .i64 kind, .string (bsOf t), .int .i64 p]) (by simp [results, Tryz.results130, go_sem, k0]) rfl ?_
   have hdn := HI2.out.done hrb (.int .i64 kind) (.string (bsOf t)) (.int .i64 p)
   exact QuoPost.ok rfl rfl hdn.1 hdn.2
set_option maxRecDepth 100000 in
set_option maxHeartbeats 3200000 in
theorem word_word_slot (s : ByteArray) (p rb : Nat) (w : World) (hs : s.size ≤ 140737488351232) (hi : p < s.size) (hb : Blk w rb 172 (rdS s p)) (hd : digitI (s[p].toNat : Int) = false) (hl : letterI (s[p].toNat : Int) = false) (h34 : ¬ s[p] = 34) (h63 : s[p] = 63) :
   Calls Tryz.prog 130 #[.pointer (some ⟨rb, 0, none⟩)] w (QuoPost s p rb w (wordP (s.toList.drop p))) := by
 have hrb := hb.lt
 have hni : nameI (s[p].toNat : Int) = false := by unfold nameI; rw [hl, hd]; rfl
 have t34 : ((s[p].toNat : Int) == 34) = false := bne_lit h34
 have t63 : ((s[p].toNat : Int) == 63) = true := beq_lit h63
 have hq : wordP (s.toList.drop p) = namedP 4 (s.toList.drop (p + 1)) 1 := by rw [toList_drop s p hi]; exact wordP_slot hd hl h34 h63
 rw [hq]
 have hrl : runL nameI s (p + 1) = p + 1 + ((s.toList.drop (p + 1)).takeWhile nameB).length := rfl
 have hsp : (s.extract (p + 1) (runL nameI s (p + 1))).toList = (s.toList.drop (p + 1)).takeWhile nameB := runL_span nameI s (p + 1)
 have hbq : s.extract (p + 1) (runL nameI s (p + 1)) = bsOf ((s.toList.drop (p + 1)).takeWhile nameB) := span_bs nameI s (p + 1)
 have hW0 := WInv.new hb
 have c0 : (w.alloc (.cells #[.int .i64 0, .string ⟨#[]⟩, .int .i64 0] 42)).cell? ⟨rb, 0, none⟩ = some (.string s) := hW0.rd.cell 0
 have c1 : (w.alloc (.cells #[.int .i64 0, .string ⟨#[]⟩, .int .i64 0] 42)).cell? ⟨rb, 1, none⟩ = some (.int .i64 p) := hW0.rd.cell 1
 have z1 : (w.alloc (.cells #[.int .i64 0, .string ⟨#[]⟩, .int .i64 0] 42)).frozen? ⟨rb, 1, none⟩ = false := hW0.rd.frozen 1
 have HW0 := Lib.hid hW0
 have hne := nameErr_cases ((s.toList.drop (p + 1)).takeWhile nameB)
 unfold namedP
 by_cases h0 : nameErr ((s.toList.drop (p + 1)).takeWhile nameB) = 0
 · rw [if_pos h0]
   have HN := Lib.hid (fun W (hW : Blk W rb 172 (rdS s (p + 1))) => word_named_ok s 4 (p + 1) p rb W hs (by omega) hW (by rw [hsp]; exact h0))
   rw [hbq] at HN
   rw [hrl] at HN
   clear hq hsp hbq hrl h0 hne hW0 hb h34 h63
   generalize (s.toList.drop (p + 1)).takeWhile nameB = L at HN ⊢
   go_enter Tryz.func130, Tryz.ntmps130
   go_wp2_with fail
   go_quiet (fail)
   go_wp2_with (first | (go_at_call 151; refine (word_digit _ _).mono ?_; rintro e w' ⟨rfl, rfl⟩) | (go_at_call 153; refine (word_inName _ _).mono ?_; rintro e w' ⟨rfl, rfl⟩))
   generalize hw1 : ((w.alloc _).drewN _).setCell ⟨rb, 1, none⟩ (.int .i64 ((p : Int) + 1)) = w1
   have hI1 : WInv s rb w (p + 1) w1 := by rw [← hw1]; exact (HW0.out.drewN _).step hrb (p + 1)
   have HI1 := Lib.hid hI1
   clear hw1 hI1 c0 c1 z1
   refine Calls.mono (HN.out _ HI1.out.rd) ?_
   rintro r w2 ⟨rfl, hb2, ho2⟩
   have HI2 := Lib.hid (HI1.out.only hrb hb2 ho2)
   clear hb2 ho2
   have k0 := HI2.out.tk.cell
   have f0 := HI2.out.tk.frozen
   have hlt0 := HI2.out.tk.lt
   go_wp2_with fail
   refine bodyPost_ret (v := .agg #[.int .i64 4, .string (bsOf L), .int .i64 p]) (by simp [results, Tryz.results130, go_sem, k0]) rfl ?_
   have hdn := HI2.out.done hrb (.int .i64 4) (.string (bsOf L)) (.int .i64 p)
   exact QuoPost.ok rfl rfl (by rw [show p + (L.length + 1) = p + 1 + L.length from by omega]; exact hdn.1) hdn.2
 · rw [if_neg h0]
   have HN := Lib.hid (fun W (hW : Blk W rb 172 (rdS s (p + 1))) => word_named_bad s 4 _ (p + 1) p rb W hs (by omega) hW rfl (by rw [hsp]; exact hne.resolve_left h0))
   rw [hsp] at HN
   clear hq hsp hbq hrl h0 hne hW0 hb h34 h63
   generalize nameErr ((s.toList.drop (p + 1)).takeWhile nameB) = k at HN ⊢
   go_enter Tryz.func130, Tryz.ntmps130
   go_wp2_with fail
   go_quiet (fail)
   go_wp2_with (first | (go_at_call 151; refine (word_digit _ _).mono ?_; rintro e w' ⟨rfl, rfl⟩) | (go_at_call 153; refine (word_inName _ _).mono ?_; rintro e w' ⟨rfl, rfl⟩))
   generalize hw1 : ((w.alloc _).drewN _).setCell ⟨rb, 1, none⟩ (.int .i64 ((p : Int) + 1)) = w1
   have hI1 : WInv s rb w (p + 1) w1 := by rw [← hw1]; exact (HW0.out.drewN _).step hrb (p + 1)
   have HI1 := Lib.hid hI1
   clear hw1 hI1 c0 c1 z1
   refine Calls.mono (HN.out _ HI1.out.rd) ?_
   rintro r w2 ⟨rfl, ho2⟩
   go_wp2_with fail
   exact ⟨rfl, QuoPost.bad rfl rfl (HI1.out.on.trans (ho2.mono (Nat.le_of_lt HI1.out.tk.lt)))⟩
set_option maxRecDepth 100000 in
set_option maxHeartbeats 3200000 in
theorem word_word_sign (s : ByteArray) (p rb : Nat) (w : World) (hs : s.size ≤ 140737488351232) (hi : p < s.size) (hb : Blk w rb 172 (rdS s p)) (hd : digitI (s[p].toNat : Int) = false) (hl : letterI (s[p].toNat : Int) = false) (h34 : ¬ s[p] = 34) (h63 : ¬ s[p] = 63) :
   Calls Tryz.prog 130 #[.pointer (some ⟨rb, 0, none⟩)] w (QuoPost s p rb w (wordP (s.toList.drop p))) := by
 have hrb := hb.lt
 have hni : nameI (s[p].toNat : Int) = false := by unfold nameI; rw [hl, hd]; rfl
 have t34 : ((s[p].toNat : Int) == 34) = false := bne_lit h34
 have t63 : ((s[p].toNat : Int) == 63) = false := bne_lit h63
 have hq : wordP (s.toList.drop p) = if signP (s.toList.drop p) = [] then .bad 1 else .ok 5 (signP (s.toList.drop p)) (signP (s.toList.drop p)).length := by rw [toList_drop s p hi]; exact wordP_sign hd hl h34 h63
 rw [hq]
 have hex : (s.extract p s.size).toList = s.toList.drop p := by rw [ByteArray.toList_eq, Lib.extract_to_end, ← ByteArray.toList_eq]
 have hsl : (signP (s.toList.drop p)).length + p ≤ s.size := by
   have := signP_len (s.toList.drop p)
   rw [List.length_drop, toList_len] at this; omega
 have HSG := Lib.hid (fun W => word_sign (s.extract p s.size) W)
 rw [hex] at HSG
 have hW0 := WInv.new hb
 have c0 : (w.alloc (.cells #[.int .i64 0, .string ⟨#[]⟩, .int .i64 0] 42)).cell? ⟨rb, 0, none⟩ = some (.string s) := hW0.rd.cell 0
 have c1 : (w.alloc (.cells #[.int .i64 0, .string ⟨#[]⟩, .int .i64 0] 42)).cell? ⟨rb, 1, none⟩ = some (.int .i64 p) := hW0.rd.cell 1
 have HW0 := Lib.hid hW0
 clear hq hW0 hb h34 h63 hex
 generalize signP (s.toList.drop p) = L at HSG hsl ⊢
 obtain ⟨bl, hbl⟩ : ∃ bl : ByteArray, bl = bsOf L := ⟨_, rfl⟩
 rw [← hbl] at HSG
 have hbs : bl.size = L.length := by rw [hbl]; rfl
 have hbt : bl.toList = L := by rw [hbl, ByteArray.toList_eq]; rfl
 have HBL := Lib.hid hbl
 clear hbl
 have hslc : ∀ W : World, (Instr.slice 9 (.string s) (some (.int .i64 (p : Int))) none none).run Tryz.prog W = .ok (.string (s.extract p s.size)) W := fun W => by
   go_simp
   intro h; omega
 by_cases he : L = []
 · rw [if_pos he]
   go_enter Tryz.func130, Tryz.ntmps130
   go_wp2_with fail
   go_quiet (fail)
   go_wp2_with (first | (go_at_call 151; refine (word_digit _ _).mono ?_; rintro e w' ⟨rfl, rfl⟩) | (go_at_call 153; refine (word_inName _ _).mono ?_; rintro e w' ⟨rfl, rfl⟩))
   generalize hw1 : (w.alloc _).drewN _ = w1
   have hI1 : WInv s rb w p w1 := by rw [← hw1]; exact HW0.out.drewN _
   have HI1 := Lib.hid hI1
   clear hw1 hI1 c0 c1
   have c0 : w1.cell? ⟨rb, 0, none⟩ = some (.string s) := HI1.out.rd.cell 0
   have c1 : w1.cell? ⟨rb, 1, none⟩ = some (.int .i64 p) := HI1.out.rd.cell 1
   go_still_tail 9, (by kernel_rfl)
   change wpList _ _ _ _ _ w1.drew
   go_wp2_with fail
   refine Calls.mono (HSG.out _) ?_
   rintro r w2 ⟨rfl, hb2⟩
   have hI2 : WInv s rb w p w2 := HI1.out.below (show Below w1.heap.size w1 w2 from ((Below.refl _ _).drew).trans hb2)
   have hem : bl.toList.isEmpty = true := by rw [hbt, he]; rfl
   clear hbs hbt he
   go_wp2_with fail
   exact ⟨rfl, QuoPost.bad rfl rfl hI2.on⟩
 · rw [if_neg he]
   go_enter Tryz.func130, Tryz.ntmps130
   go_wp2_with fail
   go_quiet (fail)
   go_wp2_with (first | (go_at_call 151; refine (word_digit _ _).mono ?_; rintro e w' ⟨rfl, rfl⟩) | (go_at_call 153; refine (word_inName _ _).mono ?_; rintro e w' ⟨rfl, rfl⟩))
   generalize hw1 : (w.alloc _).drewN _ = w1
   have hI1 : WInv s rb w p w1 := by rw [← hw1]; exact HW0.out.drewN _
   have HI1 := Lib.hid hI1
   clear hw1 hI1 c0 c1
   have c0 : w1.cell? ⟨rb, 0, none⟩ = some (.string s) := HI1.out.rd.cell 0
   have c1 : w1.cell? ⟨rb, 1, none⟩ = some (.int .i64 p) := HI1.out.rd.cell 1
   go_still_tail 9, (by kernel_rfl)
   change wpList _ _ _ _ _ w1.drew
   go_wp2_with fail
   refine Calls.mono (HSG.out _) ?_
   rintro r w2 ⟨rfl, hb2⟩
   have hI2 : WInv s rb w p w2 := HI1.out.below (show Below w1.heap.size w1 w2 from ((Below.refl _ _).drew).trans hb2)
   have HI2 := Lib.hid hI2
   have hem : bl.toList.isEmpty = false := by rw [hbt]; cases L with | nil => exact absurd rfl he | cons => rfl
   have HL := Lib.hid hbs
   have hble : (bl.size : Int) + p ≤ 140737488351232 := by omega
   clear hbs hbt he hI2 c0 c1 hb2
   have c0 : w2.cell? ⟨rb, 0, none⟩ = some (.string s) := HI2.out.rd.cell 0
   have c1 : w2.cell? ⟨rb, 1, none⟩ = some (.int .i64 p) := HI2.out.rd.cell 1
   have z1 : w2.frozen? ⟨rb, 1, none⟩ = false := HI2.out.rd.frozen 1
   have hlt2 := HI2.out.rd.lt
   have k0 := HI2.out.tk.cell
   have f0 := HI2.out.tk.frozen
   have hlt0 := HI2.out.tk.lt
   have hn1 : ¬ w.heap.size = rb := by omega
   have hn2 : ¬ rb = w.heap.size := by omega
   go_wp2_with fail
   have hst : WInv s rb w (p + L.length) (w2.setCell ⟨rb, 1, none⟩ (.int .i64 ((p : Int) + (bl.size : Int)))) := by
     have := HI2.out.step hrb (p + L.length)
     rwa [show ((p + L.length : Nat) : Int) = (p : Int) + (bl.size : Int) from by rw [HL.out]; omega] at this
   refine bodyPost_ret (v := .agg #[.int .i64 5, .string bl, .int .i64 p]) (by simp [results, Tryz.results130, go_sem, k0]) rfl ?_
   have hdn := hst.done hrb (.int .i64 5) (.string bl) (.int .i64 p)
   exact QuoPost.ok rfl (by rw [HBL.out]) hdn.1 hdn.2
theorem word_word (s : ByteArray) (p rb : Nat) (w : World) (hs : s.size ≤ 140737488351232) (hi : p < s.size) (hb : Blk w rb 172 (rdS s p)) :
   Calls Tryz.prog 130 #[.pointer (some ⟨rb, 0, none⟩)] w (QuoPost s p rb w (wordP (s.toList.drop p))) := by
 by_cases hd : digitI (s[p].toNat : Int) = true
 · exact word_word_num s p rb w hs hi hb hd
 · have hd : digitI (s[p].toNat : Int) = false := by simpa using hd
   by_cases hl : letterI (s[p].toNat : Int) = true
   · exact word_word_name s p rb w hs hi hb hd hl
   · have hl : letterI (s[p].toNat : Int) = false := by simpa using hl
     by_cases h34 : s[p] = 34
     · exact word_word_quo s p rb w hs hi hb hd hl h34
     · by_cases h63 : s[p] = 63
       · exact word_word_slot s p rb w hs hi hb hd hl h34 h63
       · exact word_word_sign s p rb w hs hi hb hd hl h34 h63
end Go.Proofs.YtbggbcnfkcadjaaGreatDoor
namespace Go.Proofs.YtbggbcnfkcadjaaGreatDoor
open Go.RowKit
theorem assert_fault (k a : Int) (w : World) : (Instr.typeAssert (.iface 169 (.agg #[.int .i64 k, .int .i64 a])) 20 169 true).run Tryz.prog w = .ok (.tuple #[.agg #[.int .i64 k, .int .i64 a], .bool true]) w := by kernel_rfl
set_option maxHeartbeats 800000 in
theorem read_idle (p q r : Addr) (w : World) :
   CallsD Tryz.prog 127 #[.pointer (some p), .pointer (some q), .pointer (some r)] .returning w fun e u' w' => e = .returned (.tuple #[]) ∧ u' = .returning ∧ w' = w := by
 refine callsD_of_wpS Tryz.func127 rfl fun c₀ cs hu => ?_
 apply wpS_seq
 apply wpS_region
 simp [wpOpsS, go_sem, recoverD, hu, Tryz.ntmps127, Exit.thenS]
 refine wpS_of_wp ?_
 simp only [Array.replicate_succ, Array.replicate_zero, List.push_toArray, List.nil_append, List.cons_append]
 go_wp2
 cases c₀
 simp_all [bodyPostS, results, Tryz.results127]
def Caught (b : Nat) (k a : Int) (w w' : World) : Prop :=
 w'.cell? ⟨b, 0, none⟩ = some (.slice none 0 0) ∧ w'.cell? ⟨b + 1, 0, none⟩ = some (.int .i64 a) ∧ w'.cell? ⟨b + 2, 0, none⟩ = some (.iface 33 (.int .i64 k)) ∧ Below b w w'
set_option maxHeartbeats 1600000 in
theorem read_catch (b : Nat) (x y z : Value) (k a : Int) (older : List PanicEntry) (w : World) (hx : Blk w b 23 #[x]) (hy : Blk w (b + 1) 3 #[y]) (hz : Blk w (b + 2) 25 #[z]) :
   CallsD Tryz.prog 127 #[.pointer (some ⟨b, 0, none⟩), .pointer (some ⟨b + 1, 0, none⟩), .pointer (some ⟨b + 2, 0, none⟩)] (.panicking ({ v := .iface 169 (.agg #[.int .i64 k, .int .i64 a]), recovered := false } :: older)) w fun e u' w' =>
     e = .returned (.tuple #[]) ∧ u' = .panicking ({ v := .iface 169 (.agg #[.int .i64 k, .int .i64 a]), recovered := true } :: older) ∧ Caught b k a w w' := by
 have hta := assert_fault k a
 have lx := hx.lt
 have ly := hy.lt
 have lz := hz.lt
 have cx := hx.cell 0
 have cy := hy.cell 0
 have cz := hz.cell 0
 have fx := hx.frozen 0
 have fy := hy.frozen 0
 have fz := hz.frozen 0
 simp only [List.getElem?_toArray, List.getElem?_cons_zero] at cx cy cz
 clear hx hy hz
 refine callsD_of_wpS Tryz.func127 rfl fun c₀ cs hu => ?_
 apply wpS_seq
 apply wpS_region
 simp [wpOpsS, go_sem, recoverD, hu, Tryz.ntmps127, Exit.thenS]
 refine wpS_of_wp ?_
 simp only [Array.replicate_succ, Array.replicate_zero, List.push_toArray, List.nil_append, List.cons_append]
 go_wp2
 have g0 : (w.alloc (.cells #[.int .i64 k, .int .i64 a] 169)).cell? ⟨w.heap.size, 0, none⟩ = some (.int .i64 k) := by simp [go_sem]
 have g1 : (w.alloc (.cells #[.int .i64 k, .int .i64 a] 169)).cell? ⟨w.heap.size, 1, none⟩ = some (.int .i64 a) := by simp [go_sem]
 have hbw : Below w.heap.size w (w.alloc (.cells #[.int .i64 k, .int .i64 a] 169)) := by (repeat (first | assumption | exact Below.refl _ _ | apply Below.drew | apply below_drewN | (refine Below.alloc ?_ (by first | exact Nat.le_refl _ | omega | (simp; done) | (simp; omega)) _)))
 obtain ⟨hcc, hff⟩ := bcell hbw
 have cx1 := (hcc b 0 lx).trans cx
 have cy1 := (hcc (b + 1) 0 ly).trans cy
 have cz1 := (hcc (b + 2) 0 lz).trans cz
 have fx1 := (hff b 0 lx).trans fx
 have fy1 := (hff (b + 1) 0 ly).trans fy
 have fz1 := (hff (b + 2) 0 lz).trans fz
 have hn0 : ¬ w.heap.size = b := by omega
 have hn1 : ¬ w.heap.size = b + 1 := by omega
 have hn2 : ¬ w.heap.size = b + 2 := by omega
 have hm0 : ¬ b = w.heap.size := by omega
 have hm1 : ¬ b + 1 = w.heap.size := by omega
 have hm2 : ¬ b + 2 = w.heap.size := by omega
 have HBW := Lib.hid hbw
 clear hcc hff cx cy cz fx fy fz hbw
 generalize (w.alloc (.cells #[.int .i64 k, .int .i64 a] 169)) = w1 at *
 go_region
 go_wp2
 simp [bodyPostS, results, Tryz.results127]
 have hb1 : ¬ b = b + 1 := by omega
 have hb2 : ¬ b = b + 2 := by omega
 have hb3 : ¬ b + 1 = b + 2 := by omega
 have hk1 : w1.cell? ⟨b, 0, none⟩ = some x := cx1
 have hbw := HBW.out.mono (show b ≤ w.heap.size by omega)
 refine ⟨?_, ?_, ?_, (((hbw.setCell (p := ⟨b, 0, none⟩) (Nat.le_refl _) _).setCell (p := ⟨b + 1, 0, none⟩) (Nat.le_succ _) _).setCell (p := ⟨b + 2, 0, none⟩) (Nat.le_add_right _ _) _).drew⟩
 · simp [go_sem]
   exact World.cell?_setCell_same _ _ _ cx1
 · simp [go_sem]
   exact World.cell?_setCell_same _ _ _ ((World.cell?_setCell_other _ _ _ _ (by simp)).trans cy1)
 · exact World.cell?_setCell_same _ _ _ (((World.cell?_setCell_other _ _ _ _ (by simp)).trans (World.cell?_setCell_other _ _ _ _ (by simp))).trans cz1)
end Go.Proofs.YtbggbcnfkcadjaaGreatDoor
namespace Go.Proofs.YtbggbcnfkcadjaaGreatDoor
open Go.RowKit
theorem tok_info : (Tryz.prog.info? 42).map (fun i => (i.zero, i.size, i.bytes)) = some (some (.agg #[.int .i64 0, .string ⟨#[]⟩, .int .i64 0]), 3, 32) := by kernel_rfl
def ToksBack (w : World) (r : Ending) (w' : World) (q : List Tk × Nat × Int) : Prop :=
 ∃ A c, r = .returned (.tuple #[.slice A q.1.length c, .int .i64 q.2.1, errV q.2.2]) ∧ q.1.length ≤ c ∧ c ≤ 9223372036854775807 ∧ TkSl w' w'.heap.size A q.1 ∧ Below w.heap.size w w'
theorem ToksBack.none {w w' : World} {i : Nat} {k : Int} (h : Below w.heap.size w w') : ToksBack w (.returned (.tuple #[.slice none 0 0, .int .i64 i, errV k])) w' ([], i, k) := ⟨Option.none, 0, rfl, Nat.le_refl _, by omega, SlG.nil _ _ _, h⟩
set_option maxHeartbeats 1600000 in
theorem word_Read_big (s : ByteArray) (w : World) (h : 900 < s.size) (hm : s.size ≤ 140737488351300) :
   Calls Tryz.prog 93 #[.string s] w fun r w' => ToksBack w r w' (readP s) := by
 have hv : readP s = ([], 0, 4) := by simp [readP, h]
 rw [hv]
 clear hv
 have hmf : ∀ (fn : Fn) (first cap : Array Value) (w : World), (Instr.makeFunc fn first cap).run Tryz.prog w = .ok (.func fn first cap) w := fun _ _ _ _ => rfl
 go_enter_defers Tryz.func93, Tryz.ntmps93
 go_wp2
 simp [bodyPostD, Leaves, results, Tryz.results93, go_sem]
 exact ToksBack.none (k := 4) (by (repeat (first | assumption | exact Below.refl _ _ | apply Below.drew | apply below_drewN | (refine Below.alloc ?_ (by first | exact Nat.le_refl _ | omega | (simp; done) | (simp; omega)) _))))
structure RInv (s : ByteArray) (w : World) (p : Nat) (toks : List Tk) (W : World) : Prop where
 ts : ∃ A c, Blk W w.heap.size 23 #[.slice A toks.length c] ∧ W.ownsRow (w.heap.size + 4) 42 3 (.slice A toks.length c) toks.length (flatG Tk.cells toks)
 at_ : Blk W (w.heap.size + 1) 3 #[.int .i64 0]
 er : Blk W (w.heap.size + 2) 25 #[.nilIface]
 rd : Blk W (w.heap.size + 3) 172 (rdS s p)
 on : Below w.heap.size w W
theorem own_only {B n m g : Nat} {e : TypeId} {v : Value} {xs : List Value} {w w' : World} (h : w.ownsRow B e m v n xs) (ho : Only w.heap.size g w w') (hg : g < B) : w'.ownsRow B e m v n xs :=
 h.kept (row := some g) ⟨ho.os, ho.tape, ho.output, ho.size, fun k hk hn => ho.block k hk (fun e => hn (by rw [e]))⟩ (by
   cases hv : v.ownBlock with
   | none => exact .inl rfl
   | some b => right; intro h2; injection h2 with h2; have := (h.lt b hv).1; omega)
theorem RInv.only {s : ByteArray} {w : World} {p q : Nat} {toks : List Tk} {W W' : World} (h : RInv s w p toks W) (hr : Blk W' (w.heap.size + 3) 172 (rdS s q)) (ho : Only W.heap.size (w.heap.size + 3) W W') : RInv s w q toks W' := by
 obtain ⟨A, c, h1, h2⟩ := h.ts
 have hl := h.rd.lt
 exact ⟨⟨A, c, h1.only ho (by omega) (by omega), own_only h2 ho (by omega)⟩, h.at_.only ho (by omega) (by omega), h.er.only ho (by omega) (by omega), hr, h.on.trans (ho.below (by omega) (by omega))⟩
theorem RInv.alloc {s : ByteArray} {w : World} {p : Nat} {toks : List Tk} {W : World} (h : RInv s w p toks W) (o : Obj) : RInv s w p toks (W.alloc o) := by
 obtain ⟨A, c, h1, h2⟩ := h.ts
 have hl := h.rd.lt
 exact ⟨⟨A, c, h1.alloc _, h2.alloc _⟩, h.at_.alloc _, h.er.alloc _, h.rd.alloc _, h.on.alloc (by omega) _⟩
theorem RInv.wrote {s : ByteArray} {w : World} {p : Nat} {toks toks' : List Tk} {W W' : World} (h : RInv s w p toks W) {v : Value} {A : Option Addr} {c : Nat} {b : Option Nat} (hb : ∀ g, b = some g → w.heap.size + 4 ≤ g) (hg : W.grownBy W' b)
   (hv : v = .slice A toks'.length c) (ho : W'.ownsRow (w.heap.size + 4) 42 3 v toks'.length (flatG Tk.cells toks')) : RInv s w p toks' (W'.setCell ⟨w.heap.size, 0, none⟩ v) := by
 subst hv
 obtain ⟨A0, c0, h1, h2⟩ := h.ts
 have hl := h.rd.lt
 have hblk : ∀ g t cs, g < w.heap.size + 4 → g < W.heap.size → Blk W g t cs → Blk W' g t cs := fun g t cs h1 h2 hB => (hg.block g h2 (fun e => by have := hb g e.symm; omega)).trans hB
 refine ⟨⟨A, c, (hblk _ _ _ (by omega) (by omega) h1).set 0 _, ?_⟩, (hblk _ _ _ (by omega) (by omega) h.at_).far (by simp) _, (hblk _ _ _ (by omega) (by omega) h.er).far (by simp) _, (hblk _ _ _ (by omega) (by omega) h.rd).far (by simp) _, ?_⟩
 · refine own_only (g := w.heap.size) ho ?_ (by omega)
   exact (Only.refl W'.heap.size w.heap.size W').setCell (p := ⟨w.heap.size, 0, none⟩) (.inl rfl) _
 · exact (h.on.grown hg (by omega) (fun g e => by have := hb g e; omega)).setCell (Nat.le_refl _) _
theorem own_set {B n m : Nat} {e : TypeId} {v : Value} {xs : List Value} {w : World} (h : w.ownsRow B e m v n xs) {p : Addr} (hp : p.block < B) (u : Value) : (w.setCell p u).ownsRow B e m v n xs :=
 own_only h ((Only.refl w.heap.size p.block w).setCell (.inl rfl) u) hp
theorem tw_stop (f : UInt8 → Bool) : ∀ (l : List UInt8) (x : UInt8), l[(l.takeWhile f).length]? = some x → f x = false
 | [], x, h => by simp at h
 | a :: l, x, h => by
   by_cases ha : f a = true
   · rw [List.takeWhile_cons_of_pos ha, List.length_cons, List.getElem?_cons_succ] at h
     exact tw_stop f l x h
   · rw [List.takeWhile_cons_of_neg ha] at h
     simp at h
     subst h; simpa using ha
theorem runL_stop {f : Int → Bool} {s : ByteArray} {i : Nat} (h : runL f s i < s.size) : f (s[runL f s i].toNat : Int) = false := by
 refine tw_stop (fun c => f (c.toNat : Int)) (s.toList.drop i) _ ?_
 rw [List.getElem?_drop]
 exact toList_get s _ h
theorem toks_end {W : World} {A : Option Addr} {c : Nat} {toks : List Tk} {B : Nat} (h : W.ownsRow B 42 3 (.slice A toks.length c) toks.length (flatG Tk.cells toks)) : toks.length ≤ c ∧ c ≤ 9223372036854775807 ∧ TkSl W W.heap.size A toks := by
 obtain ⟨_, A', c', hv, h1, h2, h3⟩ := own_formG tk_ok h
 injection hv with e1 e2 e3
 subst e1 e3
 exact ⟨h1, h2, h3⟩
set_option maxRecDepth 100000 in
set_option maxHeartbeats 6400000 in
theorem word_Read_go (s : ByteArray) (w : World) (h : ¬ 900 < s.size) :
   Calls Tryz.prog 93 #[.string s] w fun r w' => ToksBack w r w' (readP s) := by
 have hmf : ∀ (fn : Fn) (first cap : Array Value) (w : World), (Instr.makeFunc fn first cap).run Tryz.prog w = .ok (.func fn first cap) w := fun _ _ _ _ => rfl
 obtain ⟨i0, hi, hz0, hz1, hz2⟩ := info_parts tok_info
 obtain ⟨q, hq⟩ : ∃ q, readP s = q := ⟨_, rfl⟩
 rw [hq]
 rw [readP_R, if_neg h] at hq
 have HQ := Lib.hid hq
 clear hq
 go_enter_defers Tryz.func93, Tryz.ntmps93
 go_wp2_with fail
 go_loopg [] (s.size + 1) (fun gg wr => ∃ p : Nat, ∃ toks : List Tk, p ≤ s.size ∧ toks.length ≤ 300 ∧ s.size + 1 - p ≤ gg ∧ Hid (lineR (s.toList.drop p) p toks = q) ∧ Hid (RInv s w p toks wr))
 case atStart =>
   refine ⟨0, [], by omega, by simp, by omega, HQ.out, ?_⟩
   show RInv _ _ _ _ _
   have b0 : Blk (((w.alloc (.cells #[.slice none 0 0] 23)).alloc (.cells #[.int .i64 0] 3)).alloc (.cells #[.nilIface] 25)) w.heap.size 23 #[.slice none 0 0] := ((Blk.new w _ _).alloc _).alloc _
   have b1 := (Blk.new (w.alloc (.cells #[.slice none 0 0] 23)) 3 #[.int .i64 0]).alloc (.cells #[.nilIface] 25)
   have b2 := Blk.new ((w.alloc (.cells #[.slice none 0 0] 23)).alloc (.cells #[.int .i64 0] 3)) 25 #[.nilIface]
   have b3 := Blk.new (((w.alloc (.cells #[.slice none 0 0] 23)).alloc (.cells #[.int .i64 0] 3)).alloc (.cells #[.nilIface] 25)) 172 #[.string s, .int .i64 0]
   simp only [World.size_alloc] at b1 b2 b3
   exact ⟨⟨none, 0, b0.alloc _, World.ownsRow_nil _ _ _ _⟩, b1.alloc _, b2.alloc _, b3, by (repeat (first | assumption | exact Below.refl _ _ | apply Below.drew | apply below_drewN | (refine Below.alloc ?_ (by first | exact Nat.le_refl _ | omega | (simp; done) | (simp; omega)) _)))⟩
 case round =>
   obtain ⟨p, toks, hp, htl, hgg, HP, HI⟩ := hrel
   have hlt3 := HI.out.rd.lt
   go_wp2_with fail
   refine Calls.mono (word_while 129 (· == 32) pb_blank s p (w.heap.size + 3) wr (by omega) hp HI.out.rd) ?_
   rintro r w1 ⟨rfl, hb1, ho1⟩
   have HP2 : Hid (lineR (s.toList.drop (runL (· == 32) s p)) (runL (· == 32) s p) toks = q) := by
     show _ = _
     rw [← HP.out, lineR_blanks toks (s.toList.drop p) p, List.drop_drop]; rfl
   have hple := runL_le (· == 32) s hp
   have hpge := runL_ge (· == 32) s p
   have HI1 := Lib.hid (HI.out.only hb1 ho1)
   have HST : Hid (∀ hlt : runL (· == 32) s p < s.size, ((s[runL (· == 32) s p].toNat : Int) == 32) = false) := fun hlt => runL_stop hlt
   clear hb1 ho1
   generalize runL (· == 32) s p = p1 at HP2 hple hpge HI1 HST
   have c1 : w1.cell? ⟨w.heap.size + 3, 1, none⟩ = some (.int .i64 p1) := HI1.out.rd.cell 1
   clear HP HI
   by_cases he : p1 = s.size
   · have t1 : ((p1 : Int) == (s.size : Int)) = true := by rw [he]; simp
     have HR : Hid (q = (toks, 0, 0)) := by show _ = _; rw [← HP2.out, he, drop_noneW s s.size (Nat.le_refl _)]; rfl
     clear he HP2
     obtain ⟨A, c, hts, hown⟩ := HI1.out.ts
     have HOW := Lib.hid hown
     have ct : w1.cell? ⟨w.heap.size, 0, none⟩ = some (.slice A toks.length c) := hts.cell 0
     have ft := hts.frozen 0
     have fa := HI1.out.at_.frozen 0
     have fe := HI1.out.er.frozen 0
     have lt0 := hts.lt
     have lt1 := HI1.out.at_.lt
     have lt2 := HI1.out.er.lt
     have ca : w1.cell? ⟨w.heap.size + 1, 0, none⟩ = some (.int .i64 0) := HI1.out.at_.cell 0
     have ce : w1.cell? ⟨w.heap.size + 2, 0, none⟩ = some .nilIface := HI1.out.er.cell 0
     clear hts hown
     go_wp2_with fail
     refine leaves_cons (f := 127) (args := #[.pointer (some ⟨w.heap.size, 0, none⟩), .pointer (some ⟨w.heap.size + 1, 0, none⟩), .pointer (some ⟨w.heap.size + 2, 0, none⟩)]) (by simp) (by simp [go_sem]) ?_
     refine (read_idle ⟨w.heap.size, 0, none⟩ ⟨w.heap.size + 1, 0, none⟩ ⟨w.heap.size + 2, 0, none⟩ _).mono ?_
     rintro e' u' w'' ⟨rfl, rfl, rfl⟩
     simp [Leaves, settle, results, Tryz.results93, go_sem, ct, ca, ce]
     rw [HR.out]
     have hoe := own_set (own_set (own_set HOW.out (p := ⟨w.heap.size, 0, none⟩) (by simp) (.slice A toks.length c)) (p := ⟨w.heap.size + 1, 0, none⟩) (by simp) (.int .i64 0)) (p := ⟨w.heap.size + 1 + 1, 0, none⟩) (by simp) .nilIface
     obtain ⟨q1, q2, q3⟩ := toks_end hoe
     exact ⟨A, c, rfl, q1, q2, q3, ((HI1.out.on.setCell (p := ⟨w.heap.size, 0, none⟩) (Nat.le_refl _) _).setCell (p := ⟨w.heap.size + 1, 0, none⟩) (Nat.le_succ _) _).setCell (p := ⟨w.heap.size + 1 + 1, 0, none⟩) (by simp; omega) _⟩
   · have hlt : p1 < s.size := by omega
     have t1 : ((p1 : Int) == (s.size : Int)) = false := by simp; omega
     have hc32 : s[p1] ≠ 32 := fun h32 => by
       have := HST.out hlt
       rw [h32] at this
       exact absurd this (by decide)
     have hsd := toList_drop s p1 hlt
     have HWW := Lib.hid (word_word s p1 (w.heap.size + 3) w1 (by omega) hlt HI1.out.rd)
     cases hw : wordP (s.toList.drop p1) with
     | bad k =>
       rw [hw] at HWW
       have HR : Hid (q = ([], p1, k)) := by
         show _ = _
         rw [← HP2.out, hsd]
         rw [hsd] at hw
         exact lineR_bad hc32 hw _ _
       have HK0 : ¬ k = 0 := fun e => wordP_ne0 (e ▸ hw)
       clear he HP2 hc32 hsd hw
       go_wp2_with fail
       refine Calls.mono HWW.out ?_
       rintro r w2 ⟨rfl, ho2⟩
       go_wp2_with fail
       refine leaves_cons (f := 127) (args := #[.pointer (some ⟨w.heap.size, 0, none⟩), .pointer (some ⟨w.heap.size + 1, 0, none⟩), .pointer (some ⟨w.heap.size + 2, 0, none⟩)]) (by simp) (by simp [go_sem]) ?_
       obtain ⟨A, c, hts, _⟩ := HI1.out.ts
       have hl1 := HI1.out.rd.lt
       refine (read_catch w.heap.size _ _ _ k p1 [] _ (hts.only ho2 (by omega) (by omega)) (HI1.out.at_.only ho2 (by omega) (by omega)) (HI1.out.er.only ho2 (by omega) (by omega))).mono ?_
       rintro e' u' w'' ⟨rfl, rfl, hc0, hc1, hc2, hbw⟩
       simp [Leaves, settle, results, Tryz.results93, go_sem, hc0, hc1, hc2]
       rw [HR.out]
       have := ToksBack.none (w := w) (i := p1) (k := k) ((HI1.out.on.trans (ho2.below (show w.heap.size ≤ w1.heap.size by omega) (by omega))).trans hbw)
       rwa [errV_pos HK0] at this
     | ok kind t n =>
       rw [hw] at HWW
       have hn := wordP_n hw
       rw [List.length_drop, toList_len] at hn
       have HR : Hid (q = if toks.length = 300 then ([], p1, 4) else lineR (s.toList.drop (p1 + n)) (p1 + n) (toks ++ [⟨kind, bsOf t, p1⟩])) := by
         show _ = _
         rw [← HP2.out, hsd]
         rw [hsd] at hw
         rw [lineR_ok hc32 hw, ← hsd, List.drop_drop]
       clear he HP2 hc32 hsd hw
       go_wp2_with fail
       refine Calls.mono HWW.out ?_
       rintro r w2 ⟨rfl, hb2, ho2⟩
       have HI2 := Lib.hid (HI1.out.only hb2 ho2)
       clear hb2 ho2 HWW HI1 c1
       obtain ⟨A, c, hts, hown⟩ := HI2.out.ts
       have HOW := Lib.hid hown
       have HTS := Lib.hid hts
       have ct : w2.cell? ⟨w.heap.size, 0, none⟩ = some (.slice A toks.length c) := hts.cell 0
       have lt0 := hts.lt
       have lt3 := HI2.out.rd.lt
       clear hts hown
       by_cases h300 : toks.length = 300
       · have t3 : ((toks.length : Int) == 300) = true := by rw [h300]; rfl
         rw [if_pos h300] at HR
         clear h300
         go_wp2_with fail
         refine leaves_cons (f := 127) (args := #[.pointer (some ⟨w.heap.size, 0, none⟩), .pointer (some ⟨w.heap.size + 1, 0, none⟩), .pointer (some ⟨w.heap.size + 2, 0, none⟩)]) (by simp) (by simp [go_sem]) ?_
         refine (read_catch w.heap.size _ _ _ 4 p1 [] _ (HTS.out.alloc _) (HI2.out.at_.alloc _) (HI2.out.er.alloc _)).mono ?_
         rintro e' u' w'' ⟨rfl, rfl, hc0, hc1, hc2, hbw⟩
         simp [Leaves, settle, results, Tryz.results93, go_sem, hc0, hc1, hc2]
         rw [HR.out]
         exact ToksBack.none (w := w) (i := p1) (k := 4) ((HI2.out.alloc _).on.trans hbw)
       · have t3 : ((toks.length : Int) == 300) = false := by simp; omega
         rw [if_neg h300] at HR
         have htl2 : toks.length < 300 := by omega
         clear h300
         go_wp2_with (at_builtin; refine wpList_append_own _ rfl (.tmp 34) (.tmp 36) 23 rfl (w.heap.size + 4) 42 i0 _ 3 32 Tryz.underlying23 hi hz0 hz1 hz2 rfl (by omega) (.slice A toks.length c) toks.length (flatG Tk.cells toks) rfl ((HOW.out.alloc _).alloc _) ⟨w2.heap.size + 1, 0, none⟩ 1 1 (flatG Tk.cells [⟨kind, bsOf t, p1⟩]) rfl rfl (new_flatG _ _ (⟨kind, bsOf t, p1⟩ : Tk) _ rfl _ (by simp)) (flatG_cell tk_ok [⟨kind, bsOf t, p1⟩]) (by unfold maxLen; omega) (by omega) (by simp; omega) ?_)
         intro v1 w3 hown1 hgrow1 _
         rw [← flatG_append] at hown1
         have hl1 : toks.length + 1 = (toks ++ [(⟨kind, bsOf t, p1⟩ : Tk)]).length := by rw [List.length_append]; rfl
         rw [hl1] at hown1
         obtain ⟨_, A2, c2, hv2, _⟩ := own_formG tk_ok hown1
         have hgb : ∀ g, (Value.slice A toks.length c).ownBlock = some g → w.heap.size + 4 ≤ g := fun g hg => (HOW.out.lt g hg).1
         have HI3 := Lib.hid (((HI2.out.alloc (.cells #[.int .i64 kind, .string (bsOf t), .int .i64 p1] 42)).alloc (.cells #[.int .i64 kind, .string (bsOf t), .int .i64 p1] 42)).wrote hgb hgrow1 hv2 hown1)
         have hblk : Blk w3 w.heap.size 23 #[.slice A toks.length c] := (hgrow1.block w.heap.size (by simp; omega) (fun e => by have := hgb _ e.symm; omega)).trans ((HTS.out.alloc _).alloc _)
         have c3 : w3.cell? ⟨w.heap.size, 0, none⟩ = some (.slice A toks.length c) := hblk.cell 0
         have f3 := hblk.frozen 0
         have l3 := hblk.lt
         rw [hv2] at HI3 ⊢
         clear hown1 hgrow1 hblk hl1 hgb hv2 ct
         go_wp2_with fail
         have hI3 := HI3.out
         rw [List.length_append, List.length_singleton] at hI3
         go_roundg (s.size + 1 - (p1 + n))
         case measure => omega
         case rel => exact ⟨p1 + n, toks ++ [⟨kind, bsOf t, p1⟩], by omega, by rw [List.length_append, List.length_singleton]; omega, by omega, by show _ = _; rw [HR.out], Lib.hid hI3⟩
theorem word_ReadX (s : ByteArray) (w : World) (hs : s.size ≤ 140737488351300) :
   Calls Tryz.prog 93 #[.string s] w fun r w' => ToksBack w r w' (readP s) := by
 by_cases h : 900 < s.size
 · exact word_Read_big s w h hs
 · exact word_Read_go s w h
end Go.Proofs.YtbggbcnfkcadjaaGreatDoor
