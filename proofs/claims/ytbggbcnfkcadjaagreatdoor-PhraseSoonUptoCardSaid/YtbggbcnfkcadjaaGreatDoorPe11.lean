/-
  THE WALKS: package word: small functions; 'while'.
  THE WALKS: package word: named, sign.
  THE WALKS: package word: sign.
  THE WALKS: (*strings.Builder).copyCheck and WriteByte at the seat's own program (turned from the shelf's text: the shelf's structure asks a type that this cut does not name).
  THE WALKS of the reference: names and texts.
  THE WALKS: package word: quoted.
  THE WALKS: package word: word.
  THE WALKS: package word: word, the other cases; all of them.
  THE WALKS: the deferred closure of word.Read.
  THE WALKS: word.Read: for any line.
  THE WALKS: strings.NewReplacer. THE WALKS: (*strings.Replacer).build. THE WALKS: (*strings.Replacer).buildOnce. THE WALKS: (*strings.byteStringReplacer).Replace. THE WALKS: sync.Once, one goroutine. THE WALKS: (*strings.Replacer).Replace of a fresh replacer; name.Quote.
  THE WALKS: word.spelt.
-/
import Derived.Test.YtbggbcnfkcadjaaGreatDoorPe01
import Derived.Test.YtbggbcnfkcadjaaGreatDoorPe06
import Derived.Test.YtbggbcnfkcadjaaGreatDoorPe03
import Derived.Deep.LoopGhost
import Derived.Shelf.Abstract
import Derived.BigQuiet
import Derived.Test.YtbggbcnfkcadjaaGreatDoorPe02
import Derived.Test.YtbggbcnfkcadjaaGreatDoorProg
import Derived.Lib.Builder
import Derived.Laws.Externs
import Derived.StillTailTactics
import Derived.Recover
import Derived.Defers
import Derived.LoopN
import Derived.WalkSpells
import Derived.Laws.IdiomStrings
import Derived.Deep.WholeRow
import Derived.Deep.DeepCutAuto
import Derived.Deep.QuietTactic
import Derived.Laws.CopyOwn
import Derived.Deep.RegionHeld3
import Derived.IntWalk
import Derived.Conc.MuLone
import Derived.Conc.MuData
import Derived.RegionCalls
import Derived.Laws.LoneSync
import Derived.Laws.StructEq
namespace Go.Proofs.YtbggbcnfkcadjaaGreatDoor
open Go.RowKit
set_option maxRecDepth 100000 in
set_option maxHeartbeats 400000 in
theorem word_digit (b : Int) (w : World) :
   Calls Tryz.prog 151 #[.int .u8 b] w fun e w' => e = .returned (.bool (digitI b)) ∧ w = w' := by
 go_enter Tryz.func151, Tryz.ntmps151
 go_wp2
 all_goals (go_ret; exact ⟨ret_bool (by rw [Bool.eq_iff_iff]; simp [digitI]; omega), rfl⟩)
def nameI (b : Int) : Bool := letterI b || digitI b
set_option maxRecDepth 100000 in
set_option maxHeartbeats 400000 in
theorem word_inName (b : Int) (w : World) :
   Calls Tryz.prog 153 #[.int .u8 b] w fun e w' => e = .returned (.bool (nameI b)) ∧ w = w' := by
 go_enter Tryz.func153, Tryz.ntmps153
 go_wp2_with (go_at_call 151; refine (word_digit _ _).mono ?_; rintro e w' ⟨rfl, rfl⟩)
 all_goals (go_ret; exact ⟨ret_bool (by rw [Bool.eq_iff_iff]; simp [nameI, letterI, digitI]; try omega), rfl⟩)
set_option maxRecDepth 100000 in
set_option maxHeartbeats 400000 in
theorem word_blank (b : Int) (w : World) :
   Calls Tryz.prog 129 #[.int .u8 b] w fun e w' => e = .returned (.bool (b == 32)) ∧ w = w' := by
 go_enter Tryz.func129, Tryz.ntmps129
 go_wp2
 all_goals (go_ret; exact ⟨rfl, rfl⟩)
structure PB (g : Nat) (p : Int → Bool) : Prop where
 ent : ∀ (args : Array Value) (w : World), (callFunc g args).run Tryz.prog w = .ok (.enter g args) w
 call : ∀ (b : Int) (w : World), Calls Tryz.prog g #[.int .u8 b] w fun e w' => e = .returned (.bool (p b)) ∧ w = w'
theorem pb_digit : PB 151 digitI := ⟨enters_of Tryz.func151 (by kernel_rfl) rfl, word_digit⟩
theorem pb_inName : PB 153 nameI := ⟨enters_of Tryz.func153 (by kernel_rfl) rfl, word_inName⟩
theorem pb_blank : PB 129 (· == 32) := ⟨enters_of Tryz.func129 (by kernel_rfl) rfl, word_blank⟩
def runL (p : Int → Bool) (s : ByteArray) (i : Nat) : Nat := i + ((s.toList.drop i).takeWhile fun c => p (c.toNat : Int)).length
theorem runL_hit {p : Int → Bool} {s : ByteArray} {i : Nat} (h : i < s.size) (hp : p (s[i].toNat : Int) = true) : runL p s i = runL p s (i + 1) := by
 unfold runL
 have h2 : i < s.toList.length := by rw [toList_len]; exact h
 have h1 := toList_get s i h
 rw [List.getElem?_eq_getElem h2] at h1
 injection h1 with h1
 rw [List.drop_eq_getElem_cons h2, h1, List.takeWhile_cons_of_pos (by simpa using hp), List.length_cons]; omega
theorem runL_miss {p : Int → Bool} {s : ByteArray} {i : Nat} (h : i < s.size) (hp : p (s[i].toNat : Int) = false) : runL p s i = i := by
 unfold runL
 have h2 : i < s.toList.length := by rw [toList_len]; exact h
 have h1 := toList_get s i h
 rw [List.getElem?_eq_getElem h2] at h1
 injection h1 with h1
 rw [List.drop_eq_getElem_cons h2, h1, List.takeWhile_cons_of_neg (by simpa using hp)]; rfl
theorem runL_end {p : Int → Bool} {s : ByteArray} {i : Nat} (h : s.size ≤ i) : runL p s i = i := by
 unfold runL
 rw [List.drop_eq_nil_of_le (by rw [toList_len]; exact h)]; rfl
theorem runL_le (p : Int → Bool) (s : ByteArray) {i : Nat} (h : i ≤ s.size) : runL p s i ≤ s.size := by
 unfold runL
 have := List.IsPrefix.length_le (List.takeWhile_prefix (fun c : UInt8 => p (c.toNat : Int)) (l := s.toList.drop i))
 rw [List.length_drop, toList_len] at this
 omega
theorem runL_ge (p : Int → Bool) (s : ByteArray) (i : Nat) : i ≤ runL p s i := by unfold runL; omega
theorem run_index_str (s : ByteArray) (j : Nat) (hj : j < s.size) (W : World) : (Instr.index 9 (.string s) (.int .i64 (j : Int))).run Tryz.prog W = .ok (.int .u8 (s[j].toNat : Int)) W := by
 go_simp
def rdS (s : ByteArray) (i : Nat) : Array Value := #[.string s, .int .i64 i]
theorem rdS_step {w : World} {rb i j : Nat} {s : ByteArray} {T : TypeId} (h : Blk w rb T (rdS s i)) : Blk (w.setCell ⟨rb, 1, none⟩ (.int .i64 (j : Int))) rb T (rdS s j) := h.set 1 _
set_option maxRecDepth 100000 in
set_option maxHeartbeats 1600000 in
theorem word_while (g : Nat) (p : Int → Bool) (hp : PB g p) (s : ByteArray) (i rb : Nat) (w : World) (hs : s.size ≤ 140737488351232) (hi : i ≤ s.size) (hb : Blk w rb 172 (rdS s i)) :
   Calls Tryz.prog 128 #[.pointer (some ⟨rb, 0, none⟩), .func (.func g) #[] #[]] w fun e w' => e = .returned (.string (s.extract i (runL p s i))) ∧ Blk w' rb 172 (rdS s (runL p s i)) ∧ Only w.heap.size rb w w' := by
 have hrb := hb.lt
 have k0 : w.cell? ⟨rb, 0, none⟩ = some (.string s) := hb.cell 0
 have k1 : w.cell? ⟨rb, 1, none⟩ = some (.int .i64 i) := hb.cell 1
 have eg := hp.ent
 have HPC := Lib.hid hp.call
 have HB := Lib.hid hb
 clear hb
 go_enter Tryz.func128, Tryz.ntmps128
 go_wp2_with fail
 go_loopg [] s.size (fun gg wr => ∃ k : Nat, i ≤ k ∧ k ≤ s.size ∧ s.size - k ≤ gg ∧ Hid (runL p s k = runL p s i) ∧ Hid (Blk wr rb 172 (rdS s k)) ∧ Hid (Only w.heap.size rb w wr))
 case atStart => exact ⟨i, Nat.le_refl _, hi, by omega, rfl, HB.out, Only.refl _ _ _⟩
 case round =>
   obtain ⟨k, hik, hk, hgg, HK, HBk, HOk⟩ := hrel
   have hrbw : rb < wr.heap.size := HBk.out.lt
   have c0 : wr.cell? ⟨rb, 0, none⟩ = some (.string s) := HBk.out.cell 0
   have c1 : wr.cell? ⟨rb, 1, none⟩ = some (.int .i64 k) := HBk.out.cell 1
   have z1 : wr.frozen? ⟨rb, 1, none⟩ = false := HBk.out.frozen 1
   clear k0 k1
   by_cases hlt : k < s.size
   · have hcall := HPC.out (s[k].toNat : Int)
     by_cases hp1 : p (s[k].toNat : Int) = true
     · rw [hp1] at hcall
       have hq : ∀ W, Calls Tryz.prog g #[.int .u8 (s[k].toNat : Int)] W fun e w' => e = .returned (.bool true) ∧ w' = W := fun W => (hcall W).mono fun _ _ ⟨a, b⟩ => ⟨a, b.symm⟩
       have HQ := Lib.hid hq
       have HK2 : Hid (runL p s (k + 1) = runL p s i) := by show _ = _; rw [← runL_hit hlt hp1]; exact HK.out
       have hd : decide ((k : Int) < (s.size : Int)) = true := by simp; omega
       clear hcall hp1 hq
       go_wp2_with fail
       go_quiet ((go_at_fn g; exact Calls.quiet_of_same (HQ.out _)))
       go_wp2_with fail
       go_roundg (s.size - (k + 1))
       case measure => omega
       case rel => exact ⟨k + 1, by omega, by omega, by omega, HK2, rdS_step (HBk.out.drewN _), (HOk.out.drewN _).setCell (.inl rfl) _⟩
     · have hp1 : p (s[k].toNat : Int) = false := by simpa using hp1
       rw [hp1] at hcall
       have hq : ∀ W, Calls Tryz.prog g #[.int .u8 (s[k].toNat : Int)] W fun e w' => e = .returned (.bool false) ∧ w' = W := fun W => (hcall W).mono fun _ _ ⟨a, b⟩ => ⟨a, b.symm⟩
       have HQ := Lib.hid hq
       have HK2 : Hid (runL p s i = k) := by show _ = _; rw [← HK.out]; exact runL_miss hlt hp1
       have hd : decide ((k : Int) < (s.size : Int)) = true := by simp; omega
       clear hcall hp1 hq
       go_wp2_with fail
       go_quiet ((go_at_fn g; exact Calls.quiet_of_same (HQ.out _)))
       go_wp2_with fail
       go_quiet (fail)
       go_wp2_with fail
       go_ret
       rw [HK2.out]
       exact ⟨rfl, (HBk.out.drewN _).drewN _, (HOk.out.drewN _).drewN _⟩
   · have HK2 : Hid (runL p s i = k) := by show _ = _; rw [← HK.out]; exact runL_end (by omega)
     have hd : decide ((k : Int) < (s.size : Int)) = false := by simp; omega
     go_wp2_with fail
     go_quiet (fail)
     go_wp2_with fail
     go_quiet (fail)
     go_wp2_with fail
     go_ret
     rw [HK2.out]
     exact ⟨rfl, (HBk.out.drewN _).drewN _, (HOk.out.drewN _).drewN _⟩
end Go.Proofs.YtbggbcnfkcadjaaGreatDoor
namespace Go.Proofs.YtbggbcnfkcadjaaGreatDoor
open Go.RowKit Go.Sort
def faultV (k : Int) (i : Nat) : List PanicEntry := [{ v := .iface 169 (.agg #[.int .i64 k, .int .i64 i]), recovered := false }]
theorem eql_err4 (k : Int) (h : k = 1 ∨ k = 4) (w : World) : (binOp .eql 25 (errV k) (.iface 33 (.int .i64 4))).run Tryz.prog w = .ok (.bool (k == 4)) w := by
 rcases h with rfl | rfl <;> kernel_rfl
@[go_sem] theorem guard_held (x y : Operand) (k : Int) (T : TypeId) (v : Value) (w : World) : (eqGuard .eql 25 x y (errV k) (.iface T v)).run Tryz.prog w = .ok () w := by
  by_cases h : k = 0
  · subst h; rw [errV_zero]; simp [eqGuard]
  · rw [errV_pos h]; simp [eqGuard]
theorem nameErr_cases (l : List UInt8) : nameErr l = 0 ∨ nameErr l = 1 ∨ nameErr l = 4 := by
 unfold nameErr
 repeat' split
 all_goals simp
set_option maxRecDepth 100000 in
set_option maxHeartbeats 1600000 in
theorem word_named_ok (s : ByteArray) (kind : Int) (i fr rb : Nat) (w : World) (hs : s.size ≤ 140737488351232) (hi : i ≤ s.size) (hb : Blk w rb 172 (rdS s i))
   (hne : nameErr (s.extract i (runL nameI s i)).toList = 0) :
   Calls Tryz.prog 154 #[.pointer (some ⟨rb, 0, none⟩), .int .i64 kind, .int .i64 fr] w fun e w' => e = .returned (.agg #[.int .i64 kind, .string (s.extract i (runL nameI s i)), .int .i64 fr]) ∧ Blk w' rb 172 (rdS s (runL nameI s i)) ∧ Only w.heap.size rb w w' := by
 have hle := runL_le nameI s hi
 have hge := runL_ge nameI s i
 have hxs : (s.extract i (runL nameI s i)).size ≤ 140737488351232 := by rw [ByteArray.size_extract]; omega
 have HW := Lib.hid (fun W (hW : Blk W rb 172 (rdS s i)) => word_while 153 nameI pb_inName s i rb W hs hi hW)
 have HC := Lib.hid (fun W => name_Check (s.extract i (runL nameI s i)) W hxs)
 rw [hne] at HC
 have HB := Lib.hid (hb.alloc (.cells #[.int .i64 0, .string ⟨#[]⟩, .int .i64 0] 42))
 have hrb := hb.lt
 generalize s.extract i (runL nameI s i) = x at HW HC hxs ⊢
 generalize runL nameI s i = j at HW hle hge ⊢
 clear hb hne
 go_enter Tryz.func154, Tryz.ntmps154
 go_wp2_with fail
 refine Calls.mono (HW.out _ HB.out) ?_
 rintro r w1 ⟨rfl, hb1, ho1⟩
 go_wp2_with fail
 refine Calls.mono (HC.out _) ?_
 rintro r w2 ⟨rfl, hb2⟩
 have hrw : w.heap.size < w1.heap.size := by have := ho1.size; simp at this; omega
 have c0 : w2.cell? ⟨w.heap.size, 0, none⟩ = some (.int .i64 0) := by
   rw [hb2.cell (p := ⟨w.heap.size, 0, none⟩) hrw, ho1.cell (p := ⟨w.heap.size, 0, none⟩) (by simp) (by simp; omega)]; simp [go_sem]
 have hB2 : Hid (Blk w2 w.heap.size 42 #[.int .i64 0, .string ⟨#[]⟩, .int .i64 0]) := ((Blk.new w 42 _).only ho1 (by simp) (by omega)).below hb2 hrw
 have f0 := hB2.out.frozen
 have k0 := hB2.out.cell
 go_wp2_with fail
 have hbl : Blk w2 rb 172 (rdS s j) := hb1.below hb2 hb1.lt
 have hne2 : rb ≠ w.heap.size := by omega
 have ho2 : Only w.heap.size rb w w2 := (((Only.refl w.heap.size rb w).alloc (Nat.le_refl _) _).trans (ho1.mono (by simp))).trans (Only.of_below hb2 (by omega))
 exact bodyPost_ret (v := .agg #[.int .i64 kind, .string x, .int .i64 fr]) (by simp [results, Tryz.results154, go_sem, k0]) rfl ⟨rfl, ((hbl.far hne2 _).far hne2 _).far hne2 _, by (repeat (first | assumption | exact Only.refl _ _ _ | apply Only.drew | apply Only.drewN | (refine Only.alloc ?_ (by first | exact Nat.le_refl _ | omega | (simp; done) | (simp; omega)) _) | (refine Only.setCell ?_ (by first | exact .inl rfl | exact .inr (Nat.le_refl _) | exact .inr (by first | omega | (simp; omega))) _)))⟩
set_option maxRecDepth 100000 in
set_option maxHeartbeats 1600000 in
theorem word_named_bad (s : ByteArray) (kind k : Int) (i fr rb : Nat) (w : World) (hs : s.size ≤ 140737488351232) (hi : i ≤ s.size) (hb : Blk w rb 172 (rdS s i))
   (hne : nameErr (s.extract i (runL nameI s i)).toList = k) (hk : k = 1 ∨ k = 4) :
   Calls Tryz.prog 154 #[.pointer (some ⟨rb, 0, none⟩), .int .i64 kind, .int .i64 fr] w fun e w' => e = .panicked (faultV k fr) ∧ Only w.heap.size rb w w' := by
 have hle := runL_le nameI s hi
 have hge := runL_ge nameI s i
 have hxs : (s.extract i (runL nameI s i)).size ≤ 140737488351232 := by rw [ByteArray.size_extract]; omega
 have HW := Lib.hid (fun W (hW : Blk W rb 172 (rdS s i)) => word_while 153 nameI pb_inName s i rb W hs hi hW)
 have HC := Lib.hid (fun W => name_Check (s.extract i (runL nameI s i)) W hxs)
 rw [hne] at HC
 have HB := Lib.hid (hb.alloc (.cells #[.int .i64 0, .string ⟨#[]⟩, .int .i64 0] 42))
 have hrb := hb.lt
 have he4 := eql_err4 k hk
 have hk0 : (k == 0) = false := by rcases hk with rfl | rfl <;> rfl
 generalize s.extract i (runL nameI s i) = x at HW HC hxs
 generalize runL nameI s i = j at HW hle hge
 clear hb hne
 rcases hk with rfl | rfl
 · have h1 : ((1 : Int) == 4) = false := rfl
   go_enter Tryz.func154, Tryz.ntmps154
   go_wp2_with fail
   refine Calls.mono (HW.out _ HB.out) ?_
   rintro r w1 ⟨rfl, hb1, ho1⟩
   go_wp2_with fail
   refine Calls.mono (HC.out _) ?_
   rintro r w2 ⟨rfl, hb2⟩
   have ho2 : Only w.heap.size rb w w2 := (((Only.refl w.heap.size rb w).alloc (Nat.le_refl _) _).trans (ho1.mono (by simp))).trans (Only.of_below hb2 (by have := ho1.size; simp at this; omega))
   go_wp2_with fail
   exact ⟨rfl, rfl, by (repeat (first | assumption | exact Only.refl _ _ _ | apply Only.drew | apply Only.drewN | (refine Only.alloc ?_ (by first | exact Nat.le_refl _ | omega | (simp; done) | (simp; omega)) _) | (refine Only.setCell ?_ (by first | exact .inl rfl | exact .inr (Nat.le_refl _) | exact .inr (by first | omega | (simp; omega))) _)))⟩
 · have h1 : ((4 : Int) == 4) = true := rfl
   go_enter Tryz.func154, Tryz.ntmps154
   go_wp2_with fail
   refine Calls.mono (HW.out _ HB.out) ?_
   rintro r w1 ⟨rfl, hb1, ho1⟩
   go_wp2_with fail
   refine Calls.mono (HC.out _) ?_
   rintro r w2 ⟨rfl, hb2⟩
   have ho2 : Only w.heap.size rb w w2 := (((Only.refl w.heap.size rb w).alloc (Nat.le_refl _) _).trans (ho1.mono (by simp))).trans (Only.of_below hb2 (by have := ho1.size; simp at this; omega))
   go_wp2_with fail
   exact ⟨rfl, rfl, by (repeat (first | assumption | exact Only.refl _ _ _ | apply Only.drew | apply Only.drewN | (refine Only.alloc ?_ (by first | exact Nat.le_refl _ | omega | (simp; done) | (simp; omega)) _) | (refine Only.setCell ?_ (by first | exact .inl rfl | exact .inr (Nat.le_refl _) | exact .inr (by first | omega | (simp; omega))) _)))⟩
end Go.Proofs.YtbggbcnfkcadjaaGreatDoor
namespace Go.Proofs.YtbggbcnfkcadjaaGreatDoor
open Go.RowKit Go.Sort
def sgL : List (List UInt8) := [[58, 58], [61, 61], [60, 61], [38, 38], [124, 124], [40], [41], [91], [93], [123], [125], [44], [58], [46], [60], [33], [43], [45], [42]]
def sgF (xs : List (List UInt8)) (l : List UInt8) : List UInt8 := (xs.find? fun x => x.isPrefixOf l).getD []
theorem pre1 (x : UInt8) (r : List UInt8) : List.isPrefixOf [x] r = (r.head? == some x) := by
 cases r with
 | nil => rfl
 | cons b r => simp only [List.isPrefixOf, List.head?_cons, Bool.and_true, Option.some_beq_some]; exact BEq.comm
theorem pre2 (x y a : UInt8) (r : List UInt8) : List.isPrefixOf [x, y] (a :: r) = (x == a && r.head? == some y) := by
 rw [List.isPrefixOf_cons_cons, pre1]
theorem head1 (a : UInt8) (r : List UInt8) (x : UInt8) : List.isPrefixOf [x] (a :: r) = (x == a) := by rw [pre1, List.head?_cons]; exact BEq.comm
theorem sgF_eq (l : List UInt8) : sgF sgL l = signP l := by
 cases l with
 | nil => rfl
 | cons a r =>
   rw [signP_cons]
   by_cases h1 : sign1 a = true
   · rw [if_pos h1]
     unfold sign1 at h1
     simp only [Bool.or_eq_true, beq_iff_eq, or_assoc] at h1
     rcases h1 with rfl | rfl | rfl | rfl | rfl | rfl | rfl | rfl | rfl | rfl | rfl | rfl <;> simp only [sgF, sgL, List.find?, head1, pre2] <;> simp
   · rw [if_neg h1]
     by_cases h2 : a = 58
     · subst h2
       rw [if_pos rfl]
       cases hb : (r.head? == some 58) <;> simp only [sgF, sgL, List.find?, head1, pre2, hb] <;> simp at hb <;> simp [hb]
     · rw [if_neg h2]
       by_cases h3 : a = 60
       · subst h3
         rw [if_pos rfl]
         cases hb : (r.head? == some 61) <;> simp only [sgF, sgL, List.find?, head1, pre2, hb] <;> simp at hb <;> simp [hb]
       · rw [if_neg h3]
         unfold sign1 at h1
         simp only [Bool.or_eq_true, beq_iff_eq, not_or] at h1
         obtain ⟨⟨⟨⟨⟨⟨⟨⟨⟨⟨⟨n1, n2⟩, n3⟩, n4⟩, n5⟩, n6⟩, n7⟩, n8⟩, n9⟩, n10⟩, n11⟩, n12⟩ := h1
         have e : ∀ x : UInt8, a ≠ x → (x == a) = false := fun x h => by simpa using Ne.symm h
         by_cases h4 : a = 61
         · subst h4; cases hb : (r.head? == some 61) <;> simp only [sgF, sgL, List.find?, head1, pre2, hb] <;> simp at hb <;> simp [hb]
         · by_cases h5 : a = 38
           · subst h5; cases hb : (r.head? == some 38) <;> simp only [sgF, sgL, List.find?, head1, pre2, hb] <;> simp at hb <;> simp [hb]
           · by_cases h6 : a = 124
             · subst h6; cases hb : (r.head? == some 124) <;> simp only [sgF, sgL, List.find?, head1, pre2, hb] <;> simp at hb <;> simp [hb]
             · rw [if_neg (by rintro ⟨h | h | h, _⟩; exact h4 h; exact h5 h; exact h6 h)]
               simp only [sgF, sgL, List.find?, head1, pre2] <;> simp [e _ n1, e _ n2, e _ n3, e _ n4, e _ n5, e _ n6, e _ n7, e _ n8, e _ n9, e _ n10, e _ n11, e _ n12, e _ h2, e _ h3, e _ h4, e _ h5, e _ h6]
theorem sgF_hit {k : Nat} {x l : List UInt8} (h : sgL[k]? = some x) (hp : x.isPrefixOf l = true) : sgF (sgL.drop k) l = x := by
 have hk := (List.getElem?_eq_some_iff.1 h).1
 rw [List.getElem?_eq_getElem hk] at h
 injection h with h
 unfold sgF
 rw [List.drop_eq_getElem_cons hk, h, List.find?_cons_of_pos (by simpa using hp)]; rfl
theorem sgF_miss {k : Nat} {x l : List UInt8} (h : sgL[k]? = some x) (hp : x.isPrefixOf l = false) : sgF (sgL.drop k) l = sgF (sgL.drop (k + 1)) l := by
 have hk := (List.getElem?_eq_some_iff.1 h).1
 rw [List.getElem?_eq_getElem hk] at h
 injection h with h
 unfold sgF
 rw [List.drop_eq_getElem_cons hk, h, List.find?_cons_of_neg (by simp [hp])]
theorem encStr_bs (x : List UInt8) : encStr x = .string (bsOf x) := rfl
set_option maxRecDepth 100000 in
set_option maxHeartbeats 1600000 in
theorem word_sign (s : ByteArray) (w : World) :
   Calls Tryz.prog 156 #[.string s] w fun e w' => e = .returned (.string (bsOf (signP s.toList))) ∧ RowKit.Below w.heap.size w w' := by
 have hsl : ∀ (i : Nat) (l : List UInt8), sgL[i]? = some l → (w.alloc (.cells #[.string ⟨#[58, 58]⟩, .string ⟨#[61, 61]⟩, .string ⟨#[60, 61]⟩, .string ⟨#[38, 38]⟩, .string ⟨#[124, 124]⟩, .string ⟨#[40]⟩, .string ⟨#[41]⟩, .string ⟨#[91]⟩, .string ⟨#[93]⟩, .string ⟨#[123]⟩, .string ⟨#[125]⟩, .string ⟨#[44]⟩, .string ⟨#[58]⟩, .string ⟨#[46]⟩, .string ⟨#[60]⟩, .string ⟨#[33]⟩, .string ⟨#[43]⟩, .string ⟨#[45]⟩, .string ⟨#[42]⟩] 9)).cell? ⟨w.heap.size, i, none⟩ = some (.string (bsOf l)) := fun i l hl => by
   have hh : (#[.string ⟨#[58, 58]⟩, .string ⟨#[61, 61]⟩, .string ⟨#[60, 61]⟩, .string ⟨#[38, 38]⟩, .string ⟨#[124, 124]⟩, .string ⟨#[40]⟩, .string ⟨#[41]⟩, .string ⟨#[91]⟩, .string ⟨#[93]⟩, .string ⟨#[123]⟩, .string ⟨#[125]⟩, .string ⟨#[44]⟩, .string ⟨#[58]⟩, .string ⟨#[46]⟩, .string ⟨#[60]⟩, .string ⟨#[33]⟩, .string ⟨#[43]⟩, .string ⟨#[45]⟩, .string ⟨#[42]⟩] : Array Value) = (sgL.map encStr).toArray := rfl
   rw [World.cell?_alloc_new, hh, List.getElem?_toArray, List.getElem?_map, hl]; rfl
 have hb1 : RowKit.Below w.heap.size w (w.alloc (.cells #[.string ⟨#[58, 58]⟩, .string ⟨#[61, 61]⟩, .string ⟨#[60, 61]⟩, .string ⟨#[38, 38]⟩, .string ⟨#[124, 124]⟩, .string ⟨#[40]⟩, .string ⟨#[41]⟩, .string ⟨#[91]⟩, .string ⟨#[93]⟩, .string ⟨#[123]⟩, .string ⟨#[125]⟩, .string ⟨#[44]⟩, .string ⟨#[58]⟩, .string ⟨#[46]⟩, .string ⟨#[60]⟩, .string ⟨#[33]⟩, .string ⟨#[43]⟩, .string ⟨#[45]⟩, .string ⟨#[42]⟩] 9)) := by (repeat (first | assumption | exact Below.refl _ _ | apply Below.drew | apply below_drewN | (refine Below.alloc ?_ (by first | exact Nat.le_refl _ | omega | (simp; done) | (simp; omega)) _)))
 have HS := Lib.hid hsl
 clear hsl
 go_enter Tryz.func156, Tryz.ntmps156
 go_wp2_with fail
 generalize (w.alloc (.cells #[.string ⟨#[58, 58]⟩, .string ⟨#[61, 61]⟩, .string ⟨#[60, 61]⟩, .string ⟨#[38, 38]⟩, .string ⟨#[124, 124]⟩, .string ⟨#[40]⟩, .string ⟨#[41]⟩, .string ⟨#[91]⟩, .string ⟨#[93]⟩, .string ⟨#[123]⟩, .string ⟨#[125]⟩, .string ⟨#[44]⟩, .string ⟨#[58]⟩, .string ⟨#[46]⟩, .string ⟨#[60]⟩, .string ⟨#[33]⟩, .string ⟨#[43]⟩, .string ⟨#[45]⟩, .string ⟨#[42]⟩] 9)) = w1 at HS hb1 ⊢
 go_loop [7] (fun t => ∃ k : Nat, k ≤ 19 ∧ t = .int .i64 k ∧ Hid (sgF (sgL.drop k) s.toList = signP s.toList)) (fun t => 19 - (intOf t).toNat)
 case atStart => exact ⟨0, by omega, rfl, sgF_eq _⟩
 case round =>
   obtain ⟨k, hk, rfl, HK⟩ := hrel
   by_cases hlt : k < 19
   · obtain ⟨x, hx⟩ : ∃ x, sgL[k]? = some x := ⟨_, List.getElem?_eq_getElem (show k < sgL.length from hlt)⟩
     have c0 := HS.out k x hx
     have HX := Lib.hid hx
     have hpx : Lib.hasPrefix s.data.toList (bsOf x).data.toList = x.isPrefixOf s.toList := by rw [← ByteArray.toList_eq]; rfl
     have HP := Lib.hid (fun W => Tryz.strings_HasPrefix s (bsOf x) W)
     rw [hpx] at HP
     clear hx hpx
     by_cases hp : x.isPrefixOf s.toList = true
     · have HR : Hid (signP s.toList = x) := by show _ = _; rw [← HK.out]; exact sgF_hit HX.out hp
       rw [hp] at HP
       clear hp
       go_wp2_with fail
       refine Calls.mono (HP.out _) ?_
       rintro r w2 ⟨rfl, rfl⟩
       go_wp2_with fail
       go_ret
       rw [HR.out]
       exact ⟨rfl, hb1⟩
     · have hp : x.isPrefixOf s.toList = false := Bool.eq_false_iff.2 hp
       have HK2 : Hid (sgF (sgL.drop (k + 1)) s.toList = signP s.toList) := by show _ = _; rw [← HK.out]; exact (sgF_miss HX.out hp).symm
       rw [hp] at HP
       clear hp
       go_wp2_with fail
       refine Calls.mono (HP.out _) ?_
       rintro r w2 ⟨rfl, rfl⟩
       go_wp2_with fail
       go_round
       case rel => exact ⟨k + 1, by omega, by go_num, HK2⟩
       case measure => simp [intOf]; omega
   · have hk19 : k = 19 := by omega
     have HR : Hid (signP s.toList = []) := by show _ = _; rw [← HK.out, hk19]; rfl
     go_wp2_with fail
     go_ret
     rw [HR.out]
     exact ⟨rfl, hb1⟩
end Go.Proofs.YtbggbcnfkcadjaaGreatDoor
namespace Go.Proofs.YtbggbcnfkcadjaaGreatDoor
open Go.RowKit
theorem bld_size : (Tryz.prog.info? 137).map (·.size) = some 2 := by kernel_rfl
theorem bld_lies : liesAt Tryz.prog Tryz.prog.depth 137 (2 / Tryz.prog.cellsOf 137) 0 137 1 = true := by kernel_rfl
theorem bld_byte : (Tryz.prog.info? 5).map (fun i => (i.zero, i.size, i.bytes)) = some (some (.int .u8 0), 1, 1) := by kernel_rfl
set_option maxHeartbeats 1000000 in
set_option maxRecDepth 100000 in
theorem bld_check_used (b : Nat) (w : World) (h0 : w.cell? ⟨b, 0, none⟩ = some (.pointer (some ⟨b, 0, none⟩))) :
   Calls Tryz.prog 131 #[.pointer (some ⟨b, 0, none⟩)] w fun e w' => e = .returned (.tuple #[]) ∧ w' = w := by
 obtain ⟨j, hj, _⟩ := Option.map_eq_some_iff.1 bld_size
 go_enter Tryz.func131, Tryz.ntmps131
 go_wp2
 rw [Lib.run_neq_ptr_same w _ Tryz.underlying134 hj]
 go_wp2
 go_end0
 exact ⟨rfl, rfl⟩
set_option maxHeartbeats 1000000 in
set_option maxRecDepth 100000 in
theorem bld_check_fresh (b : Nat) (w : World) (h0 : w.cell? ⟨b, 0, none⟩ = some (.pointer none)) (hsh : w.shape? b = some (137, 2)) (hfz : w.frozen? ⟨b, 0, none⟩ = false) :
   Calls Tryz.prog 131 #[.pointer (some ⟨b, 0, none⟩)] w fun e w' => e = .returned (.tuple #[]) ∧ w' = w.setCell ⟨b, 0, none⟩ (.pointer (some ⟨b, 0, none⟩)) := by
 obtain ⟨j, hj, hjs⟩ := Option.map_eq_some_iff.1 bld_size
 go_enter Tryz.func131, Tryz.ntmps131
 go_wp2
 rw [Lib.run_to_unsafe w ⟨b, 0, none⟩ Tryz.underlying134 Tryz.underlying118 hj (by rw [hjs]; decide) hsh (Nat.zero_lt_succ 1)]
 simp only [Result.andThen]
 rw [Oper.upon_value]
 go_wp2
 rw [run_callFunc_extern Tryz.func157 (by kernel_rfl) (by kernel_rfl) (by kernel_rfl) (e := Extern.AbiNoEscape.same) (by kernel_rfl)]
 rw [Lib.run_noEscape]
 simp only [Result.andThen]
 rw [Oper.upon_value]
 go_wp2
 rw [Lib.run_from_unsafe w ⟨b, 0, none⟩ Tryz.underlying118 Tryz.underlying134 hj hsh bld_lies]
 simp only [Result.andThen]
 rw [Oper.upon_value]
 go_wp2
 go_end0
 exact ⟨rfl, rfl⟩
theorem bld_check (B b : Nat) (bs : List Value) (w : World) (h : Lib.IsBuilder 137 5 B b bs w) :
   Calls Tryz.prog 131 #[.pointer (some ⟨b, 0, none⟩)] w fun e w' => e = .returned (.tuple #[]) ∧ (Lib.BuilderAt 137 5 B b (.pointer (some ⟨b, 0, none⟩)) bs w' ∧ Below B w w') := by
 rcases h with h | h
 · refine (bld_check_fresh b w h.cell0 h.shape h.frozen0).mono ?_
   rintro e w' ⟨rfl, rfl⟩
   exact ⟨rfl, h.used _, (Below.refl B w).setCell (p := ⟨b, 0, none⟩) h.1 _⟩
 · refine (bld_check_used b w h.cell0).mono ?_
   rintro e w' ⟨rfl, rfl⟩
   exact ⟨rfl, h, Below.refl B _⟩
set_option maxHeartbeats 2000000 in
set_option maxRecDepth 100000 in
theorem bld_WriteByte (B b : Nat) (bs : List Value) (c : Int) (w : World) (h : Lib.IsBuilder 137 5 B b bs w) (hlen : bs.length + 1 ≤ 140737488355328) (hBw : B ≤ w.heap.size) :
   Calls Tryz.prog 174 #[.pointer (some ⟨b, 0, none⟩), .int .u8 c] w fun e w' => e = .returned .nilIface ∧ (Lib.BuilderAt 137 5 B b (.pointer (some ⟨b, 0, none⟩)) (bs ++ [.int .u8 c]) w' ∧ Below B w w') := by
 obtain ⟨i0, hi, hz0, hz1, hz2⟩ := info_parts bld_byte
 go_enter Tryz.func174, Tryz.ntmps174
 go_wp2_with (go_at_call 131; refine (bld_check B b bs _ h).mono ?_)
 rintro e w1 ⟨rfl, h1, hb1⟩
 obtain ⟨hB, v, hbk, hown, hne⟩ := h1
 have c0 : w1.cell? ⟨b, 0, none⟩ = some (.pointer (some ⟨b, 0, none⟩)) := by rw [Lib.cell_of_heap hbk]; rfl
 have c1 : w1.cell? ⟨b, 1, none⟩ = some v := by rw [Lib.cell_of_heap hbk]; rfl
 go_wp2_with (at_builtin; refine wpList_append_own _ rfl _ _ 135 rfl B 5 i0 (.int .u8 0) 1 1 Tryz.underlying135 hi hz0 hz1 hz2 rfl (by decide) _ _ _ rfl (hown.alloc _) ⟨w1.heap.size, 0, none⟩ 1 1 [.int .u8 c] rfl rfl ?c1 ?c2 ?c3 ?c4 ?c5 ?_)
 case c1 =>
   intro j u hj
   match j, hj with
   | 0, hj => simp at hj; subst hj; simp [Addr.add]
 case c2 => intro u hu; simp at hu; subst hu; rfl
 case c3 => unfold maxLen; omega
 case c4 => omega
 case c5 => have := hb1.size; simp; omega
 intro v' w2 hown' hgrow _
 have hlt : b < w1.heap.size := by
   rcases Nat.lt_or_ge b w1.heap.size with h' | h'
   · exact h'
   · simp [Array.getElem?_eq_none h'] at hbk
 have hb2 : w2.heap[b]? = some (.cells #[.pointer (some ⟨b, 0, none⟩), v] 137 (0, 0)) := by
   rw [hgrow.block b (by simp; omega) (fun e => hne e.symm), Lib.alloc_old w1 _ b hlt]
   exact hbk
 have d0 : w2.cell? ⟨b, 0, none⟩ = some (.pointer (some ⟨b, 0, none⟩)) := by rw [Lib.cell_of_heap hb2]; rfl
 have d1 : w2.cell? ⟨b, 1, none⟩ = some v := by rw [Lib.cell_of_heap hb2]; rfl
 have f1 : w2.frozen? ⟨b, 1, none⟩ = false := Lib.frozen_of_heap hb2 1
 obtain ⟨g, cap, rfl⟩ : ∃ g cap, v' = .slice (some ⟨g, 0, none⟩) (bs.length + 1) cap := by
   rcases hown'.2 with ⟨_, h0⟩ | ⟨g, cap, cur, hv, _⟩
   · omega
   · exact ⟨g, cap, hv⟩
 go_wp2
 go_ret
 refine ⟨rfl, ?_, ?_⟩
 · exact Lib.BuilderAt.put (T := 137) (e := 5) hB hb2 (bs' := bs ++ [.int .u8 c]) (by simpa using hown') (by decide)
 · exact ((hb1.alloc (by have := hb1.size; omega) _).grown hgrow (by have := hb1.size; simp; omega) (fun k hk => (hown.lt k hk).1)).setCell (p := ⟨b, 1, none⟩) hB _
end Go.Proofs.YtbggbcnfkcadjaaGreatDoor
namespace Go.Proofs.YtbggbcnfkcadjaaGreatDoor
open Go.RowKit
def headB (l : List UInt8) : Bool := match l with | [] => true | c :: _ => letterI (c.toNat : Int)
theorem nameErr_cons (c : UInt8) (r : List UInt8) : nameErr (c :: r) = if letterI (c.toNat : Int) = false then 1 else if (c :: r).all nameB = false then 1 else if 20 < (c :: r).length then 4 else 0 := rfl
theorem nameErr_bad {l : List UInt8} (h : headB l = false ∨ l.all nameB = false) : nameErr l = 1 := by
 cases l with
 | nil => rfl
 | cons c r =>
   rw [nameErr_cons]
   by_cases h1 : letterI (c.toNat : Int) = false
   · rw [if_pos h1]
   · rw [if_neg h1]
     rcases h with h | h
     · exact absurd h h1
     · rw [if_pos h]
theorem nameErr_end {l : List UInt8} (hne : l.length ≠ 0) (hh : headB l = true) (ha : l.all nameB = true) : nameErr l = if 20 < l.length then 4 else 0 := by
 cases l with
 | nil => exact absurd rfl hne
 | cons c r =>
   have hc : letterI (c.toNat : Int) = true := hh
   rw [nameErr_cons, if_neg (by rw [hc]; decide), if_neg (by rw [ha]; decide)]
theorem drop_none (s : ByteArray) (k : Nat) (h : s.size ≤ k) : s.toList.drop k = [] := List.drop_eq_nil_of_le (by rw [toList_len]; exact h)
theorem toList_drop (s : ByteArray) (k : Nat) (h : k < s.size) : s.toList.drop k = s[k] :: s.toList.drop (k + 1) := by
 have h1 := toList_get s k h
 have h2 : k < s.toList.length := by rw [toList_len]; exact h
 rw [List.drop_eq_getElem_cons h2]
 rw [List.getElem?_eq_getElem h2] at h1
 injection h1 with h1
 rw [h1]
set_option maxRecDepth 100000 in
set_option maxHeartbeats 400000 in
theorem r1_isLetter (b : Int) (w : World) :
   Calls Tryz.prog 72 #[.int .u8 b] w fun e w' => e = .returned (.bool (letterI b)) ∧ w = w' := by
 go_enter Tryz.func72, Tryz.ntmps72
 go_wp2
 all_goals (go_ret; exact ⟨ret_bool (by rw [Bool.eq_iff_iff]; simp [letterI]; omega), rfl⟩)
set_option maxRecDepth 100000 in
set_option maxHeartbeats 400000 in
theorem r1_isDigit (b : Int) (w : World) :
   Calls Tryz.prog 73 #[.int .u8 b] w fun e w' => e = .returned (.bool (digitI b)) ∧ w = w' := by
 go_enter Tryz.func73, Tryz.ntmps73
 go_wp2
 all_goals (go_ret; exact ⟨ret_bool (by rw [Bool.eq_iff_iff]; simp [digitI]; omega), rfl⟩)
set_option maxRecDepth 100000 in
set_option maxHeartbeats 400000 in
theorem r1_NameFault (s : ByteArray) (w : World) (hs : s.size ≤ 140737488351232) :
   Calls Tryz.prog 36 #[.string s] w fun e w' => e = .returned (.int .i64 (nameErr s.toList)) ∧ w = w' := by
 go_enter Tryz.func36, Tryz.ntmps36
 go_wp2_with fail
 go_loop [3] (fun i => ∃ k : Nat, k ≤ s.size ∧ i = .int .i64 k ∧ Hid ((s.toList.take k).all nameB = true) ∧ Hid (k = 0 ∨ headB s.toList = true)) (fun i => s.size - (intOf i).toNat)
 case atStart => exact ⟨0, by omega, rfl, by simp [Hid], .inl rfl⟩
 case round =>
   obtain ⟨k, hk, rfl, HK, HF⟩ := hrel
   by_cases hlt : k < s.size
   · have HG := Lib.hid (toList_get s k hlt)
     have HD : Hid (k = 0 → headB s.toList = letterI (s[k].toNat : Int)) := by
       intro h0
       subst h0
       obtain ⟨l, hl⟩ := toList_cons hlt
       rw [hl]; rfl
     by_cases h1 : letterI (s[k].toNat : Int) = true
     · go_wp2_with (go_at_call 72; refine (r1_isLetter _ _).mono ?_; rintro e w' ⟨rfl, rfl⟩)
       exact ⟨⟨k + 1, by omega, by go_num, all_take _ _ _ _ HK.out HG.out (by simp [nameB, h1]), (by
         rcases HF.out with h | h
         · right; rw [HD.out h]; exact h1
         · exact .inr h)⟩, by simp [intOf]; omega⟩
     · have h1' : letterI (s[k].toNat : Int) = false := by simpa using h1
       clear h1
       by_cases h0 : k = 0
       · have hz : (((k : Nat) : Int) == 0) = true := by simp [h0]
         have HB : Hid (nameErr s.toList = 1) := nameErr_bad (.inl (by rw [HD.out h0]; exact h1'))
         clear h0
         go_wp2_with (go_at_call 72; refine (r1_isLetter _ _).mono ?_; rintro e w' ⟨rfl, rfl⟩)
         go_ret
         exact ⟨ret_int HB.out.symm, rfl⟩
       · have hz : (((k : Nat) : Int) == 0) = false := by simp [h0]
         have HH : Hid (headB s.toList = true) := HF.out.resolve_left h0
         clear h0
         by_cases h2 : digitI (s[k].toNat : Int) = true
         · go_wp2_with (first | (go_at_call 72; refine (r1_isLetter _ _).mono ?_; rintro e w' ⟨rfl, rfl⟩) | (go_at_call 73; refine (r1_isDigit _ _).mono ?_; rintro e w' ⟨rfl, rfl⟩))
           exact ⟨⟨k + 1, by omega, by go_num, all_take _ _ _ _ HK.out HG.out (by simp [nameB, h2]), .inr HH.out⟩, by simp [intOf]; omega⟩
         · have h2' : digitI (s[k].toNat : Int) = false := by simpa using h2
           have HB : Hid (nameErr s.toList = 1) := nameErr_bad (.inr (all_bad s.toList nameB k s[k] HG.out (by simp [nameB, h1', h2'])))
           clear h2
           go_wp2_with (first | (go_at_call 72; refine (r1_isLetter _ _).mono ?_; rintro e w' ⟨rfl, rfl⟩) | (go_at_call 73; refine (r1_isDigit _ _).mono ?_; rintro e w' ⟨rfl, rfl⟩))
           go_ret
           exact ⟨ret_int HB.out.symm, rfl⟩
   · have hks : k = s.size := by omega
     subst hks
     have ha : s.toList.all nameB = true := by have := HK.out; rwa [List.take_of_length_le (by rw [toList_len]; omega)] at this
     have hsz := toList_len s
     by_cases h0 : s.size = 0
     · have hz : ((s.size : Int) == 0) = true := by simp [h0]
       have HB : Hid (nameErr s.toList = 1) := by
         have h5 : s.toList = [] := List.eq_nil_of_length_eq_zero (by omega)
         show _ = _
         rw [h5]; rfl
       clear h0 ha hsz
       go_wp2_with fail
       go_ret
       exact ⟨ret_int HB.out.symm, rfl⟩
     · have hz : ((s.size : Int) == 0) = false := by simp [h0]
       have HB : Hid (nameErr s.toList = if 20 < s.size then 4 else 0) := by
         show _ = _
         rw [nameErr_end (by omega) (HF.out.resolve_left h0) ha, hsz]
       clear h0 ha hsz
       by_cases h20 : 20 < s.size
       · go_wp2_with fail
         go_ret
         exact ⟨ret_int (by rw [HB.out, if_pos h20]), rfl⟩
       · go_wp2_with fail
         go_ret
         exact ⟨ret_int (by rw [HB.out, if_neg h20]), rfl⟩
set_option maxRecDepth 100000 in
set_option maxHeartbeats 400000 in
theorem r1_TextFault (s : ByteArray) (w : World) (hs : s.size ≤ 140737488351232) :
   Calls Tryz.prog 35 #[.string s] w fun e w' => e = .returned (.int .i64 (textErr s.toList)) ∧ w = w' := by
 have HZ := Lib.hid (toList_len s)
 by_cases h60 : 60 < s.size
 · go_enter Tryz.func35, Tryz.ntmps35
   go_wp2_with fail
   go_ret
   have hz := HZ.out
   exact ⟨ret_int (by simp [textErr, hz, h60]), rfl⟩
 · go_enter Tryz.func35, Tryz.ntmps35
   go_wp2_with fail
   go_loop [3] (fun i => ∃ k : Nat, k ≤ s.size ∧ i = .int .i64 k ∧ Hid ((s.toList.take k).all plainB = true)) (fun i => s.size - (intOf i).toNat)
   case atStart => exact ⟨0, by omega, rfl, by simp [Hid]⟩
   case round =>
     obtain ⟨k, hk, rfl, HK⟩ := hrel
     by_cases hlt : k < s.size
     · have HG := Lib.hid (toList_get s k hlt)
       by_cases h1 : (s[k].toNat : Int) < 32
       · go_wp2_with fail
         go_ret
         have hb := all_bad s.toList plainB k s[k] HG.out (by simp [plainB]; omega)
         have hz := HZ.out
         exact ⟨ret_int (by simp [textErr, hz, h60, hb]), rfl⟩
       · by_cases h2 : 126 < (s[k].toNat : Int)
         · go_wp2_with fail
           go_ret
           have hb := all_bad s.toList plainB k s[k] HG.out (by simp [plainB]; omega)
           have hz := HZ.out
           exact ⟨ret_int (by simp [textErr, hz, h60, hb]), rfl⟩
         · go_wp2_with fail
           exact ⟨⟨k + 1, by omega, by go_num, all_take _ _ _ _ HK.out HG.out (by simp [plainB]; omega)⟩, by simp [intOf]; omega⟩
     · have hks : k = s.size := by omega
       subst hks
       have HA : Hid (s.toList.all plainB = true) := by have := HK.out; rwa [List.take_of_length_le (by rw [toList_len]; omega)] at this
       go_wp2_with fail
       go_ret
       have ha := HA.out
       have hz := HZ.out
       exact ⟨ret_int (by simp [textErr, hz, h60, ha]), rfl⟩
end Go.Proofs.YtbggbcnfkcadjaaGreatDoor
namespace Go.Proofs.YtbggbcnfkcadjaaGreatDoor
open Go.RowKit
theorem isBuilder_far {T e : TypeId} {B b : Nat} {bs : List Value} {w : World} (h : Lib.IsBuilder T e B b bs w) {p : Addr} (hp : p.block < B) (u : Value) : Lib.IsBuilder T e B b bs (w.setCell p u) := by
 have key : ∀ q, Lib.BuilderAt T e B b q bs w → Lib.BuilderAt T e B b q bs (w.setCell p u) := fun q hq => by
   obtain ⟨hB, v, hb, hown, hne⟩ := hq
   refine ⟨hB, v, (Below.heap_setCell w p u b (by omega)).trans hb, hown.kept (row := some p.block) ⟨rfl, rfl, rfl, by simp [World.setCell], fun k _ hk => Below.heap_setCell w p u k (fun e => hk (by rw [e]))⟩ ?_, hne⟩
   cases hv : v.ownBlock with
   | none => exact .inl rfl
   | some g =>
     right
     intro h
     injection h with h
     have := (hown.lt g hv).1
     omega
 exact h.imp (key _) (key _)
def QuoPost (s : ByteArray) (i rb : Nat) (w : World) (q : Wd) (e : Ending) (w' : World) : Prop :=
 match q with
 | .ok kind t n => e = .returned (.agg #[.int .i64 kind, .string (bsOf t), .int .i64 i]) ∧ Blk w' rb 172 (rdS s (i + n)) ∧ Only w.heap.size rb w w'
 | .bad k => e = .panicked (faultV k i) ∧ Only w.heap.size rb w w'
theorem QuoPost.bad {s : ByteArray} {i rb : Nat} {w : World} {q : Wd} {e : Ending} {w' : World} {k : Int} (hq : q = .bad k) (he : e = .panicked (faultV k i)) (ho : Only w.heap.size rb w w') : QuoPost s i rb w q e w' := by subst hq; exact ⟨he, ho⟩
theorem QuoPost.ok {s : ByteArray} {i rb : Nat} {w : World} {q : Wd} {e : Ending} {w' : World} {kind : Int} {t : List UInt8} {n : Nat} (hq : q = .ok kind t n) (he : e = .returned (.agg #[.int .i64 kind, .string (bsOf t), .int .i64 i]))
   (hb : Blk w' rb 172 (rdS s (i + n))) (ho : Only w.heap.size rb w w') : QuoPost s i rb w q e w' := by subst hq; exact ⟨he, hb, ho⟩
theorem drop_noneW (s : ByteArray) (k : Nat) (h : s.size ≤ k) : s.toList.drop k = [] := List.drop_eq_nil_of_le (by rw [toList_len]; exact h)
theorem beq_lit {c d : UInt8} (h : c = d) : ((c.toNat : Int) == (d.toNat : Int)) = true := by rw [h]; simp
theorem bne_lit {c d : UInt8} (h : ¬ c = d) : ((c.toNat : Int) == (d.toNat : Int)) = false := by
 simp only [beq_eq_false_iff_ne, ne_eq]
 intro hh
 exact h (UInt8.toNat_inj.1 (by omega))
theorem bne_lit2 {c d : UInt8} (h : ¬ c = d) : ((c.toNat : Int) != (d.toNat : Int)) = true := by rw [bne, bne_lit h]; rfl
structure QInv (s : ByteArray) (rb : Nat) (w : World) (acc : List UInt8) (p : Nat) (W : World) : Prop where
 bu : Lib.IsBuilder 137 5 (w.heap.size + 1) (w.heap.size + 1) (Lib.byteCells acc) W
 rd : Blk W rb 172 (rdS s p)
 tk : Blk W w.heap.size 42 #[.int .i64 0, .string ⟨#[]⟩, .int .i64 0]
 on : Only w.heap.size rb w W
theorem QInv.drewN {s : ByteArray} {rb : Nat} {w : World} {acc : List UInt8} {p : Nat} {W : World} (h : QInv s rb w acc p W) (n : Nat) : QInv s rb w acc p (W.drewN n) := ⟨h.bu, h.rd, h.tk, h.on.drewN n⟩
theorem QInv.step {s : ByteArray} {rb : Nat} {w : World} {acc : List UInt8} {p : Nat} {W : World} (h : QInv s rb w acc p W) (hrb : rb < w.heap.size) (j : Nat) : QInv s rb w acc j (W.setCell ⟨rb, 1, none⟩ (.int .i64 (j : Int))) :=
 ⟨isBuilder_far h.bu (show rb < w.heap.size + 1 by omega) _, rdS_step h.rd, h.tk.far (show w.heap.size ≠ rb by omega) _, h.on.setCell (.inl rfl) _⟩
theorem QInv.wrote {s : ByteArray} {rb : Nat} {w : World} {acc : List UInt8} {p : Nat} {W W' : World} (h : QInv s rb w acc p W) (hrb : rb < w.heap.size) {c : UInt8}
   (hb : Lib.BuilderAt 137 5 (w.heap.size + 1) (w.heap.size + 1) (.pointer (some ⟨w.heap.size + 1, 0, none⟩)) (Lib.byteCells acc ++ [.int .u8 (c.toNat : Int)]) W') (hW : Below (w.heap.size + 1) W W') : QInv s rb w (acc ++ [c]) p W' :=
 ⟨.inr (by rw [Lib.byteCells_append]; exact hb), h.rd.below hW (by omega), h.tk.below hW (by omega), h.on.trans (Only.of_below hW (by omega))⟩
theorem QInv.size {s : ByteArray} {rb : Nat} {w : World} {acc : List UInt8} {p : Nat} {W : World} (h : QInv s rb w acc p W) : w.heap.size + 1 ≤ W.heap.size := h.tk.lt
set_option maxRecDepth 100000 in
set_option maxHeartbeats 6400000 in
theorem word_quoted (s : ByteArray) (i rb : Nat) (w : World) (hs : s.size ≤ 140737488351232) (hi : i < s.size) (hb : Blk w rb 172 (rdS s i)) :
   Calls Tryz.prog 155 #[.pointer (some ⟨rb, 0, none⟩)] w (QuoPost s i rb w (quoP (s.toList.drop (i + 1)) [] 1)) := by
 have hrb := hb.lt
 have k0 : w.cell? ⟨rb, 0, none⟩ = some (.string s) := hb.cell 0
 have k1 : w.cell? ⟨rb, 1, none⟩ = some (.int .i64 i) := hb.cell 1
 have z1 : w.frozen? ⟨rb, 1, none⟩ = false := hb.frozen 1
 have HB := Lib.hid hb
 obtain ⟨q, hq⟩ : ∃ q, quoP (s.toList.drop (i + 1)) [] 1 = q := ⟨_, rfl⟩
 rw [hq]
 have HQ := Lib.hid hq
 clear hb hq
 go_enter Tryz.func155, Tryz.ntmps155
 go_wp2_with fail
 go_loopg [5] (s.size + 1) (fun gg cc wr => ∃ p : Nat, ∃ acc : List UInt8, i + 1 ≤ p ∧ p ≤ s.size ∧ acc.length ≤ p ∧ s.size + 1 - p ≤ gg ∧ Hid (quoP (s.toList.drop p) acc (p - i) = q) ∧ Hid (QInv s rb w acc p wr))
 case atStart =>
   refine ⟨i + 1, [], Nat.le_refl _, by omega, by simp, by omega, by show _ = _; rw [show i + 1 - i = 1 from by omega]; exact HQ.out, ?_⟩
   show QInv _ _ _ _ _ _
   refine ⟨?_, ((rdS_step HB.out).alloc _).alloc _, ?_, (((Only.refl w.heap.size rb w).setCell (.inl rfl) _).alloc (by simp [World.setCell]) _).alloc (by simp [World.setCell]) _⟩
   · have := Lib.fresh_isBuilder 137 5 ((w.setCell ⟨rb, 1, none⟩ (.int .i64 ((i : Int) + 1))).alloc (.cells #[.int .i64 0, .string ⟨#[]⟩, .int .i64 0] 42))
     rwa [World.size_alloc, show (w.setCell ⟨rb, 1, none⟩ (.int .i64 ((i : Int) + 1))).heap.size = w.heap.size from by simp [World.setCell]] at this
   · have h := (Blk.new (w.setCell ⟨rb, 1, none⟩ (.int .i64 ((i : Int) + 1))) 42 #[.int .i64 0, .string ⟨#[]⟩, .int .i64 0]).alloc (.cells #[.pointer none, .slice none 0 0] 137)
     rwa [show (w.setCell ⟨rb, 1, none⟩ (.int .i64 ((i : Int) + 1))).heap.size = w.heap.size from by simp [World.setCell]] at h
 case round =>
   obtain ⟨p, acc, hip, hp, hacc, hgg, HP, HI⟩ := hrel
   have hrbw : rb < wr.heap.size := HI.out.rd.lt
   have c0 : wr.cell? ⟨rb, 0, none⟩ = some (.string s) := HI.out.rd.cell 0
   have c1 : wr.cell? ⟨rb, 1, none⟩ = some (.int .i64 p) := HI.out.rd.cell 1
   have y1 : wr.frozen? ⟨rb, 1, none⟩ = false := HI.out.rd.frozen 1
   clear k0 k1 z1
   by_cases hlt : p < s.size
   · have HD := Lib.hid (toList_drop s p hlt)
     rw [HD.out, quoP_cons] at HP
     have hd : decide ((s.size : Int) ≤ (p : Int)) = false := by simp; omega
     by_cases h34 : s[p] = 34
     · have t34 : ((s[p].toNat : Int) == 34) = true := beq_lit h34
       rw [if_pos h34] at HP
       clear h34
       by_cases h60 : 60 < acc.length
       · have HP2 : Hid (q = .bad 4) := by show _ = _; rw [← HP.out, if_pos h60]
         clear HP
         go_wp2_with fail
         go_quiet (fail)
         go_wp2_with fail
         go_quiet (fail)
         go_wp2_with fail
         generalize hw1 : (wr.drewN _).setCell ⟨rb, 1, none⟩ (.int .i64 ((p : Int) + 1)) = w1
         have hI1 : QInv s rb w acc (p + 1) w1 := by rw [← hw1]; exact (HI.out.drewN _).step hrb (p + 1)
         have hL := Tryz.Builder_Len (w.heap.size + 1) (w.heap.size + 1) (Lib.byteCells acc) _ hI1.bu
         rw [Lib.byteCells_length] at hL
         clear hw1
         refine Calls.mono hL ?_
         rintro r w2 ⟨rfl, rfl⟩
         go_wp2_with fail
         exact ⟨rfl, QuoPost.bad HP2.out rfl hI1.on⟩
       · have HP2 : Hid (q = .ok 3 acc (p - i + 1)) := by show _ = _; rw [← HP.out, if_neg h60]
         clear HP
         go_wp2_with fail
         go_quiet (fail)
         go_wp2_with fail
         go_quiet (fail)
         go_wp2_with fail
         generalize hw1 : (wr.drewN _).setCell ⟨rb, 1, none⟩ (.int .i64 ((p : Int) + 1)) = w1
         have hI1 : QInv s rb w acc (p + 1) w1 := by rw [← hw1]; exact (HI.out.drewN _).step hrb (p + 1)
         have hL := Tryz.Builder_Len (w.heap.size + 1) (w.heap.size + 1) (Lib.byteCells acc) _ hI1.bu
         have HST := Lib.hid (Tryz.Builder_String_any (w.heap.size + 1) (w.heap.size + 1) acc _ hI1.bu hI1.size)
         rw [Lib.byteCells_length] at hL
         have HI1 := Lib.hid hI1
         clear hw1 hI1 c0 c1 y1
         refine Calls.mono hL ?_
         rintro r w2 ⟨rfl, rfl⟩
         go_wp2_with fail
         refine Calls.mono HST.out ?_
         rintro r w3 ⟨rfl, hb3⟩
         have HT3 := Lib.hid (HI1.out.tk.below hb3 (by omega))
         have hk3 := HT3.out.cell
         have hz3 := HT3.out.frozen
         have hlt3 := HT3.out.lt
         go_wp2_with fail
         have hne2 : rb ≠ w.heap.size := by omega
         have hb4 : Blk w3 rb 172 (rdS s (p + 1)) := HI1.out.rd.below hb3 (by omega)
         have ho4 : Only w.heap.size rb w w3 := HI1.out.on.trans (Only.of_below hb3 (by omega))
         refine bodyPost_ret (v := .agg #[.int .i64 3, .string ⟨acc.toArray⟩, .int .i64 i]) (by simp [results, Tryz.results155, go_sem, hk3]) rfl ?_
         refine QuoPost.ok HP2.out rfl ?_ (by (repeat (first | assumption | exact Only.refl _ _ _ | apply Only.drew | apply Only.drewN | (refine Only.alloc ?_ (by first | exact Nat.le_refl _ | omega | (simp; done) | (simp; omega)) _) | (refine Only.setCell ?_ (by first | exact .inl rfl | exact .inr (Nat.le_refl _) | exact .inr (by first | omega | (simp; omega))) _))))
         rw [show i + (p - i + 1) = p + 1 from by omega]
         exact ((hb4.far hne2 _).far hne2 _).far hne2 _
     · have t34 : ((s[p].toNat : Int) == 34) = false := bne_lit h34
       rw [if_neg h34] at HP
       clear h34
       by_cases h92 : s[p] = 92
       · have t92 : ((s[p].toNat : Int) == 92) = true := beq_lit h92
         rw [if_pos h92] at HP
         clear h92
         by_cases hlt1 : p + 1 < s.size
         · rw [toList_drop s (p + 1) hlt1] at HP
           have hd1 : decide ((s.size : Int) ≤ (p : Int) + 1) = false := by simp; omega
           have hix : ∀ W, (Instr.index 9 (.string s) (.int .i64 ((p : Int) + 1))).run Tryz.prog W = .ok (.int .u8 (s[p + 1].toNat : Int)) W := run_index_str s (p + 1) hlt1
           by_cases hq2 : s[p + 1] = 34 ∨ s[p + 1] = 92
           · have HP2 : Hid (quoP (s.toList.drop (p + 2)) (acc ++ [s[p + 1]]) (p + 2 - i) = q) := by
               show _ = _; rw [← HP.out]; simp only; rw [if_pos hq2, show p + 2 - i = p - i + 2 from by omega]
             clear HP
             have hlo : ¬ (s[p + 1].toNat : Int) < 32 := by rcases hq2 with h | h <;> rw [h] <;> decide
             have hhi : ¬ 126 < (s[p + 1].toNat : Int) := by rcases hq2 with h | h <;> rw [h] <;> decide
             go_wp2_with fail
             go_quiet (fail)
             go_wp2_with fail
             go_quiet (fail)
             go_wp2_with fail
             generalize hw1 : (wr.drewN _).setCell ⟨rb, 1, none⟩ (.int .i64 ((p : Int) + 1)) = w1
             have hI1 : QInv s rb w acc (p + 1) w1 := by rw [← hw1]; exact (HI.out.drewN _).step hrb (p + 1)
             have HI1 := Lib.hid hI1
             clear hw1 hI1 c0 c1 y1
             have c0 : w1.cell? ⟨rb, 0, none⟩ = some (.string s) := HI1.out.rd.cell 0
             have c1 : w1.cell? ⟨rb, 1, none⟩ = some (.int .i64 ((p : Int) + 1)) := HI1.out.rd.cell 1
             have y1 : w1.frozen? ⟨rb, 1, none⟩ = false := HI1.out.rd.frozen 1
             have hlt2 := HI1.out.rd.lt
             rcases hq2 with hq2 | hq2
             · have e34 : ((s[p + 1].toNat : Int) != 34) = false := by rw [hq2]; rfl
               clear hq2
               go_quiet (fail)
               go_wp2_with fail
               go_quiet (fail)
               go_wp2_with fail
               generalize hw2 : w1.drewN _ = w2
               have hI2 : QInv s rb w acc (p + 1) w2 := by rw [← hw2]; exact HI1.out.drewN _
               have HI2 := Lib.hid hI2
               clear hw2 hI2 c0 c1 y1
               refine Calls.mono (bld_WriteByte (w.heap.size + 1) (w.heap.size + 1) (Lib.byteCells acc) (s[p + 1].toNat : Int) _ HI2.out.bu (by rw [Lib.byteCells_length]; omega) HI2.out.size) ?_
               rintro r w3 ⟨rfl, hbd2, hb2⟩
               have HI3 := Lib.hid (HI2.out.wrote hrb hbd2 hb2)
               have c0 : w3.cell? ⟨rb, 0, none⟩ = some (.string s) := HI3.out.rd.cell 0
               have c1 : w3.cell? ⟨rb, 1, none⟩ = some (.int .i64 ((p + 1 : Nat) : Int)) := HI3.out.rd.cell 1
               have y1 : w3.frozen? ⟨rb, 1, none⟩ = false := HI3.out.rd.frozen 1
               have hlt3 := HI3.out.rd.lt
               clear hbd2 hb2 HI2 hix
               go_wp2_with fail
               go_roundg (s.size + 1 - (p + 2))
               case measure => omega
               case rel => exact ⟨p + 2, acc ++ [s[p + 1]], by omega, by omega, by rw [List.length_append, List.length_singleton]; omega, by omega, HP2, HI3.out.step hrb (p + 2)⟩
             · have e34 : ((s[p + 1].toNat : Int) != 34) = true := by rw [hq2]; rfl
               have e92 : ((s[p + 1].toNat : Int) != 92) = false := by rw [hq2]; rfl
               clear hq2
               go_quiet (fail)
               go_wp2_with fail
               go_quiet (fail)
               go_wp2_with fail
               generalize hw2 : w1.drewN _ = w2
               have hI2 : QInv s rb w acc (p + 1) w2 := by rw [← hw2]; exact HI1.out.drewN _
               have HI2 := Lib.hid hI2
               clear hw2 hI2 c0 c1 y1
               refine Calls.mono (bld_WriteByte (w.heap.size + 1) (w.heap.size + 1) (Lib.byteCells acc) (s[p + 1].toNat : Int) _ HI2.out.bu (by rw [Lib.byteCells_length]; omega) HI2.out.size) ?_
               rintro r w3 ⟨rfl, hbd2, hb2⟩
               have HI3 := Lib.hid (HI2.out.wrote hrb hbd2 hb2)
               have c0 : w3.cell? ⟨rb, 0, none⟩ = some (.string s) := HI3.out.rd.cell 0
               have c1 : w3.cell? ⟨rb, 1, none⟩ = some (.int .i64 ((p + 1 : Nat) : Int)) := HI3.out.rd.cell 1
               have y1 : w3.frozen? ⟨rb, 1, none⟩ = false := HI3.out.rd.frozen 1
               have hlt3 := HI3.out.rd.lt
               clear hbd2 hb2 HI2 hix
               go_wp2_with fail
               go_roundg (s.size + 1 - (p + 2))
               case measure => omega
               case rel => exact ⟨p + 2, acc ++ [s[p + 1]], by omega, by omega, by rw [List.length_append, List.length_singleton]; omega, by omega, HP2, HI3.out.step hrb (p + 2)⟩
           · have HP2 : Hid (q = .bad 1) := by show _ = _; rw [← HP.out]; simp only; rw [if_neg hq2]
             have e34 : ((s[p + 1].toNat : Int) != 34) = true := bne_lit2 (d := 34) (fun h => hq2 (.inl h))
             have e92 : ((s[p + 1].toNat : Int) != 92) = true := bne_lit2 (d := 92) (fun h => hq2 (.inr h))
             clear HP hq2
             go_wp2_with fail
             go_quiet (fail)
             go_wp2_with fail
             go_quiet (fail)
             go_wp2_with fail
             generalize hw1 : (wr.drewN _).setCell ⟨rb, 1, none⟩ (.int .i64 ((p : Int) + 1)) = w1
             have hI1 : QInv s rb w acc (p + 1) w1 := by rw [← hw1]; exact (HI.out.drewN _).step hrb (p + 1)
             have HI1 := Lib.hid hI1
             clear hw1 hI1 c0 c1 y1
             have c0 : w1.cell? ⟨rb, 0, none⟩ = some (.string s) := HI1.out.rd.cell 0
             have c1 : w1.cell? ⟨rb, 1, none⟩ = some (.int .i64 ((p : Int) + 1)) := HI1.out.rd.cell 1
             go_quiet (fail)
             go_wp2_with fail
             exact ⟨rfl, QuoPost.bad HP2.out rfl (by have := HI1.out.on; (repeat (first | assumption | exact Only.refl _ _ _ | apply Only.drew | apply Only.drewN | (refine Only.alloc ?_ (by first | exact Nat.le_refl _ | omega | (simp; done) | (simp; omega)) _) | (refine Only.setCell ?_ (by first | exact .inl rfl | exact .inr (Nat.le_refl _) | exact .inr (by first | omega | (simp; omega))) _))))⟩
         · have HP2 : Hid (q = .bad 1) := by show _ = _; rw [← HP.out, drop_noneW s (p + 1) (by omega)]
           have hd1 : decide ((s.size : Int) ≤ (p : Int) + 1) = true := by simp; omega
           clear HP
           go_wp2_with fail
           go_quiet (fail)
           go_wp2_with fail
           go_quiet (fail)
           go_wp2_with fail
           generalize hw1 : (wr.drewN _).setCell ⟨rb, 1, none⟩ (.int .i64 ((p : Int) + 1)) = w1
           have hI1 : QInv s rb w acc (p + 1) w1 := by rw [← hw1]; exact (HI.out.drewN _).step hrb (p + 1)
           have HI1 := Lib.hid hI1
           clear hw1 hI1 c0 c1 y1
           have c0 : w1.cell? ⟨rb, 0, none⟩ = some (.string s) := HI1.out.rd.cell 0
           have c1 : w1.cell? ⟨rb, 1, none⟩ = some (.int .i64 ((p : Int) + 1)) := HI1.out.rd.cell 1
           go_quiet (fail)
           go_wp2_with fail
           exact ⟨rfl, QuoPost.bad HP2.out rfl (by have := HI1.out.on; (repeat (first | assumption | exact Only.refl _ _ _ | apply Only.drew | apply Only.drewN | (refine Only.alloc ?_ (by first | exact Nat.le_refl _ | omega | (simp; done) | (simp; omega)) _) | (refine Only.setCell ?_ (by first | exact .inl rfl | exact .inr (Nat.le_refl _) | exact .inr (by first | omega | (simp; omega))) _))))⟩
       · have t92 : ((s[p].toNat : Int) == 92) = false := bne_lit h92
         rw [if_neg h92] at HP
         clear h92
         by_cases hlo : (s[p].toNat : Int) < 32
         · have HP2 : Hid (q = .bad 1) := by show _ = _; rw [← HP.out, if_neg (by simp [plainB]; omega)]
           clear HP
           go_wp2_with fail
           go_quiet (fail)
           go_wp2_with fail
           go_quiet (fail)
           go_wp2_with fail
           exact ⟨rfl, QuoPost.bad HP2.out rfl (by have := HI.out.on; (repeat (first | assumption | exact Only.refl _ _ _ | apply Only.drew | apply Only.drewN | (refine Only.alloc ?_ (by first | exact Nat.le_refl _ | omega | (simp; done) | (simp; omega)) _) | (refine Only.setCell ?_ (by first | exact .inl rfl | exact .inr (Nat.le_refl _) | exact .inr (by first | omega | (simp; omega))) _))))⟩
         · by_cases hhi : 126 < (s[p].toNat : Int)
           · have HP2 : Hid (q = .bad 1) := by show _ = _; rw [← HP.out, if_neg (by simp [plainB]; omega)]
             clear HP
             go_wp2_with fail
             go_quiet (fail)
             go_wp2_with fail
             go_quiet (fail)
             go_wp2_with fail
             exact ⟨rfl, QuoPost.bad HP2.out rfl (by have := HI.out.on; (repeat (first | assumption | exact Only.refl _ _ _ | apply Only.drew | apply Only.drewN | (refine Only.alloc ?_ (by first | exact Nat.le_refl _ | omega | (simp; done) | (simp; omega)) _) | (refine Only.setCell ?_ (by first | exact .inl rfl | exact .inr (Nat.le_refl _) | exact .inr (by first | omega | (simp; omega))) _))))⟩
           · have HP2 : Hid (quoP (s.toList.drop (p + 1)) (acc ++ [s[p]]) (p + 1 - i) = q) := by
               show _ = _; rw [← HP.out, if_pos (by simp [plainB]; omega), show p + 1 - i = p - i + 1 from by omega]
             clear HP
             go_wp2_with fail
             go_quiet (fail)
             go_wp2_with fail
             go_quiet (fail)
             go_wp2_with fail
             generalize hw1 : wr.drewN _ = w1
             have hI1 : QInv s rb w acc p w1 := by rw [← hw1]; exact HI.out.drewN _
             have HI1 := Lib.hid hI1
             clear hw1 hI1 c0 c1 y1
             refine Calls.mono (bld_WriteByte (w.heap.size + 1) (w.heap.size + 1) (Lib.byteCells acc) (s[p].toNat : Int) _ HI1.out.bu (by rw [Lib.byteCells_length]; omega) HI1.out.size) ?_
             rintro r w2 ⟨rfl, hbd2, hb2⟩
             have HI2 := Lib.hid (HI1.out.wrote hrb hbd2 hb2)
             have c0 : w2.cell? ⟨rb, 0, none⟩ = some (.string s) := HI2.out.rd.cell 0
             have c1 : w2.cell? ⟨rb, 1, none⟩ = some (.int .i64 p) := HI2.out.rd.cell 1
             have y1 : w2.frozen? ⟨rb, 1, none⟩ = false := HI2.out.rd.frozen 1
             have hlt2 := HI2.out.rd.lt
             clear hbd2 hb2 HI1
             go_wp2_with fail
             go_roundg (s.size + 1 - (p + 1))
             case measure => omega
             case rel => exact ⟨p + 1, acc ++ [s[p]], by omega, by omega, by rw [List.length_append, List.length_singleton]; omega, by omega, HP2, HI2.out.step hrb (p + 1)⟩
   · have HP2 : Hid (q = .bad 1) := by show _ = _; rw [← HP.out, drop_noneW s p (by omega)]; rfl
     have hd : decide ((s.size : Int) ≤ (p : Int)) = true := by simp; omega
     clear HP
     go_wp2_with fail
     go_quiet (fail)
     go_wp2_with fail
     exact ⟨rfl, QuoPost.bad HP2.out rfl (by have := HI.out.on; (repeat (first | assumption | exact Only.refl _ _ _ | apply Only.drew | apply Only.drewN | (refine Only.alloc ?_ (by first | exact Nat.le_refl _ | omega | (simp; done) | (simp; omega)) _) | (refine Only.setCell ?_ (by first | exact .inl rfl | exact .inr (Nat.le_refl _) | exact .inr (by first | omega | (simp; omega))) _))))⟩
end Go.Proofs.YtbggbcnfkcadjaaGreatDoor
namespace Go.Proofs.YtbggbcnfkcadjaaGreatDoor
open Go.RowKit
theorem runL_span (p : Int → Bool) (s : ByteArray) (i : Nat) : (s.extract i (runL p s i)).toList = (s.toList.drop i).takeWhile fun c => p (c.toNat : Int) := by
 have h := List.prefix_iff_eq_take.1 (List.takeWhile_prefix (fun c : UInt8 => p (c.toNat : Int)) (l := s.toList.drop i))
 rw [ByteArray.toList_eq, Lib.extract_data, ← ByteArray.toList_eq]
 unfold runL
 rw [show ∀ n, i + n - i = n from fun n => by omega]
 exact h.symm
theorem bs_eq {x : ByteArray} {l : List UInt8} (h : x.toList = l) : x = bsOf l := by
 subst h
 rw [ByteArray.toList_eq]; rfl
theorem span_bs (p : Int → Bool) (s : ByteArray) (i : Nat) : s.extract i (runL p s i) = bsOf ((s.toList.drop i).takeWhile fun c => p (c.toNat : Int)) := bs_eq (runL_span p s i)
theorem wordP_num {c : UInt8} {r : List UInt8} (h : digitI (c.toNat : Int) = true) : wordP (c :: r) = numP (c :: r) := by
 rw [wordP, if_pos (show digB c = true from h)]
theorem wordP_name {c : UInt8} {r : List UInt8} (h1 : digitI (c.toNat : Int) = false) (h2 : letterI (c.toNat : Int) = true) : wordP (c :: r) = namedP 1 (c :: r) 0 := by
 rw [wordP, if_neg (by unfold digB; rw [h1]; decide), if_pos (show letB c = true from h2)]
theorem wordP_quo {c : UInt8} {r : List UInt8} (h1 : digitI (c.toNat : Int) = false) (h2 : letterI (c.toNat : Int) = false) (h3 : c = 34) : wordP (c :: r) = quoP r [] 1 := by
 rw [wordP, if_neg (by unfold digB; rw [h1]; decide), if_neg (by unfold letB; rw [h2]; decide), if_pos h3]
theorem wordP_slot {c : UInt8} {r : List UInt8} (h1 : digitI (c.toNat : Int) = false) (h2 : letterI (c.toNat : Int) = false) (h3 : ¬ c = 34) (h4 : c = 63) : wordP (c :: r) = namedP 4 r 1 := by
 rw [wordP, if_neg (by unfold digB; rw [h1]; decide), if_neg (by unfold letB; rw [h2]; decide), if_neg h3, if_pos h4]
theorem wordP_sign {c : UInt8} {r : List UInt8} (h1 : digitI (c.toNat : Int) = false) (h2 : letterI (c.toNat : Int) = false) (h3 : ¬ c = 34) (h4 : ¬ c = 63) : wordP (c :: r) = if signP (c :: r) = [] then .bad 1 else .ok 5 (signP (c :: r)) (signP (c :: r)).length := by
 rw [wordP, if_neg (by unfold digB; rw [h1]; decide), if_neg (by unfold letB; rw [h2]; decide), if_neg h3, if_neg h4]
structure WInv (s : ByteArray) (rb : Nat) (w : World) (p : Nat) (W : World) : Prop where
 rd : Blk W rb 172 (rdS s p)
 tk : Blk W w.heap.size 42 #[.int .i64 0, .string ⟨#[]⟩, .int .i64 0]
 on : Only w.heap.size rb w W
theorem WInv.drewN {s : ByteArray} {rb : Nat} {w : World} {p : Nat} {W : World} (h : WInv s rb w p W) (n : Nat) : WInv s rb w p (W.drewN n) := ⟨h.rd, h.tk, h.on.drewN n⟩
theorem WInv.step {s : ByteArray} {rb : Nat} {w : World} {p : Nat} {W : World} (h : WInv s rb w p W) (hrb : rb < w.heap.size) (j : Nat) : WInv s rb w j (W.setCell ⟨rb, 1, none⟩ (.int .i64 (j : Int))) :=
 ⟨rdS_step h.rd, h.tk.far (show w.heap.size ≠ rb by omega) _, h.on.setCell (.inl rfl) _⟩
theorem WInv.only {s : ByteArray} {rb : Nat} {w : World} {p q : Nat} {W W' : World} (h : WInv s rb w p W) (hrb : rb < w.heap.size) (hr : Blk W' rb 172 (rdS s q)) (ho : Only W.heap.size rb W W') : WInv s rb w q W' :=
 ⟨hr, h.tk.only ho h.tk.lt (by omega), h.on.trans (ho.mono (Nat.le_of_lt h.tk.lt))⟩
theorem WInv.below {s : ByteArray} {rb : Nat} {w : World} {p : Nat} {W W' : World} (h : WInv s rb w p W) (hb : Below W.heap.size W W') : WInv s rb w p W' :=
 ⟨h.rd.below hb h.rd.lt, h.tk.below hb h.tk.lt, h.on.trans (Only.of_below hb (Nat.le_of_lt h.tk.lt))⟩
theorem WInv.new {s : ByteArray} {rb : Nat} {w : World} {p : Nat} (hb : Blk w rb 172 (rdS s p)) : WInv s rb w p (w.alloc (.cells #[.int .i64 0, .string ⟨#[]⟩, .int .i64 0] 42)) :=
 ⟨hb.alloc _, Blk.new w _ _, (Only.refl _ _ _).alloc (Nat.le_refl _) _⟩
theorem WInv.done {s : ByteArray} {rb : Nat} {w : World} {p : Nat} {W : World} (h : WInv s rb w p W) (hrb : rb < w.heap.size) (a b c : Value) :
   Blk (((W.setCell ⟨w.heap.size, 0, none⟩ a).setCell ⟨w.heap.size, 1, none⟩ b).setCell ⟨w.heap.size, 2, none⟩ c) rb 172 (rdS s p) ∧ Only w.heap.size rb w (((W.setCell ⟨w.heap.size, 0, none⟩ a).setCell ⟨w.heap.size, 1, none⟩ b).setCell ⟨w.heap.size, 2, none⟩ c) :=
 have hne : rb ≠ w.heap.size := by omega
 ⟨((h.rd.far hne _).far hne _).far hne _, by have := h.on; (repeat (first | assumption | exact Only.refl _ _ _ | apply Only.drew | apply Only.drewN | (refine Only.alloc ?_ (by first | exact Nat.le_refl _ | omega | (simp; done) | (simp; omega)) _) | (refine Only.setCell ?_ (by first | exact .inl rfl | exact .inr (Nat.le_refl _) | exact .inr (by first | omega | (simp; omega))) _)))⟩
set_option maxRecDepth 100000 in
set_option maxHeartbeats 3200000 in
theorem word_word_num (s : ByteArray) (p rb : Nat) (w : World) (hs : s.size ≤ 140737488351232) (hi : p < s.size) (hb : Blk w rb 172 (rdS s p)) (hd : digitI (s[p].toNat : Int) = true) :
   Calls Tryz.prog 130 #[.pointer (some ⟨rb, 0, none⟩)] w (QuoPost s p rb w (wordP (s.toList.drop p))) := by
 have hrb := hb.lt
 obtain ⟨q, hq⟩ : ∃ q, wordP (s.toList.drop p) = q := ⟨_, rfl⟩
 rw [hq]
 rw [toList_drop s p hi, wordP_num hd, ← toList_drop s p hi] at hq
 have hsp := runL_span digitI s p
 have hW0 := WInv.new hb
 have HWH := Lib.hid (fun W (hW : Blk W rb 172 (rdS s p)) => word_while 151 digitI pb_digit s p rb W hs (Nat.le_of_lt hi) hW)
 have hrl : runL digitI s p = p + ((s.toList.drop p).takeWhile digB).length := rfl
 have hrle := runL_le digitI s (Nat.le_of_lt hi)
 have hxs : (s.extract p (runL digitI s p)).size ≤ 140737488351232 := by rw [ByteArray.size_extract]; omega
 generalize s.extract p (runL digitI s p) = x at hsp HWH hxs
 generalize runL digitI s p = j at hrl hrle HWH
 have hx : x.data.toList = (s.toList.drop p).takeWhile digB := by rw [← ByteArray.toList_eq]; exact hsp
 unfold numP at hq
 have HTL := Lib.hid (fun W => Tryz.strings_TrimLeft_one x 48 (by decide) W)
 rw [hx] at HTL
 have htl : ∀ l, Lib.trimLeftB l 48 = l.dropWhile (· == 48) := fun _ => rfl
 rw [htl] at HTL
 generalize hL : ((s.toList.drop p).takeWhile digB).dropWhile (· == 48) = L at hq HTL
 have HQ := Lib.hid hq
 have HJ := Lib.hid hrl
 have hLl : L.length ≤ 140737488351232 := by
   rw [← hL]
   have h1 := (List.dropWhile_sublist (fun x : UInt8 => x == 48) (l := (s.toList.drop p).takeWhile digB)).length_le
   omega
 obtain ⟨bl, hbl⟩ : ∃ bl : ByteArray, bl = bsOf L := ⟨_, rfl⟩
 rw [show (⟨L.toArray⟩ : ByteArray) = bl from hbl.symm] at HTL
 have hbs : bl.size = L.length := by rw [hbl]; rfl
 have hbt : bl.toList = L := by rw [hbl, ByteArray.toList_eq]; rfl
 have HBL := Lib.hid hbl
 have c0 : (w.alloc (.cells #[.int .i64 0, .string ⟨#[]⟩, .int .i64 0] 42)).cell? ⟨rb, 0, none⟩ = some (.string s) := hW0.rd.cell 0
 have c1 : (w.alloc (.cells #[.int .i64 0, .string ⟨#[]⟩, .int .i64 0] 42)).cell? ⟨rb, 1, none⟩ = some (.int .i64 p) := hW0.rd.cell 1
 have HW0 := Lib.hid hW0
 clear hq hrl hL hsp hx htl hW0 hb hbl
 by_cases h19 : 19 < L.length
 · have HQ2 : Hid (q = .bad 4) := by show _ = _; rw [← HQ.out, if_pos h19]
   have h19' : 19 < (bl.size : Int) := by omega
   clear HQ h19 hbs hbt
   go_enter Tryz.func130, Tryz.ntmps130
   go_wp2_with fail
   go_quiet (fail)
   go_wp2_with (go_at_call 151; refine (word_digit _ _).mono ?_; rintro e w' ⟨rfl, rfl⟩)
   generalize hw1 : (w.alloc _).drewN _ = w1
   have hI1 : WInv s rb w p w1 := by rw [← hw1]; exact HW0.out.drewN _
   have HI1 := Lib.hid hI1
   clear hw1 hI1 c0 c1
   refine Calls.mono (HWH.out _ HI1.out.rd) ?_
   rintro r w2 ⟨rfl, hb2, ho2⟩
   have HI2 := Lib.hid (HI1.out.only hrb hb2 ho2)
   clear hb2 ho2
   go_wp2_with fail
   refine Calls.mono (HTL.out _) ?_
   rintro r w3 ⟨rfl, rfl⟩
   go_wp2_with fail
   exact ⟨rfl, QuoPost.bad HQ2.out rfl HI2.out.on⟩
 · have HQ2 : Hid (q = .ok 2 (if L = [] then [48] else L) ((s.toList.drop p).takeWhile digB).length) := by show _ = _; rw [← HQ.out, if_neg h19]
   have h19' : ¬ 19 < (bl.size : Int) := by omega
   clear HQ h19
   by_cases he : L = []
   · have hem : bl.toList.isEmpty = true := by rw [hbt, he]; rfl
     rw [if_pos he] at HQ2
     clear hbs hbt he
     go_enter Tryz.func130, Tryz.ntmps130
     go_wp2_with fail
     go_quiet (fail)
     go_wp2_with (go_at_call 151; refine (word_digit _ _).mono ?_; rintro e w' ⟨rfl, rfl⟩)
     generalize hw1 : (w.alloc _).drewN _ = w1
     have hI1 : WInv s rb w p w1 := by rw [← hw1]; exact HW0.out.drewN _
     have HI1 := Lib.hid hI1
     clear hw1 hI1 c0 c1
     refine Calls.mono (HWH.out _ HI1.out.rd) ?_
     rintro r w2 ⟨rfl, hb2, ho2⟩
     have HI2 := Lib.hid (HI1.out.only hrb hb2 ho2)
     clear hb2 ho2
     go_wp2_with fail
     refine Calls.mono (HTL.out _) ?_
     rintro r w3 ⟨rfl, rfl⟩
     have k0 := HI2.out.tk.cell
     have f0 := HI2.out.tk.frozen
     have hlt0 := HI2.out.tk.lt
     go_wp2_with fail
     refine bodyPost_ret (v := .agg #[.int .i64 2, .string ⟨#[48]⟩, .int .i64 p]) (by simp [results, Tryz.results130, go_sem, k0]) rfl ?_
     have hdn := HI2.out.done hrb (.int .i64 2) (.string ⟨#[48]⟩) (.int .i64 p)
     exact QuoPost.ok HQ2.out rfl (by rw [← HJ.out]; exact hdn.1) hdn.2
   · have hem : bl.toList.isEmpty = false := by rw [hbt]; cases L with | nil => exact absurd rfl he | cons => rfl
     rw [if_neg he] at HQ2
     clear hbs hbt he
     go_enter Tryz.func130, Tryz.ntmps130
     go_wp2_with fail
     go_quiet (fail)
     go_wp2_with (go_at_call 151; refine (word_digit _ _).mono ?_; rintro e w' ⟨rfl, rfl⟩)
     generalize hw1 : (w.alloc _).drewN _ = w1
     have hI1 : WInv s rb w p w1 := by rw [← hw1]; exact HW0.out.drewN _
     have HI1 := Lib.hid hI1
     clear hw1 hI1 c0 c1
     refine Calls.mono (HWH.out _ HI1.out.rd) ?_
     rintro r w2 ⟨rfl, hb2, ho2⟩
     have HI2 := Lib.hid (HI1.out.only hrb hb2 ho2)
     clear hb2 ho2
     go_wp2_with fail
     refine Calls.mono (HTL.out _) ?_
     rintro r w3 ⟨rfl, rfl⟩
     have k0 := HI2.out.tk.cell
     have f0 := HI2.out.tk.frozen
     have hlt0 := HI2.out.tk.lt
     go_wp2_with fail
     refine bodyPost_ret (v := .agg #[.int .i64 2, .string bl, .int .i64 p]) (by simp [results, Tryz.results130, go_sem, k0]) rfl ?_
     have hdn := HI2.out.done hrb (.int .i64 2) (.string bl) (.int .i64 p)
     exact QuoPost.ok HQ2.out (by rw [HBL.out]) (by rw [← HJ.out]; exact hdn.1) hdn.2
set_option maxRecDepth 100000 in
set_option maxHeartbeats 3200000 in
theorem word_word_name (s : ByteArray) (p rb : Nat) (w : World) (hs : s.size ≤ 140737488351232) (hi : p < s.size) (hb : Blk w rb 172 (rdS s p)) (hd : digitI (s[p].toNat : Int) = false) (hl : letterI (s[p].toNat : Int) = true) :
   Calls Tryz.prog 130 #[.pointer (some ⟨rb, 0, none⟩)] w (QuoPost s p rb w (wordP (s.toList.drop p))) := by
 have hrb := hb.lt
 have hni : nameI (s[p].toNat : Int) = true := by unfold nameI; rw [hl]; rfl
 obtain ⟨q, hq⟩ : ∃ q, wordP (s.toList.drop p) = q := ⟨_, rfl⟩
 rw [hq]
 rw [toList_drop s p hi, wordP_name hd hl, ← toList_drop s p hi] at hq
 have hrl : runL nameI s p = p + ((s.toList.drop p).takeWhile nameB).length := rfl
 have hsp : (s.extract p (runL nameI s p)).toList = (s.toList.drop p).takeWhile nameB := runL_span nameI s p
 have hbq : s.extract p (runL nameI s p) = bsOf ((s.toList.drop p).takeWhile nameB) := span_bs nameI s p
 unfold namedP at hq
 have hW0 := WInv.new hb
 have c0 : (w.alloc (.cells #[.int .i64 0, .string ⟨#[]⟩, .int .i64 0] 42)).cell? ⟨rb, 0, none⟩ = some (.string s) := hW0.rd.cell 0
 have c1 : (w.alloc (.cells #[.int .i64 0, .string ⟨#[]⟩, .int .i64 0] 42)).cell? ⟨rb, 1, none⟩ = some (.int .i64 p) := hW0.rd.cell 1
 have HW0 := Lib.hid hW0
 have hne := nameErr_cases ((s.toList.drop p).takeWhile nameB)
 by_cases h0 : nameErr ((s.toList.drop p).takeWhile nameB) = 0
 · rw [if_pos h0] at hq
   have HQ := Lib.hid hq
   have HN := Lib.hid (fun W (hW : Blk W rb 172 (rdS s p)) => word_named_ok s 1 p p rb W hs (Nat.le_of_lt hi) hW (by rw [hsp]; exact h0))
   rw [hbq] at HN
   rw [hrl] at HN
   clear hq hsp hbq hrl h0 hne hW0 hb
   generalize (s.toList.drop p).takeWhile nameB = L at HQ HN
   go_enter Tryz.func130, Tryz.ntmps130
   go_wp2_with fail
   go_quiet (fail)
   go_wp2_with (first | (go_at_call 151; refine (word_digit _ _).mono ?_; rintro e w' ⟨rfl, rfl⟩) | (go_at_call 153; refine (word_inName _ _).mono ?_; rintro e w' ⟨rfl, rfl⟩))
   generalize hw1 : (w.alloc _).drewN _ = w1
   have hI1 : WInv s rb w p w1 := by rw [← hw1]; exact HW0.out.drewN _
   have HI1 := Lib.hid hI1
   clear hw1 hI1 c0 c1
   refine Calls.mono (HN.out _ HI1.out.rd) ?_
   rintro r w2 ⟨rfl, hb2, ho2⟩
   have HI2 := Lib.hid (HI1.out.only hrb hb2 ho2)
   clear hb2 ho2
   have k0 := HI2.out.tk.cell
   have f0 := HI2.out.tk.frozen
   have hlt0 := HI2.out.tk.lt
   go_wp2_with fail
   refine bodyPost_ret (v := .agg #[.int .i64 1, .string (bsOf L), .int .i64 p]) (by simp [results, Tryz.results130, go_sem, k0]) rfl ?_
   have hdn := HI2.out.done hrb (.int .i64 1) (.string (bsOf L)) (.int .i64 p)
   exact QuoPost.ok HQ.out.symm rfl (by exact hdn.1) hdn.2
 · rw [if_neg h0] at hq
   have HQ := Lib.hid hq
   have HN := Lib.hid (fun W (hW : Blk W rb 172 (rdS s p)) => word_named_bad s 1 _ p p rb W hs (Nat.le_of_lt hi) hW rfl (by rw [hsp]; exact hne.resolve_left h0))
   rw [hsp] at HN
   clear hq hsp hbq hrl h0 hne hW0 hb
   generalize nameErr ((s.toList.drop p).takeWhile nameB) = k at HQ HN
   go_enter Tryz.func130, Tryz.ntmps130
   go_wp2_with fail
   go_quiet (fail)
   go_wp2_with (first | (go_at_call 151; refine (word_digit _ _).mono ?_; rintro e w' ⟨rfl, rfl⟩) | (go_at_call 153; refine (word_inName _ _).mono ?_; rintro e w' ⟨rfl, rfl⟩))
   generalize hw1 : (w.alloc _).drewN _ = w1
   have hI1 : WInv s rb w p w1 := by rw [← hw1]; exact HW0.out.drewN _
   have HI1 := Lib.hid hI1
   clear hw1 hI1 c0 c1
   refine Calls.mono (HN.out _ HI1.out.rd) ?_
   rintro r w2 ⟨rfl, ho2⟩
   go_wp2_with fail
   exact ⟨rfl, QuoPost.bad HQ.out.symm rfl (HI1.out.on.trans (ho2.mono (Nat.le_of_lt HI1.out.tk.lt)))⟩
end Go.Proofs.YtbggbcnfkcadjaaGreatDoor
namespace Go.Proofs.YtbggbcnfkcadjaaGreatDoor
open Go.RowKit
set_option maxRecDepth 100000 in
set_option maxHeartbeats 3200000 in
theorem word_word_quo (s : ByteArray) (p rb : Nat) (w : World) (hs : s.size ≤ 140737488351232) (hi : p < s.size) (hb : Blk w rb 172 (rdS s p)) (hd : digitI (s[p].toNat : Int) = false) (hl : letterI (s[p].toNat : Int) = false) (h34 : s[p] = 34) :
   Calls Tryz.prog 130 #[.pointer (some ⟨rb, 0, none⟩)] w (QuoPost s p rb w (wordP (s.toList.drop p))) := by
 have hrb := hb.lt
 have hni : nameI (s[p].toNat : Int) = false := by unfold nameI; rw [hl, hd]; rfl
 have t34 : ((s[p].toNat : Int) == 34) = true := beq_lit h34
 have hq : wordP (s.toList.drop p) = quoP (s.toList.drop (p + 1)) [] 1 := by rw [toList_drop s p hi]; exact wordP_quo hd hl h34
 rw [hq]
 have HN := Lib.hid (fun W (hW : Blk W rb 172 (rdS s p)) => word_quoted s p rb W hs hi hW)
 have hW0 := WInv.new hb
 have c0 : (w.alloc (.cells #[.int .i64 0, .string ⟨#[]⟩, .int .i64 0] 42)).cell? ⟨rb, 0, none⟩ = some (.string s) := hW0.rd.cell 0
 have c1 : (w.alloc (.cells #[.int .i64 0, .string ⟨#[]⟩, .int .i64 0] 42)).cell? ⟨rb, 1, none⟩ = some (.int .i64 p) := hW0.rd.cell 1
 have HW0 := Lib.hid hW0
 clear hq hW0 hb h34
 cases hqq : quoP (s.toList.drop (p + 1)) [] 1 with
 | bad k =>
   rw [hqq] at HN
   clear hqq
   go_enter Tryz.func130, Tryz.ntmps130
   go_wp2_with fail
   go_quiet (fail)
   go_wp2_with (first | (go_at_call 151; refine (word_digit _ _).mono ?_; rintro e w' ⟨rfl, rfl⟩) | (go_at_call 153; refine (word_inName _ _).mono ?_; rintro e w' ⟨rfl, rfl⟩))
   generalize hw1 : (w.alloc _).drewN _ = w1
   have hI1 : WInv s rb w p w1 := by rw [← hw1]; exact HW0.out.drewN _
   have HI1 := Lib.hid hI1
   clear hw1 hI1 c0 c1
   refine Calls.mono (HN.out _ HI1.out.rd) ?_
   rintro r w2 ⟨rfl, ho2⟩
   go_wp2_with fail
   exact ⟨rfl, QuoPost.bad rfl rfl (HI1.out.on.trans (ho2.mono (Nat.le_of_lt HI1.out.tk.lt)))⟩
 | ok kind t n =>
   rw [hqq] at HN
   clear hqq
   go_enter Tryz.func130, Tryz.ntmps130
   go_wp2_with fail
   go_quiet (fail)
   go_wp2_with (first | (go_at_call 151; refine (word_digit _ _).mono ?_; rintro e w' ⟨rfl, rfl⟩) | (go_at_call 153; refine (word_inName _ _).mono ?_; rintro e w' ⟨rfl, rfl⟩))
   generalize hw1 : (w.alloc _).drewN _ = w1
   have hI1 : WInv s rb w p w1 := by rw [← hw1]; exact HW0.out.drewN _
   have HI1 := Lib.hid hI1
   clear hw1 hI1 c0 c1
   refine Calls.mono (HN.out _ HI1.out.rd) ?_
   rintro r w2 ⟨rfl, hb2, ho2⟩
   have HI2 := Lib.hid (HI1.out.only hrb hb2 ho2)
   clear hb2 ho2
   have k0 := HI2.out.tk.cell
   have f0 := HI2.out.tk.frozen
   have hlt0 := HI2.out.tk.lt
   go_wp2_with fail
   refine bodyPost_ret (v := .agg #[.int .i64 kind, .string (bsOf t), .int .i64 p]) (by simp [results, Tryz.results130, go_sem, k0]) rfl ?_
   have hdn := HI2.out.done hrb (.int .i64 kind) (.string (bsOf t)) (.int .i64 p)
   exact QuoPost.ok rfl rfl hdn.1 hdn.2
set_option maxRecDepth 100000 in
set_option maxHeartbeats 3200000 in
theorem word_word_slot (s : ByteArray) (p rb : Nat) (w : World) (hs : s.size ≤ 140737488351232) (hi : p < s.size) (hb : Blk w rb 172 (rdS s p)) (hd : digitI (s[p].toNat : Int) = false) (hl : letterI (s[p].toNat : Int) = false) (h34 : ¬ s[p] = 34) (h63 : s[p] = 63) :
   Calls Tryz.prog 130 #[.pointer (some ⟨rb, 0, none⟩)] w (QuoPost s p rb w (wordP (s.toList.drop p))) := by
 have hrb := hb.lt
 have hni : nameI (s[p].toNat : Int) = false := by unfold nameI; rw [hl, hd]; rfl
 have t34 : ((s[p].toNat : Int) == 34) = false := bne_lit h34
 have t63 : ((s[p].toNat : Int) == 63) = true := beq_lit h63
 have hq : wordP (s.toList.drop p) = namedP 4 (s.toList.drop (p + 1)) 1 := by rw [toList_drop s p hi]; exact wordP_slot hd hl h34 h63
 rw [hq]
 have hrl : runL nameI s (p + 1) = p + 1 + ((s.toList.drop (p + 1)).takeWhile nameB).length := rfl
 have hsp : (s.extract (p + 1) (runL nameI s (p + 1))).toList = (s.toList.drop (p + 1)).takeWhile nameB := runL_span nameI s (p + 1)
 have hbq : s.extract (p + 1) (runL nameI s (p + 1)) = bsOf ((s.toList.drop (p + 1)).takeWhile nameB) := span_bs nameI s (p + 1)
 have hW0 := WInv.new hb
 have c0 : (w.alloc (.cells #[.int .i64 0, .string ⟨#[]⟩, .int .i64 0] 42)).cell? ⟨rb, 0, none⟩ = some (.string s) := hW0.rd.cell 0
 have c1 : (w.alloc (.cells #[.int .i64 0, .string ⟨#[]⟩, .int .i64 0] 42)).cell? ⟨rb, 1, none⟩ = some (.int .i64 p) := hW0.rd.cell 1
 have z1 : (w.alloc (.cells #[.int .i64 0, .string ⟨#[]⟩, .int .i64 0] 42)).frozen? ⟨rb, 1, none⟩ = false := hW0.rd.frozen 1
 have HW0 := Lib.hid hW0
 have hne := nameErr_cases ((s.toList.drop (p + 1)).takeWhile nameB)
 unfold namedP
 by_cases h0 : nameErr ((s.toList.drop (p + 1)).takeWhile nameB) = 0
 · rw [if_pos h0]
   have HN := Lib.hid (fun W (hW : Blk W rb 172 (rdS s (p + 1))) => word_named_ok s 4 (p + 1) p rb W hs (by omega) hW (by rw [hsp]; exact h0))
   rw [hbq] at HN
   rw [hrl] at HN
   clear hq hsp hbq hrl h0 hne hW0 hb h34 h63
   generalize (s.toList.drop (p + 1)).takeWhile nameB = L at HN ⊢
   go_enter Tryz.func130, Tryz.ntmps130
   go_wp2_with fail
   go_quiet (fail)
   go_wp2_with (first | (go_at_call 151; refine (word_digit _ _).mono ?_; rintro e w' ⟨rfl, rfl⟩) | (go_at_call 153; refine (word_inName _ _).mono ?_; rintro e w' ⟨rfl, rfl⟩))
   generalize hw1 : ((w.alloc _).drewN _).setCell ⟨rb, 1, none⟩ (.int .i64 ((p : Int) + 1)) = w1
   have hI1 : WInv s rb w (p + 1) w1 := by rw [← hw1]; exact (HW0.out.drewN _).step hrb (p + 1)
   have HI1 := Lib.hid hI1
   clear hw1 hI1 c0 c1 z1
   refine Calls.mono (HN.out _ HI1.out.rd) ?_
   rintro r w2 ⟨rfl, hb2, ho2⟩
   have HI2 := Lib.hid (HI1.out.only hrb hb2 ho2)
   clear hb2 ho2
   have k0 := HI2.out.tk.cell
   have f0 := HI2.out.tk.frozen
   have hlt0 := HI2.out.tk.lt
   go_wp2_with fail
   refine bodyPost_ret (v := .agg #[.int .i64 4, .string (bsOf L), .int .i64 p]) (by simp [results, Tryz.results130, go_sem, k0]) rfl ?_
   have hdn := HI2.out.done hrb (.int .i64 4) (.string (bsOf L)) (.int .i64 p)
   exact QuoPost.ok rfl rfl (by rw [show p + (L.length + 1) = p + 1 + L.length from by omega]; exact hdn.1) hdn.2
 · rw [if_neg h0]
   have HN := Lib.hid (fun W (hW : Blk W rb 172 (rdS s (p + 1))) => word_named_bad s 4 _ (p + 1) p rb W hs (by omega) hW rfl (by rw [hsp]; exact hne.resolve_left h0))
   rw [hsp] at HN
   clear hq hsp hbq hrl h0 hne hW0 hb h34 h63
   generalize nameErr ((s.toList.drop (p + 1)).takeWhile nameB) = k at HN ⊢
   go_enter Tryz.func130, Tryz.ntmps130
   go_wp2_with fail
   go_quiet (fail)
   go_wp2_with (first | (go_at_call 151; refine (word_digit _ _).mono ?_; rintro e w' ⟨rfl, rfl⟩) | (go_at_call 153; refine (word_inName _ _).mono ?_; rintro e w' ⟨rfl, rfl⟩))
   generalize hw1 : ((w.alloc _).drewN _).setCell ⟨rb, 1, none⟩ (.int .i64 ((p : Int) + 1)) = w1
   have hI1 : WInv s rb w (p + 1) w1 := by rw [← hw1]; exact (HW0.out.drewN _).step hrb (p + 1)
   have HI1 := Lib.hid hI1
   clear hw1 hI1 c0 c1 z1
   refine Calls.mono (HN.out _ HI1.out.rd) ?_
   rintro r w2 ⟨rfl, ho2⟩
   go_wp2_with fail
   exact ⟨rfl, QuoPost.bad rfl rfl (HI1.out.on.trans (ho2.mono (Nat.le_of_lt HI1.out.tk.lt)))⟩
set_option maxRecDepth 100000 in
set_option maxHeartbeats 3200000 in
theorem word_word_sign (s : ByteArray) (p rb : Nat) (w : World) (hs : s.size ≤ 140737488351232) (hi : p < s.size) (hb : Blk w rb 172 (rdS s p)) (hd : digitI (s[p].toNat : Int) = false) (hl : letterI (s[p].toNat : Int) = false) (h34 : ¬ s[p] = 34) (h63 : ¬ s[p] = 63) :
   Calls Tryz.prog 130 #[.pointer (some ⟨rb, 0, none⟩)] w (QuoPost s p rb w (wordP (s.toList.drop p))) := by
 have hrb := hb.lt
 have hni : nameI (s[p].toNat : Int) = false := by unfold nameI; rw [hl, hd]; rfl
 have t34 : ((s[p].toNat : Int) == 34) = false := bne_lit h34
 have t63 : ((s[p].toNat : Int) == 63) = false := bne_lit h63
 have hq : wordP (s.toList.drop p) = if signP (s.toList.drop p) = [] then .bad 1 else .ok 5 (signP (s.toList.drop p)) (signP (s.toList.drop p)).length := by rw [toList_drop s p hi]; exact wordP_sign hd hl h34 h63
 rw [hq]
 have hex : (s.extract p s.size).toList = s.toList.drop p := by rw [ByteArray.toList_eq, Lib.extract_to_end, ← ByteArray.toList_eq]
 have hsl : (signP (s.toList.drop p)).length + p ≤ s.size := by
   have := signP_len (s.toList.drop p)
   rw [List.length_drop, toList_len] at this; omega
 have HSG := Lib.hid (fun W => word_sign (s.extract p s.size) W)
 rw [hex] at HSG
 have hW0 := WInv.new hb
 have c0 : (w.alloc (.cells #[.int .i64 0, .string ⟨#[]⟩, .int .i64 0] 42)).cell? ⟨rb, 0, none⟩ = some (.string s) := hW0.rd.cell 0
 have c1 : (w.alloc (.cells #[.int .i64 0, .string ⟨#[]⟩, .int .i64 0] 42)).cell? ⟨rb, 1, none⟩ = some (.int .i64 p) := hW0.rd.cell 1
 have HW0 := Lib.hid hW0
 clear hq hW0 hb h34 h63 hex
 generalize signP (s.toList.drop p) = L at HSG hsl ⊢
 obtain ⟨bl, hbl⟩ : ∃ bl : ByteArray, bl = bsOf L := ⟨_, rfl⟩
 rw [← hbl] at HSG
 have hbs : bl.size = L.length := by rw [hbl]; rfl
 have hbt : bl.toList = L := by rw [hbl, ByteArray.toList_eq]; rfl
 have HBL := Lib.hid hbl
 clear hbl
 have hslc : ∀ W : World, (Instr.slice 9 (.string s) (some (.int .i64 (p : Int))) none none).run Tryz.prog W = .ok (.string (s.extract p s.size)) W := fun W => by
   go_simp
   intro h; omega
 by_cases he : L = []
 · rw [if_pos he]
   go_enter Tryz.func130, Tryz.ntmps130
   go_wp2_with fail
   go_quiet (fail)
   go_wp2_with (first | (go_at_call 151; refine (word_digit _ _).mono ?_; rintro e w' ⟨rfl, rfl⟩) | (go_at_call 153; refine (word_inName _ _).mono ?_; rintro e w' ⟨rfl, rfl⟩))
   generalize hw1 : (w.alloc _).drewN _ = w1
   have hI1 : WInv s rb w p w1 := by rw [← hw1]; exact HW0.out.drewN _
   have HI1 := Lib.hid hI1
   clear hw1 hI1 c0 c1
   have c0 : w1.cell? ⟨rb, 0, none⟩ = some (.string s) := HI1.out.rd.cell 0
   have c1 : w1.cell? ⟨rb, 1, none⟩ = some (.int .i64 p) := HI1.out.rd.cell 1
   go_still_tail 9, (by kernel_rfl)
   change wpList _ _ _ _ _ w1.drew
   go_wp2_with fail
   refine Calls.mono (HSG.out _) ?_
   rintro r w2 ⟨rfl, hb2⟩
   have hI2 : WInv s rb w p w2 := HI1.out.below (show Below w1.heap.size w1 w2 from ((Below.refl _ _).drew).trans hb2)
   have hem : bl.toList.isEmpty = true := by rw [hbt, he]; rfl
   clear hbs hbt he
   go_wp2_with fail
   exact ⟨rfl, QuoPost.bad rfl rfl hI2.on⟩
 · rw [if_neg he]
   go_enter Tryz.func130, Tryz.ntmps130
   go_wp2_with fail
   go_quiet (fail)
   go_wp2_with (first | (go_at_call 151; refine (word_digit _ _).mono ?_; rintro e w' ⟨rfl, rfl⟩) | (go_at_call 153; refine (word_inName _ _).mono ?_; rintro e w' ⟨rfl, rfl⟩))
   generalize hw1 : (w.alloc _).drewN _ = w1
   have hI1 : WInv s rb w p w1 := by rw [← hw1]; exact HW0.out.drewN _
   have HI1 := Lib.hid hI1
   clear hw1 hI1 c0 c1
   have c0 : w1.cell? ⟨rb, 0, none⟩ = some (.string s) := HI1.out.rd.cell 0
   have c1 : w1.cell? ⟨rb, 1, none⟩ = some (.int .i64 p) := HI1.out.rd.cell 1
   go_still_tail 9, (by kernel_rfl)
   change wpList _ _ _ _ _ w1.drew
   go_wp2_with fail
   refine Calls.mono (HSG.out _) ?_
   rintro r w2 ⟨rfl, hb2⟩
   have hI2 : WInv s rb w p w2 := HI1.out.below (show Below w1.heap.size w1 w2 from ((Below.refl _ _).drew).trans hb2)
   have HI2 := Lib.hid hI2
   have hem : bl.toList.isEmpty = false := by rw [hbt]; cases L with | nil => exact absurd rfl he | cons => rfl
   have HL := Lib.hid hbs
   have hble : (bl.size : Int) + p ≤ 140737488351232 := by omega
   clear hbs hbt he hI2 c0 c1 hb2
   have c0 : w2.cell? ⟨rb, 0, none⟩ = some (.string s) := HI2.out.rd.cell 0
   have c1 : w2.cell? ⟨rb, 1, none⟩ = some (.int .i64 p) := HI2.out.rd.cell 1
   have z1 : w2.frozen? ⟨rb, 1, none⟩ = false := HI2.out.rd.frozen 1
   have hlt2 := HI2.out.rd.lt
   have k0 := HI2.out.tk.cell
   have f0 := HI2.out.tk.frozen
   have hlt0 := HI2.out.tk.lt
   have hn1 : ¬ w.heap.size = rb := by omega
   have hn2 : ¬ rb = w.heap.size := by omega
   go_wp2_with fail
   have hst : WInv s rb w (p + L.length) (w2.setCell ⟨rb, 1, none⟩ (.int .i64 ((p : Int) + (bl.size : Int)))) := by
     have := HI2.out.step hrb (p + L.length)
     rwa [show ((p + L.length : Nat) : Int) = (p : Int) + (bl.size : Int) from by rw [HL.out]; omega] at this
   refine bodyPost_ret (v := .agg #[.int .i64 5, .string bl, .int .i64 p]) (by simp [results, Tryz.results130, go_sem, k0]) rfl ?_
   have hdn := hst.done hrb (.int .i64 5) (.string bl) (.int .i64 p)
   exact QuoPost.ok rfl (by rw [HBL.out]) hdn.1 hdn.2
theorem word_word (s : ByteArray) (p rb : Nat) (w : World) (hs : s.size ≤ 140737488351232) (hi : p < s.size) (hb : Blk w rb 172 (rdS s p)) :
   Calls Tryz.prog 130 #[.pointer (some ⟨rb, 0, none⟩)] w (QuoPost s p rb w (wordP (s.toList.drop p))) := by
 by_cases hd : digitI (s[p].toNat : Int) = true
 · exact word_word_num s p rb w hs hi hb hd
 · have hd : digitI (s[p].toNat : Int) = false := by simpa using hd
   by_cases hl : letterI (s[p].toNat : Int) = true
   · exact word_word_name s p rb w hs hi hb hd hl
   · have hl : letterI (s[p].toNat : Int) = false := by simpa using hl
     by_cases h34 : s[p] = 34
     · exact word_word_quo s p rb w hs hi hb hd hl h34
     · by_cases h63 : s[p] = 63
       · exact word_word_slot s p rb w hs hi hb hd hl h34 h63
       · exact word_word_sign s p rb w hs hi hb hd hl h34 h63
end Go.Proofs.YtbggbcnfkcadjaaGreatDoor
namespace Go.Proofs.YtbggbcnfkcadjaaGreatDoor
open Go.RowKit
theorem assert_fault (k a : Int) (w : World) : (Instr.typeAssert (.iface 169 (.agg #[.int .i64 k, .int .i64 a])) 20 169 true).run Tryz.prog w = .ok (.tuple #[.agg #[.int .i64 k, .int .i64 a], .bool true]) w := by kernel_rfl
set_option maxHeartbeats 800000 in
theorem read_idle (p q r : Addr) (w : World) :
   CallsD Tryz.prog 127 #[.pointer (some p), .pointer (some q), .pointer (some r)] .returning w fun e u' w' => e = .returned (.tuple #[]) ∧ u' = .returning ∧ w' = w := by
 refine callsD_of_wpS Tryz.func127 rfl fun c₀ cs hu => ?_
 apply wpS_seq
 apply wpS_region
 simp [wpOpsS, go_sem, recoverD, hu, Tryz.ntmps127, Exit.thenS]
 refine wpS_of_wp ?_
 simp only [Array.replicate_succ, Array.replicate_zero, List.push_toArray, List.nil_append, List.cons_append]
 go_wp2
 cases c₀
 simp_all [bodyPostS, results, Tryz.results127]
def Caught (b : Nat) (k a : Int) (w w' : World) : Prop :=
 w'.cell? ⟨b, 0, none⟩ = some (.slice none 0 0) ∧ w'.cell? ⟨b + 1, 0, none⟩ = some (.int .i64 a) ∧ w'.cell? ⟨b + 2, 0, none⟩ = some (.iface 33 (.int .i64 k)) ∧ Below b w w'
set_option maxHeartbeats 1600000 in
theorem read_catch (b : Nat) (x y z : Value) (k a : Int) (older : List PanicEntry) (w : World) (hx : Blk w b 23 #[x]) (hy : Blk w (b + 1) 3 #[y]) (hz : Blk w (b + 2) 25 #[z]) :
   CallsD Tryz.prog 127 #[.pointer (some ⟨b, 0, none⟩), .pointer (some ⟨b + 1, 0, none⟩), .pointer (some ⟨b + 2, 0, none⟩)] (.panicking ({ v := .iface 169 (.agg #[.int .i64 k, .int .i64 a]), recovered := false } :: older)) w fun e u' w' =>
     e = .returned (.tuple #[]) ∧ u' = .panicking ({ v := .iface 169 (.agg #[.int .i64 k, .int .i64 a]), recovered := true } :: older) ∧ Caught b k a w w' := by
 have hta := assert_fault k a
 have lx := hx.lt
 have ly := hy.lt
 have lz := hz.lt
 have cx := hx.cell 0
 have cy := hy.cell 0
 have cz := hz.cell 0
 have fx := hx.frozen 0
 have fy := hy.frozen 0
 have fz := hz.frozen 0
 simp only [List.getElem?_toArray, List.getElem?_cons_zero] at cx cy cz
 clear hx hy hz
 refine callsD_of_wpS Tryz.func127 rfl fun c₀ cs hu => ?_
 apply wpS_seq
 apply wpS_region
 simp [wpOpsS, go_sem, recoverD, hu, Tryz.ntmps127, Exit.thenS]
 refine wpS_of_wp ?_
 simp only [Array.replicate_succ, Array.replicate_zero, List.push_toArray, List.nil_append, List.cons_append]
 go_wp2
 have g0 : (w.alloc (.cells #[.int .i64 k, .int .i64 a] 169)).cell? ⟨w.heap.size, 0, none⟩ = some (.int .i64 k) := by simp [go_sem]
 have g1 : (w.alloc (.cells #[.int .i64 k, .int .i64 a] 169)).cell? ⟨w.heap.size, 1, none⟩ = some (.int .i64 a) := by simp [go_sem]
 have hbw : Below w.heap.size w (w.alloc (.cells #[.int .i64 k, .int .i64 a] 169)) := by (repeat (first | assumption | exact Below.refl _ _ | apply Below.drew | apply below_drewN | (refine Below.alloc ?_ (by first | exact Nat.le_refl _ | omega | (simp; done) | (simp; omega)) _)))
 obtain ⟨hcc, hff⟩ := bcell hbw
 have cx1 := (hcc b 0 lx).trans cx
 have cy1 := (hcc (b + 1) 0 ly).trans cy
 have cz1 := (hcc (b + 2) 0 lz).trans cz
 have fx1 := (hff b 0 lx).trans fx
 have fy1 := (hff (b + 1) 0 ly).trans fy
 have fz1 := (hff (b + 2) 0 lz).trans fz
 have hn0 : ¬ w.heap.size = b := by omega
 have hn1 : ¬ w.heap.size = b + 1 := by omega
 have hn2 : ¬ w.heap.size = b + 2 := by omega
 have hm0 : ¬ b = w.heap.size := by omega
 have hm1 : ¬ b + 1 = w.heap.size := by omega
 have hm2 : ¬ b + 2 = w.heap.size := by omega
 have HBW := Lib.hid hbw
 clear hcc hff cx cy cz fx fy fz hbw
 generalize (w.alloc (.cells #[.int .i64 k, .int .i64 a] 169)) = w1 at *
 go_region
 go_wp2
 simp [bodyPostS, results, Tryz.results127]
 have hb1 : ¬ b = b + 1 := by omega
 have hb2 : ¬ b = b + 2 := by omega
 have hb3 : ¬ b + 1 = b + 2 := by omega
 have hk1 : w1.cell? ⟨b, 0, none⟩ = some x := cx1
 have hbw := HBW.out.mono (show b ≤ w.heap.size by omega)
 refine ⟨?_, ?_, ?_, (((hbw.setCell (p := ⟨b, 0, none⟩) (Nat.le_refl _) _).setCell (p := ⟨b + 1, 0, none⟩) (Nat.le_succ _) _).setCell (p := ⟨b + 2, 0, none⟩) (Nat.le_add_right _ _) _).drew⟩
 · simp [go_sem]
   exact World.cell?_setCell_same _ _ _ cx1
 · simp [go_sem]
   exact World.cell?_setCell_same _ _ _ ((World.cell?_setCell_other _ _ _ _ (by simp)).trans cy1)
 · exact World.cell?_setCell_same _ _ _ (((World.cell?_setCell_other _ _ _ _ (by simp)).trans (World.cell?_setCell_other _ _ _ _ (by simp))).trans cz1)
end Go.Proofs.YtbggbcnfkcadjaaGreatDoor
namespace Go.Proofs.YtbggbcnfkcadjaaGreatDoor
open Go.RowKit
theorem tok_info : (Tryz.prog.info? 42).map (fun i => (i.zero, i.size, i.bytes)) = some (some (.agg #[.int .i64 0, .string ⟨#[]⟩, .int .i64 0]), 3, 32) := by kernel_rfl
def ToksBack (w : World) (r : Ending) (w' : World) (q : List Tk × Nat × Int) : Prop :=
 ∃ A c, r = .returned (.tuple #[.slice A q.1.length c, .int .i64 q.2.1, errV q.2.2]) ∧ q.1.length ≤ c ∧ c ≤ 9223372036854775807 ∧ TkSl w' w'.heap.size A q.1 ∧ Below w.heap.size w w'
theorem ToksBack.none {w w' : World} {i : Nat} {k : Int} (h : Below w.heap.size w w') : ToksBack w (.returned (.tuple #[.slice none 0 0, .int .i64 i, errV k])) w' ([], i, k) := ⟨Option.none, 0, rfl, Nat.le_refl _, by omega, SlG.nil _ _ _, h⟩
set_option maxHeartbeats 1600000 in
theorem word_Read_big (s : ByteArray) (w : World) (h : 900 < s.size) (hm : s.size ≤ 140737488351300) :
   Calls Tryz.prog 93 #[.string s] w fun r w' => ToksBack w r w' (readP s) := by
 have hv : readP s = ([], 0, 4) := by simp [readP, h]
 rw [hv]
 clear hv
 have hmf : ∀ (fn : Fn) (first cap : Array Value) (w : World), (Instr.makeFunc fn first cap).run Tryz.prog w = .ok (.func fn first cap) w := fun _ _ _ _ => rfl
 go_enter_defers Tryz.func93, Tryz.ntmps93
 go_wp2
 simp [bodyPostD, Leaves, results, Tryz.results93, go_sem]
 exact ToksBack.none (k := 4) (by (repeat (first | assumption | exact Below.refl _ _ | apply Below.drew | apply below_drewN | (refine Below.alloc ?_ (by first | exact Nat.le_refl _ | omega | (simp; done) | (simp; omega)) _))))
structure RInv (s : ByteArray) (w : World) (p : Nat) (toks : List Tk) (W : World) : Prop where
 ts : ∃ A c, Blk W w.heap.size 23 #[.slice A toks.length c] ∧ W.ownsRow (w.heap.size + 4) 42 3 (.slice A toks.length c) toks.length (flatG Tk.cells toks)
 at_ : Blk W (w.heap.size + 1) 3 #[.int .i64 0]
 er : Blk W (w.heap.size + 2) 25 #[.nilIface]
 rd : Blk W (w.heap.size + 3) 172 (rdS s p)
 on : Below w.heap.size w W
theorem own_only {B n m g : Nat} {e : TypeId} {v : Value} {xs : List Value} {w w' : World} (h : w.ownsRow B e m v n xs) (ho : Only w.heap.size g w w') (hg : g < B) : w'.ownsRow B e m v n xs :=
 h.kept (row := some g) ⟨ho.os, ho.tape, ho.output, ho.size, fun k hk hn => ho.block k hk (fun e => hn (by rw [e]))⟩ (by
   cases hv : v.ownBlock with
   | none => exact .inl rfl
   | some b => right; intro h2; injection h2 with h2; have := (h.lt b hv).1; omega)
theorem RInv.only {s : ByteArray} {w : World} {p q : Nat} {toks : List Tk} {W W' : World} (h : RInv s w p toks W) (hr : Blk W' (w.heap.size + 3) 172 (rdS s q)) (ho : Only W.heap.size (w.heap.size + 3) W W') : RInv s w q toks W' := by
 obtain ⟨A, c, h1, h2⟩ := h.ts
 have hl := h.rd.lt
 exact ⟨⟨A, c, h1.only ho (by omega) (by omega), own_only h2 ho (by omega)⟩, h.at_.only ho (by omega) (by omega), h.er.only ho (by omega) (by omega), hr, h.on.trans (ho.below (by omega) (by omega))⟩
theorem RInv.alloc {s : ByteArray} {w : World} {p : Nat} {toks : List Tk} {W : World} (h : RInv s w p toks W) (o : Obj) : RInv s w p toks (W.alloc o) := by
 obtain ⟨A, c, h1, h2⟩ := h.ts
 have hl := h.rd.lt
 exact ⟨⟨A, c, h1.alloc _, h2.alloc _⟩, h.at_.alloc _, h.er.alloc _, h.rd.alloc _, h.on.alloc (by omega) _⟩
theorem RInv.wrote {s : ByteArray} {w : World} {p : Nat} {toks toks' : List Tk} {W W' : World} (h : RInv s w p toks W) {v : Value} {A : Option Addr} {c : Nat} {b : Option Nat} (hb : ∀ g, b = some g → w.heap.size + 4 ≤ g) (hg : W.grownBy W' b)
   (hv : v = .slice A toks'.length c) (ho : W'.ownsRow (w.heap.size + 4) 42 3 v toks'.length (flatG Tk.cells toks')) : RInv s w p toks' (W'.setCell ⟨w.heap.size, 0, none⟩ v) := by
 subst hv
 obtain ⟨A0, c0, h1, h2⟩ := h.ts
 have hl := h.rd.lt
 have hblk : ∀ g t cs, g < w.heap.size + 4 → g < W.heap.size → Blk W g t cs → Blk W' g t cs := fun g t cs h1 h2 hB => (hg.block g h2 (fun e => by have := hb g e.symm; omega)).trans hB
 refine ⟨⟨A, c, (hblk _ _ _ (by omega) (by omega) h1).set 0 _, ?_⟩, (hblk _ _ _ (by omega) (by omega) h.at_).far (by simp) _, (hblk _ _ _ (by omega) (by omega) h.er).far (by simp) _, (hblk _ _ _ (by omega) (by omega) h.rd).far (by simp) _, ?_⟩
 · refine own_only (g := w.heap.size) ho ?_ (by omega)
   exact (Only.refl W'.heap.size w.heap.size W').setCell (p := ⟨w.heap.size, 0, none⟩) (.inl rfl) _
 · exact (h.on.grown hg (by omega) (fun g e => by have := hb g e; omega)).setCell (Nat.le_refl _) _
theorem own_set {B n m : Nat} {e : TypeId} {v : Value} {xs : List Value} {w : World} (h : w.ownsRow B e m v n xs) {p : Addr} (hp : p.block < B) (u : Value) : (w.setCell p u).ownsRow B e m v n xs :=
 own_only h ((Only.refl w.heap.size p.block w).setCell (.inl rfl) u) hp
theorem tw_stop (f : UInt8 → Bool) : ∀ (l : List UInt8) (x : UInt8), l[(l.takeWhile f).length]? = some x → f x = false
 | [], x, h => by simp at h
 | a :: l, x, h => by
   by_cases ha : f a = true
   · rw [List.takeWhile_cons_of_pos ha, List.length_cons, List.getElem?_cons_succ] at h
     exact tw_stop f l x h
   · rw [List.takeWhile_cons_of_neg ha] at h
     simp at h
     subst h; simpa using ha
theorem runL_stop {f : Int → Bool} {s : ByteArray} {i : Nat} (h : runL f s i < s.size) : f (s[runL f s i].toNat : Int) = false := by
 refine tw_stop (fun c => f (c.toNat : Int)) (s.toList.drop i) _ ?_
 rw [List.getElem?_drop]
 exact toList_get s _ h
theorem toks_end {W : World} {A : Option Addr} {c : Nat} {toks : List Tk} {B : Nat} (h : W.ownsRow B 42 3 (.slice A toks.length c) toks.length (flatG Tk.cells toks)) : toks.length ≤ c ∧ c ≤ 9223372036854775807 ∧ TkSl W W.heap.size A toks := by
 obtain ⟨_, A', c', hv, h1, h2, h3⟩ := own_formG tk_ok h
 injection hv with e1 e2 e3
 subst e1 e3
 exact ⟨h1, h2, h3⟩
set_option maxRecDepth 100000 in
set_option maxHeartbeats 6400000 in
theorem word_Read_go (s : ByteArray) (w : World) (h : ¬ 900 < s.size) :
   Calls Tryz.prog 93 #[.string s] w fun r w' => ToksBack w r w' (readP s) := by
 have hmf : ∀ (fn : Fn) (first cap : Array Value) (w : World), (Instr.makeFunc fn first cap).run Tryz.prog w = .ok (.func fn first cap) w := fun _ _ _ _ => rfl
 obtain ⟨i0, hi, hz0, hz1, hz2⟩ := info_parts tok_info
 obtain ⟨q, hq⟩ : ∃ q, readP s = q := ⟨_, rfl⟩
 rw [hq]
 rw [readP_R, if_neg h] at hq
 have HQ := Lib.hid hq
 clear hq
 go_enter_defers Tryz.func93, Tryz.ntmps93
 go_wp2_with fail
 go_loopg [] (s.size + 1) (fun gg wr => ∃ p : Nat, ∃ toks : List Tk, p ≤ s.size ∧ toks.length ≤ 300 ∧ s.size + 1 - p ≤ gg ∧ Hid (lineR (s.toList.drop p) p toks = q) ∧ Hid (RInv s w p toks wr))
 case atStart =>
   refine ⟨0, [], by omega, by simp, by omega, HQ.out, ?_⟩
   show RInv _ _ _ _ _
   have b0 : Blk (((w.alloc (.cells #[.slice none 0 0] 23)).alloc (.cells #[.int .i64 0] 3)).alloc (.cells #[.nilIface] 25)) w.heap.size 23 #[.slice none 0 0] := ((Blk.new w _ _).alloc _).alloc _
   have b1 := (Blk.new (w.alloc (.cells #[.slice none 0 0] 23)) 3 #[.int .i64 0]).alloc (.cells #[.nilIface] 25)
   have b2 := Blk.new ((w.alloc (.cells #[.slice none 0 0] 23)).alloc (.cells #[.int .i64 0] 3)) 25 #[.nilIface]
   have b3 := Blk.new (((w.alloc (.cells #[.slice none 0 0] 23)).alloc (.cells #[.int .i64 0] 3)).alloc (.cells #[.nilIface] 25)) 172 #[.string s, .int .i64 0]
   simp only [World.size_alloc] at b1 b2 b3
   exact ⟨⟨none, 0, b0.alloc _, World.ownsRow_nil _ _ _ _⟩, b1.alloc _, b2.alloc _, b3, by (repeat (first | assumption | exact Below.refl _ _ | apply Below.drew | apply below_drewN | (refine Below.alloc ?_ (by first | exact Nat.le_refl _ | omega | (simp; done) | (simp; omega)) _)))⟩
 case round =>
   obtain ⟨p, toks, hp, htl, hgg, HP, HI⟩ := hrel
   have hlt3 := HI.out.rd.lt
   go_wp2_with fail
   refine Calls.mono (word_while 129 (· == 32) pb_blank s p (w.heap.size + 3) wr (by omega) hp HI.out.rd) ?_
   rintro r w1 ⟨rfl, hb1, ho1⟩
   have HP2 : Hid (lineR (s.toList.drop (runL (· == 32) s p)) (runL (· == 32) s p) toks = q) := by
     show _ = _
     rw [← HP.out, lineR_blanks toks (s.toList.drop p) p, List.drop_drop]; rfl
   have hple := runL_le (· == 32) s hp
   have hpge := runL_ge (· == 32) s p
   have HI1 := Lib.hid (HI.out.only hb1 ho1)
   have HST : Hid (∀ hlt : runL (· == 32) s p < s.size, ((s[runL (· == 32) s p].toNat : Int) == 32) = false) := fun hlt => runL_stop hlt
   clear hb1 ho1
   generalize runL (· == 32) s p = p1 at HP2 hple hpge HI1 HST
   have c1 : w1.cell? ⟨w.heap.size + 3, 1, none⟩ = some (.int .i64 p1) := HI1.out.rd.cell 1
   clear HP HI
   by_cases he : p1 = s.size
   · have t1 : ((p1 : Int) == (s.size : Int)) = true := by rw [he]; simp
     have HR : Hid (q = (toks, 0, 0)) := by show _ = _; rw [← HP2.out, he, drop_noneW s s.size (Nat.le_refl _)]; rfl
     clear he HP2
     obtain ⟨A, c, hts, hown⟩ := HI1.out.ts
     have HOW := Lib.hid hown
     have ct : w1.cell? ⟨w.heap.size, 0, none⟩ = some (.slice A toks.length c) := hts.cell 0
     have ft := hts.frozen 0
     have fa := HI1.out.at_.frozen 0
     have fe := HI1.out.er.frozen 0
     have lt0 := hts.lt
     have lt1 := HI1.out.at_.lt
     have lt2 := HI1.out.er.lt
     have ca : w1.cell? ⟨w.heap.size + 1, 0, none⟩ = some (.int .i64 0) := HI1.out.at_.cell 0
     have ce : w1.cell? ⟨w.heap.size + 2, 0, none⟩ = some .nilIface := HI1.out.er.cell 0
     clear hts hown
     go_wp2_with fail
     refine leaves_cons (f := 127) (args := #[.pointer (some ⟨w.heap.size, 0, none⟩), .pointer (some ⟨w.heap.size + 1, 0, none⟩), .pointer (some ⟨w.heap.size + 2, 0, none⟩)]) (by simp) (by simp [go_sem]) ?_
     refine (read_idle ⟨w.heap.size, 0, none⟩ ⟨w.heap.size + 1, 0, none⟩ ⟨w.heap.size + 2, 0, none⟩ _).mono ?_
     rintro e' u' w'' ⟨rfl, rfl, rfl⟩
     simp [Leaves, settle, results, Tryz.results93, go_sem, ct, ca, ce]
     rw [HR.out]
     have hoe := own_set (own_set (own_set HOW.out (p := ⟨w.heap.size, 0, none⟩) (by simp) (.slice A toks.length c)) (p := ⟨w.heap.size + 1, 0, none⟩) (by simp) (.int .i64 0)) (p := ⟨w.heap.size + 1 + 1, 0, none⟩) (by simp) .nilIface
     obtain ⟨q1, q2, q3⟩ := toks_end hoe
     exact ⟨A, c, rfl, q1, q2, q3, ((HI1.out.on.setCell (p := ⟨w.heap.size, 0, none⟩) (Nat.le_refl _) _).setCell (p := ⟨w.heap.size + 1, 0, none⟩) (Nat.le_succ _) _).setCell (p := ⟨w.heap.size + 1 + 1, 0, none⟩) (by simp; omega) _⟩
   · have hlt : p1 < s.size := by omega
     have t1 : ((p1 : Int) == (s.size : Int)) = false := by simp; omega
     have hc32 : s[p1] ≠ 32 := fun h32 => by
       have := HST.out hlt
       rw [h32] at this
       exact absurd this (by decide)
     have hsd := toList_drop s p1 hlt
     have HWW := Lib.hid (word_word s p1 (w.heap.size + 3) w1 (by omega) hlt HI1.out.rd)
     cases hw : wordP (s.toList.drop p1) with
     | bad k =>
       rw [hw] at HWW
       have HR : Hid (q = ([], p1, k)) := by
         show _ = _
         rw [← HP2.out, hsd]
         rw [hsd] at hw
         exact lineR_bad hc32 hw _ _
       have HK0 : ¬ k = 0 := fun e => wordP_ne0 (e ▸ hw)
       clear he HP2 hc32 hsd hw
       go_wp2_with fail
       refine Calls.mono HWW.out ?_
       rintro r w2 ⟨rfl, ho2⟩
       go_wp2_with fail
       refine leaves_cons (f := 127) (args := #[.pointer (some ⟨w.heap.size, 0, none⟩), .pointer (some ⟨w.heap.size + 1, 0, none⟩), .pointer (some ⟨w.heap.size + 2, 0, none⟩)]) (by simp) (by simp [go_sem]) ?_
       obtain ⟨A, c, hts, _⟩ := HI1.out.ts
       have hl1 := HI1.out.rd.lt
       refine (read_catch w.heap.size _ _ _ k p1 [] _ (hts.only ho2 (by omega) (by omega)) (HI1.out.at_.only ho2 (by omega) (by omega)) (HI1.out.er.only ho2 (by omega) (by omega))).mono ?_
       rintro e' u' w'' ⟨rfl, rfl, hc0, hc1, hc2, hbw⟩
       simp [Leaves, settle, results, Tryz.results93, go_sem, hc0, hc1, hc2]
       rw [HR.out]
       have := ToksBack.none (w := w) (i := p1) (k := k) ((HI1.out.on.trans (ho2.below (show w.heap.size ≤ w1.heap.size by omega) (by omega))).trans hbw)
       rwa [errV_pos HK0] at this
     | ok kind t n =>
       rw [hw] at HWW
       have hn := wordP_n hw
       rw [List.length_drop, toList_len] at hn
       have HR : Hid (q = if toks.length = 300 then ([], p1, 4) else lineR (s.toList.drop (p1 + n)) (p1 + n) (toks ++ [⟨kind, bsOf t, p1⟩])) := by
         show _ = _
         rw [← HP2.out, hsd]
         rw [hsd] at hw
         rw [lineR_ok hc32 hw, ← hsd, List.drop_drop]
       clear he HP2 hc32 hsd hw
       go_wp2_with fail
       refine Calls.mono HWW.out ?_
       rintro r w2 ⟨rfl, hb2, ho2⟩
       have HI2 := Lib.hid (HI1.out.only hb2 ho2)
       clear hb2 ho2 HWW HI1 c1
       obtain ⟨A, c, hts, hown⟩ := HI2.out.ts
       have HOW := Lib.hid hown
       have HTS := Lib.hid hts
       have ct : w2.cell? ⟨w.heap.size, 0, none⟩ = some (.slice A toks.length c) := hts.cell 0
       have lt0 := hts.lt
       have lt3 := HI2.out.rd.lt
       clear hts hown
       by_cases h300 : toks.length = 300
       · have t3 : ((toks.length : Int) == 300) = true := by rw [h300]; rfl
         rw [if_pos h300] at HR
         clear h300
         go_wp2_with fail
         refine leaves_cons (f := 127) (args := #[.pointer (some ⟨w.heap.size, 0, none⟩), .pointer (some ⟨w.heap.size + 1, 0, none⟩), .pointer (some ⟨w.heap.size + 2, 0, none⟩)]) (by simp) (by simp [go_sem]) ?_
         refine (read_catch w.heap.size _ _ _ 4 p1 [] _ (HTS.out.alloc _) (HI2.out.at_.alloc _) (HI2.out.er.alloc _)).mono ?_
         rintro e' u' w'' ⟨rfl, rfl, hc0, hc1, hc2, hbw⟩
         simp [Leaves, settle, results, Tryz.results93, go_sem, hc0, hc1, hc2]
         rw [HR.out]
         exact ToksBack.none (w := w) (i := p1) (k := 4) ((HI2.out.alloc _).on.trans hbw)
       · have t3 : ((toks.length : Int) == 300) = false := by simp; omega
         rw [if_neg h300] at HR
         have htl2 : toks.length < 300 := by omega
         clear h300
         go_wp2_with (at_builtin; refine wpList_append_own _ rfl (.tmp 34) (.tmp 36) 23 rfl (w.heap.size + 4) 42 i0 _ 3 32 Tryz.underlying23 hi hz0 hz1 hz2 rfl (by omega) (.slice A toks.length c) toks.length (flatG Tk.cells toks) rfl ((HOW.out.alloc _).alloc _) ⟨w2.heap.size + 1, 0, none⟩ 1 1 (flatG Tk.cells [⟨kind, bsOf t, p1⟩]) rfl rfl (new_flatG _ _ (⟨kind, bsOf t, p1⟩ : Tk) _ rfl _ (by simp)) (flatG_cell tk_ok [⟨kind, bsOf t, p1⟩]) (by unfold maxLen; omega) (by omega) (by simp; omega) ?_)
         intro v1 w3 hown1 hgrow1 _
         rw [← flatG_append] at hown1
         have hl1 : toks.length + 1 = (toks ++ [(⟨kind, bsOf t, p1⟩ : Tk)]).length := by rw [List.length_append]; rfl
         rw [hl1] at hown1
         obtain ⟨_, A2, c2, hv2, _⟩ := own_formG tk_ok hown1
         have hgb : ∀ g, (Value.slice A toks.length c).ownBlock = some g → w.heap.size + 4 ≤ g := fun g hg => (HOW.out.lt g hg).1
         have HI3 := Lib.hid (((HI2.out.alloc (.cells #[.int .i64 kind, .string (bsOf t), .int .i64 p1] 42)).alloc (.cells #[.int .i64 kind, .string (bsOf t), .int .i64 p1] 42)).wrote hgb hgrow1 hv2 hown1)
         have hblk : Blk w3 w.heap.size 23 #[.slice A toks.length c] := (hgrow1.block w.heap.size (by simp; omega) (fun e => by have := hgb _ e.symm; omega)).trans ((HTS.out.alloc _).alloc _)
         have c3 : w3.cell? ⟨w.heap.size, 0, none⟩ = some (.slice A toks.length c) := hblk.cell 0
         have f3 := hblk.frozen 0
         have l3 := hblk.lt
         rw [hv2] at HI3 ⊢
         clear hown1 hgrow1 hblk hl1 hgb hv2 ct
         go_wp2_with fail
         have hI3 := HI3.out
         rw [List.length_append, List.length_singleton] at hI3
         go_roundg (s.size + 1 - (p1 + n))
         case measure => omega
         case rel => exact ⟨p1 + n, toks ++ [⟨kind, bsOf t, p1⟩], by omega, by rw [List.length_append, List.length_singleton]; omega, by omega, by show _ = _; rw [HR.out], Lib.hid hI3⟩
theorem word_ReadX (s : ByteArray) (w : World) (hs : s.size ≤ 140737488351300) :
   Calls Tryz.prog 93 #[.string s] w fun r w' => ToksBack w r w' (readP s) := by
 by_cases h : 900 < s.size
 · exact word_Read_big s w h hs
 · exact word_Read_go s w h
end Go.Proofs.YtbggbcnfkcadjaaGreatDoor
namespace Go.Proofs.YtbggbcnfkcadjaaGreatDoor
open Go.RowKit Go.Sort
theorem string_infoQ : (Tryz.prog.info? 9).map (fun i => (i.zero, i.size, i.bytes)) = some (some (.string ⟨#[]⟩), 1, 16) := by kernel_rfl
def quoL : List (List UInt8) := [[92], [92, 92], [34], [92, 34]]
theorem own_strsQ {w : World} {base : Nat} {v : Value} {n : Nat} {ss : List (List UInt8)} (h : w.ownsRow base 9 1 v n (ss.map encStr)) (hn : n = ss.length) :
   ∃ A c, v = .slice A n c ∧ n ≤ c ∧ c ≤ 9223372036854775807 ∧ StrSl w w.heap.size A ss := by
 subst hn
 rcases h.2 with ⟨hv, h0⟩ | ⟨g, cap, cur, hv, hbase, hb, h1, h2, h3, h4⟩
 · have : ss = [] := List.eq_nil_of_length_eq_zero h0
   subst this
   exact ⟨none, 0, hv, by simp, by omega, StrSl.nil _ _ _⟩
 · subst hv
   unfold maxLen at h2
   refine ⟨_, cap, rfl, h1, h2, fun _ => ⟨g, 0, rfl, (Array.getElem?_eq_some_iff.1 hb).1, fun i l hl => ?_⟩⟩
   have hi := (List.getElem?_eq_some_iff.1 hl).1
   rw [Nat.zero_add, h.cellAt i (by omega), List.getElem?_map, hl]; rfl
def RepNew (w : World) (r : Nat) : Prop :=
 ∃ A c, Blk w r 206 #[.int .u32 0, .int .i32 0, .int .u32 0, .nilIface, .slice A 4 c] ∧ StrSl w r A quoL
set_option maxRecDepth 100000 in
set_option maxHeartbeats 1600000 in
theorem rep_New (b : Nat) (w : World) (_hb : b < w.heap.size) (hc : ∀ i l, quoL[i]? = some l → w.cell? ⟨b, i, none⟩ = some (encStr l)) :
   Calls Tryz.prog 125 #[.slice (some ⟨b, 0, none⟩) 4 4] w fun e w' => ∃ r, e = .returned (.pointer (some ⟨r, 0, none⟩)) ∧ w.heap.size ≤ r ∧ RepNew w' r ∧ Below w.heap.size w w' := by
 obtain ⟨i0, hi, hz0, hz1, hz2⟩ := info_parts string_infoQ
 have hnews : ∀ j u, (quoL.map encStr)[j]? = some u → w.cell? ((⟨b, 0, none⟩ : Addr).add j) = some u := by
   intro j u hu
   rw [List.getElem?_map] at hu
   cases hq : quoL[j]? with
   | none => rw [hq] at hu; simp at hu
   | some l =>
     rw [hq] at hu; simp at hu; subst hu
     have := hc j l hq
     unfold Addr.add; split
     · rename_i h0; subst h0; exact this
     · rw [Nat.zero_add]; exact this
 have hone : ∀ u ∈ quoL.map encStr, u.oneCell' = true := by
   intro u hu
   obtain ⟨l, _, rfl⟩ := List.mem_map.1 hu
   rfl
 go_enter Tryz.func125, Tryz.ntmps125
 go_wp2_with (at_builtin; refine wpList_append_own _ rfl (.const (.slice none 0 0)) (.tmp 8) 44 rfl w.heap.size 9 i0 _ 1 16 Tryz.underlying44 hi hz0 hz1 hz2 rfl (by omega) (.slice none 0 0) 0 [] rfl (World.ownsRow_nil _ _ _ _) ⟨b, 0, none⟩ 4 4 (quoL.map encStr) rfl rfl hnews hone (by unfold maxLen; omega) (by omega) (by omega) ?_)
 intro v1 w1 hown1 hgrow1 _
 obtain ⟨A, c, hv, _, _, hs⟩ := own_strsQ hown1 rfl
 subst hv
 go_outline
 go_wp2_with fail
 go_ret
 refine ⟨w1.heap.size, rfl, hgrow1.size, ⟨A, c, ?_, ?_⟩, ?_⟩
 · exact Blk.new _ _ _
 · exact hs.below (Below.alloc (Below.refl w1.heap.size w1) (Nat.le_refl _) _)
 · exact ((Below.refl w.heap.size w).grown hgrow1 (Nat.le_refl _) (fun k hk => by cases hk)).alloc hgrow1.size _
end Go.Proofs.YtbggbcnfkcadjaaGreatDoor
namespace Go.Proofs.YtbggbcnfkcadjaaGreatDoor
open Go.RowKit Go.Sort
theorem one257 (v : Value) (hv : v.oneCell' = true) : (Tryz.zeroCells249.setIfInBounds 256 v).all (·.oneCell') = true := by
 rw [Array.all_eq_true_iff_forall_mem]
 intro x hx
 rcases Array.mem_or_eq_of_mem_setIfInBounds hx with h | h
 · exact (Array.all_eq_true_iff_forall_mem.1 (by decide +kernel : Tryz.zeroCells249.all (·.oneCell') = true)) x h
 · rw [h]; exact hv
theorem store257 (w : World) (v : Value) (hv : v.oneCell' = true) (g : Nat) (hg : g = w.heap.size) :
   Sem.run Tryz.prog (storeCells ⟨g, 0, none⟩ (Tryz.zeroCells249.toList.set 256 v)) (w.alloc (.cells Tryz.zeroCells249 249)) = .ok () (w.alloc (.cells (Tryz.zeroCells249.setIfInBounds 256 v) 249)) := by
 subst hg
 have h := run_storeCells_new (P := Tryz.prog) w 249 Tryz.zeroCells249 (Tryz.zeroCells249.setIfInBounds 256 v) (by rw [Array.size_setIfInBounds]; kernel_rfl) (by simp) (one257 v hv)
 rw [Array.toList_setIfInBounds] at h
 exact h
structure RepTab (w : World) (lo B g : Nat) : Prop where
 ge : lo ≤ g
 lt : g < B
 le : B ≤ w.heap.size
 no : ∀ i, i < 256 → i ≠ 34 → i ≠ 92 → w.cell? ⟨g, i, none⟩ = some (.slice none 0 0)
 q : ∃ a c, w.cell? ⟨g, 34, none⟩ = some (.slice (some ⟨a, 0, none⟩) 2 c) ∧ (lo ≤ a ∧ a < B) ∧ w.cell? ⟨a, 0, none⟩ = some (.int .u8 92) ∧ w.cell? ⟨a, 1, none⟩ = some (.int .u8 34)
 s : ∃ a c, w.cell? ⟨g, 92, none⟩ = some (.slice (some ⟨a, 0, none⟩) 2 c) ∧ (lo ≤ a ∧ a < B) ∧ w.cell? ⟨a, 0, none⟩ = some (.int .u8 92) ∧ w.cell? ⟨a, 1, none⟩ = some (.int .u8 92)
 t : ∃ a, w.cell? ⟨g, 256, none⟩ = some (.slice (some ⟨a, 0, none⟩) 2 2) ∧ (lo ≤ a ∧ a < B) ∧ w.cell? ⟨a, 0, none⟩ = some (.string ⟨#[34]⟩) ∧ w.cell? ⟨a, 1, none⟩ = some (.string ⟨#[92]⟩)
theorem RepTab.keep {w w' : World} {lo B g : Nat} (h : RepTab w lo B g) (hs : w.heap.size ≤ w'.heap.size) (e : ∀ g i, lo ≤ g → g < B → w'.cell? ⟨g, i, none⟩ = w.cell? ⟨g, i, none⟩) : RepTab w' lo B g := by
 obtain ⟨h0, h1, h2, h3, ⟨a, c, q1, q2, q5, q6⟩, ⟨a', c', s1, s2, s5, s6⟩, ⟨a'', t1, t2, t3, t4⟩⟩ := h
 exact ⟨h0, h1, Nat.le_trans h2 hs, fun i hi n1 n2 => (e _ _ h0 h1).trans (h3 i hi n1 n2), ⟨a, c, (e _ _ h0 h1).trans q1, q2, (e _ _ q2.1 q2.2).trans q5, (e _ _ q2.1 q2.2).trans q6⟩,
   ⟨a', c', (e _ _ h0 h1).trans s1, s2, (e _ _ s2.1 s2.2).trans s5, (e _ _ s2.1 s2.2).trans s6⟩, ⟨a'', (e _ _ h0 h1).trans t1, t2, (e _ _ t2.1 t2.2).trans t3, (e _ _ t2.1 t2.2).trans t4⟩⟩
theorem RepTab.below {w w' : World} {lo B g : Nat} (h : RepTab w lo B g) (hb : Below B w w') : RepTab w' lo B g := h.keep hb.size fun g i _ hg => hb.cell (p := ⟨g, i, none⟩) hg
theorem Blk.grown {w w' : World} {g : Nat} {t : TypeId} {cs : Array Value} {row : Option Nat} (h : Blk w g t cs) (hg : w.grownBy w' row) (hn : some g ≠ row) : Blk w' g t cs := (hg.block g h.lt hn).trans h
theorem own_far {w : World} {base : Nat} {e : TypeId} {size : Nat} {v : Value} {n : Nat} {xs : List Value} (h : w.ownsRow base e size v n xs) {p : Addr} (hp : v.ownBlock ≠ some p.block) (u : Value) : (w.setCell p u).ownsRow base e size v n xs :=
 h.kept (row := some p.block) ⟨rfl, rfl, rfl, by simp [World.setCell], fun k _ hk => Below.heap_setCell _ _ _ _ (fun e => hk (by rw [e]))⟩ (.inr hp)
theorem zero150l : Tryz.zeroCells249 = (List.replicate 257 (.slice none 0 0)).toArray := by kernel_rfl
theorem zero150 (i : Nat) (hi : i < 256) : Tryz.zeroCells249[i]? = some (.slice none 0 0) := by
 rw [zero150l, List.getElem?_toArray, List.getElem?_replicate, if_pos (by omega)]
theorem bytes_one (W : World) (g : Nat) (hg : g = W.heap.size) (v : UInt8) :
   (convert 135 9 (.slice (some ⟨g, 0, none⟩) 1 1)).run Tryz.prog (W.alloc (.cells #[.int .u8 v.toNat] 5)) = .ok (.string ⟨#[v]⟩) (W.alloc (.cells #[.int .u8 v.toNat] 5)) := by
 subst hg
 exact run_convert_bytes_back (P := Tryz.prog) _ 135 9 5 ⟨W.heap.size, 0, none⟩ 1 [v] Tryz.underlying135 Tryz.underlying5 Tryz.underlying9 (fun j hj => by
   obtain rfl : j = 0 := by simp at hj; omega
   rw [add_none, Nat.zero_add, World.cell?_alloc_new]; rfl)
set_option maxRecDepth 100000 in
set_option maxHeartbeats 1600000 in
theorem rep_build (r : Nat) (w : World) (A : Option Addr) (c : Nat) (x0 x1 x2 x3 : Value) (hr : Blk w r 206 #[x0, x1, x2, x3, .slice A 4 c]) (hs : StrSl w w.heap.size A quoL) :
   Calls Tryz.prog 169 #[.pointer (some ⟨r, 0, none⟩)] w fun e w' => ∃ g, e = .returned (.iface 250 (.pointer (some ⟨g, 0, none⟩))) ∧ RepTab w' w.heap.size w'.heap.size g ∧ Below w.heap.size w w' := by
 obtain ⟨i0, hi, hz0, hz1, hz2⟩ := info_parts string_infoQ
 obtain ⟨b, o, rfl, hb, hc⟩ := hs (by decide)
 have c4 : w.cell? ⟨r, 4, none⟩ = some (.slice (some ⟨b, o, none⟩) 4 c) := (hr.cell 4).trans rfl
 have d0 : w.cell? ⟨b, o, none⟩ = some (.string ⟨#[92]⟩) := hc 0 _ rfl
 have d1 : w.cell? ⟨b, o + 1, none⟩ = some (.string ⟨#[92, 92]⟩) := hc 1 _ rfl
 have d2 : w.cell? ⟨b, o + 2, none⟩ = some (.string ⟨#[34]⟩) := hc 2 _ rfl
 have d3 : w.cell? ⟨b, o + 3, none⟩ = some (.string ⟨#[92, 34]⟩) := hc 3 _ rfl
 have hmk : ∀ w, (Instr.makeSlice 44 (.int .i64 0) (.int .i64 2)).run Tryz.prog w = .ok (.slice (some ⟨w.heap.size, 0, none⟩) 0 2) (w.alloc (.cells #[.string ⟨#[]⟩, .string ⟨#[]⟩] 9)) := fun _ => by kernel_rfl
 obtain ⟨Z, hZ, hst⟩ : ∃ Z : Array Value, Z = Tryz.zeroCells249.setIfInBounds 256 (.slice (some ⟨w.heap.size, 0, none⟩) 0 2) ∧
     Sem.run Tryz.prog (storeCells ⟨w.heap.size + 1, 0, none⟩ (Tryz.zeroCells249.toList.set 256 (.slice (some ⟨w.heap.size, 0, none⟩) 0 2))) ((w.alloc (.cells #[.string ⟨#[]⟩, .string ⟨#[]⟩] 9)).alloc (.cells Tryz.zeroCells249 249)) = .ok () ((w.alloc (.cells #[.string ⟨#[]⟩, .string ⟨#[]⟩] 9)).alloc (.cells Z 249)) :=
   ⟨_, rfl, store257 _ _ rfl _ (by simp)⟩
 have zno : ∀ i, i < 256 → Z[i]? = some (.slice none 0 0) := fun i hi => by rw [hZ, Array.getElem?_setIfInBounds_ne (by omega)]; exact zero150 i hi
 have ZNO := Lib.hid zno
 clear zno
 have z92 : Z[92]? = some (.slice none 0 0) := by rw [hZ]; kernel_rfl
 have z34 : Z[34]? = some (.slice none 0 0) := by rw [hZ]; kernel_rfl
 have z256 : Z[256]? = some (.slice (some ⟨w.heap.size, 0, none⟩) 0 2) := by rw [hZ]; kernel_rfl
 have i34 : (({ data := #[34] } : ByteArray)[0]'(by decide)).toNat = 34 := rfl
 have i92 : (({ data := #[92] } : ByteArray)[0]'(by decide)).toNat = 92 := rfl
 clear hZ
 go_enter Tryz.func169, Tryz.ntmps169
 go_wp2_with fail
 refine wp_loop_rounds 3 ?_
 rw [rounds_succ]
 go_wp2_with fail
 rw [rounds_succ]
 go_wp2_with fail
 rw [rounds_succ]
 go_wp2_with fail
 clear hst hmk
 have hown0 : ((w.alloc (.cells #[.string ⟨#[]⟩, .string ⟨#[]⟩] 9)).alloc (.cells Z 249)).ownsRow w.heap.size 9 1 (.slice (some ⟨w.heap.size, 0, none⟩) 0 2) 0 [] :=
   (World.ownsRow_made w #[.string ⟨#[]⟩, .string ⟨#[]⟩] 2 (Nat.le_refl _) (by unfold maxLen; omega) rfl).alloc _
 have hblk0 : Blk ((w.alloc (.cells #[.string ⟨#[]⟩, .string ⟨#[]⟩] 9)).alloc (.cells Z 249)) (w.heap.size + 1) 249 Z := by
   have := Blk.new (w.alloc (.cells #[.string ⟨#[]⟩, .string ⟨#[]⟩] 9)) 249 Z
   simpa using this
 have hbel0 : Below w.heap.size w ((w.alloc (.cells #[.string ⟨#[]⟩, .string ⟨#[]⟩] 9)).alloc (.cells Z 249)) := by (repeat (first | assumption | exact Below.refl _ _ | apply Below.drew | apply below_drewN | (refine Below.alloc ?_ (by first | exact Nat.le_refl _ | omega | (simp; done) | (simp; omega)) _)))
 have hsz0 : ((w.alloc (.cells #[.string ⟨#[]⟩, .string ⟨#[]⟩] 9)).alloc (.cells Z 249)).heap.size = w.heap.size + 2 := by simp
 generalize hW : ((w.alloc (.cells #[.string ⟨#[]⟩, .string ⟨#[]⟩] 9)).alloc (.cells Z 249)) = W at hown0 hblk0 hbel0 hsz0 ⊢
 clear hW
 have e0 := hbel0.cell (p := ⟨b, o, none⟩) hb
 have e1 := hbel0.cell (p := ⟨b, o + 1, none⟩) hb
 have e2 := hbel0.cell (p := ⟨b, o + 2, none⟩) hb
 have e3 := hbel0.cell (p := ⟨b, o + 3, none⟩) hb
 rw [d0] at e0
 rw [d1] at e1
 rw [d2] at e2
 rw [d3] at e3
 have HZ := Lib.hid hsz0
 clear hsz0
 have q34 : W.cell? ⟨w.heap.size + 1, 34, none⟩ = some (.slice none 0 0) := (hblk0.cell 34).trans z34
 have q256 : W.cell? ⟨w.heap.size + 1, 256, none⟩ = some (.slice (some ⟨w.heap.size, 0, none⟩) 0 2) := (hblk0.cell 256).trans z256
 have f0 := hblk0.frozen
 have heq := fun (W : World) (a : Option Addr) (n c : Nat) => Lib.run_eql_slice_nil (P := Tryz.prog) W 135 5 a n c 0 0 Tryz.underlying135
 have hbs34 : ∀ W : World, (convert 135 9 (.slice (some ⟨W.heap.size, 0, none⟩) 1 1)).run Tryz.prog (W.alloc (.cells #[.int .u8 34] 5)) = .ok (.string ⟨#[34]⟩) (W.alloc (.cells #[.int .u8 34] 5)) := fun W => bytes_one W _ rfl 34
 have hbs92 : ∀ W : World, (convert 135 9 (.slice (some ⟨W.heap.size, 0, none⟩) 1 1)).run Tryz.prog (W.alloc (.cells #[.int .u8 92] 5)) = .ok (.string ⟨#[92]⟩) (W.alloc (.cells #[.int .u8 92] 5)) := fun W => bytes_one W _ rfl 92
 refine wp_loop_rounds 3 ?_
 rw [rounds_succ]
 go_wp2_with (at_builtin; refine wpList_append_fits _ rfl (.tmp 119) (.tmp 123) 44 rfl w.heap.size 9 i0 1 Tryz.underlying44 hi hz1 w.heap.size 0 2 [] rfl ((hown0.alloc _).alloc _) ⟨W.heap.size + 1, 0, none⟩ 1 1 [.string ⟨#[34]⟩] rfl rfl (new_one (W.alloc _) _ _ _ (by simp)) (by simp [Value.oneCell']) (by omega) ?_)
 intro w1 hown1 hgrow1
 have hb1 : Blk w1 (w.heap.size + 1) 249 Z := ((hblk0.alloc _).alloc _).grown hgrow1 (by simp)
 have hbel1 : Below w.heap.size w w1 := (((hbel0.alloc (by have := HZ.out; omega) _).alloc (by have := HZ.out; simp; omega) _)).grown hgrow1 (by have := HZ.out; simp; omega) (by rintro k ⟨⟩; omega)
 clear hgrow1 hown0 hblk0 hbel0 q34 q256 f0 e0 e1 e2 e3
 obtain ⟨cp1, w2, hr1, hcl1, hbl1⟩ := bytes_conv (P := Tryz.prog) (w1.setCell ⟨w.heap.size + 1, 256, none⟩ (.slice (some ⟨w.heap.size, 0, none⟩) 1 2)) 9 135 5 ⟨#[92, 34]⟩ Tryz.underlying9 Tryz.underlying135 Tryz.underlying5
 have q256 : w1.cell? ⟨w.heap.size + 1, 256, none⟩ = some (.slice (some ⟨w.heap.size, 0, none⟩) 0 2) := (hb1.cell 256).trans z256
 have f0 := hb1.frozen
 have hb2 : Blk w2 (w.heap.size + 1) 249 (Z.setIfInBounds 256 (.slice (some ⟨w.heap.size, 0, none⟩) 1 2)) := (hb1.set 256 _).below hbl1 (hb1.set 256 _).lt
 have z34' : (Z.setIfInBounds 256 (.slice (some ⟨w.heap.size, 0, none⟩) 1 2))[34]? = some (.slice none 0 0) := by rw [Array.getElem?_setIfInBounds_ne (by omega)]; exact z34
 have z92' : (Z.setIfInBounds 256 (.slice (some ⟨w.heap.size, 0, none⟩) 1 2))[92]? = some (.slice none 0 0) := by rw [Array.getElem?_setIfInBounds_ne (by omega)]; exact z92
 have p34 : w2.cell? ⟨w.heap.size + 1, 34, none⟩ = some (.slice none 0 0) := (hb2.cell 34).trans z34'
 have f2 := hb2.frozen
 have HC1 := Lib.hid hcl1
 have HB1 := Lib.hid hbl1
 clear hcl1 hbl1
 have HO1 := Lib.hid hown1
 clear hown1
 have hr1' : (convert 9 135 (.string ⟨#[92, 34]⟩)).run Tryz.prog (w1.setCell ⟨w.heap.size + 1, 256, none⟩ (.slice (some ⟨w.heap.size, 0, none⟩) 1 2)) = .ok (.slice (some ⟨w1.heap.size, 0, none⟩) 2 cp1) w2 := by
   have := hr1
   simp only [World.size_setCell] at this
   exact this
 clear hr1
 go_wp2_with fail
 have hsz1 : w.heap.size + 1 < w1.heap.size := hb1.lt
 have hb3 : Blk (w2.setCell ⟨w.heap.size + 1, 34, none⟩ (.slice (some ⟨w1.heap.size, 0, none⟩) 2 cp1)) (w.heap.size + 1) 249 ((Z.setIfInBounds 256 (.slice (some ⟨w.heap.size, 0, none⟩) 1 2)).setIfInBounds 34 (.slice (some ⟨w1.heap.size, 0, none⟩) 2 cp1)) := hb2.set 34 _
 have hown3 : (w2.setCell ⟨w.heap.size + 1, 34, none⟩ (.slice (some ⟨w1.heap.size, 0, none⟩) 2 cp1)).ownsRow w.heap.size 9 1 (.slice (some ⟨w.heap.size, 0, none⟩) 1 2) 1 [.string ⟨#[34]⟩] :=
   own_far (p := ⟨w.heap.size + 1, 34, none⟩) (own_keep (own_far (p := ⟨w.heap.size + 1, 256, none⟩) HO1.out (by simp [Value.ownBlock]) _) HB1.out) (by simp [Value.ownBlock]) _
 have hbel3 : Below w.heap.size w (w2.setCell ⟨w.heap.size + 1, 34, none⟩ (.slice (some ⟨w1.heap.size, 0, none⟩) 2 cp1)) :=
   ((hbel1.setCell (p := ⟨w.heap.size + 1, 256, none⟩) (by simp) _).trans (HB1.out.mono (by rw [World.size_setCell]; omega))).setCell (by simp) _
 have hk0 : w2.cell? ⟨w1.heap.size, 0, none⟩ = some (.int .u8 92) := by
   have := HC1.out 0 (by decide)
   rw [World.size_setCell] at this
   exact this
 have hk1 : w2.cell? ⟨w1.heap.size, 1, none⟩ = some (.int .u8 34) := by
   have := HC1.out 1 (by decide)
   rw [World.size_setCell] at this
   exact this
 have hd0 := (World.cell?_setCell_other w2 ⟨w.heap.size + 1, 34, none⟩ ⟨w1.heap.size, 0, none⟩ (.slice (some ⟨w1.heap.size, 0, none⟩) 2 cp1) (by simp)).trans hk0
 have hd1 := (World.cell?_setCell_other w2 ⟨w.heap.size + 1, 34, none⟩ ⟨w1.heap.size, 1, none⟩ (.slice (some ⟨w1.heap.size, 0, none⟩) 2 cp1) (by simp)).trans hk1
 have hs2 : w1.heap.size < (w2.setCell ⟨w.heap.size + 1, 34, none⟩ (.slice (some ⟨w1.heap.size, 0, none⟩) 2 cp1)).heap.size := by
   rw [World.size_setCell]
   exact World.block_lt_of_cell? _ _ hk0
 generalize hW3 : w2.setCell ⟨w.heap.size + 1, 34, none⟩ (.slice (some ⟨w1.heap.size, 0, none⟩) 2 cp1) = W3 at hb3 hown3 hbel3 hd0 hd1 hs2 ⊢
 clear hW3 hk0 hk1 HC1 HB1 HO1 hr1' f2 p34 hb2 f0 q256 hbel1 hb1
 have e0 : W3.cell? ⟨b, o, none⟩ = some (.string ⟨#[92]⟩) := (hbel3.cell (p := ⟨b, o, none⟩) hb).trans d0
 have e1 : W3.cell? ⟨b, o + 1, none⟩ = some (.string ⟨#[92, 92]⟩) := (hbel3.cell (p := ⟨b, o + 1, none⟩) hb).trans d1
 obtain ⟨Z3, hZ3, zz34, zz92, zz256, zzno⟩ : ∃ Z3 : Array Value, Z3 = (Z.setIfInBounds 256 (.slice (some ⟨w.heap.size, 0, none⟩) 1 2)).setIfInBounds 34 (.slice (some ⟨w1.heap.size, 0, none⟩) 2 cp1) ∧
     Z3[34]? = some (.slice (some ⟨w1.heap.size, 0, none⟩) 2 cp1) ∧ Z3[92]? = some (.slice none 0 0) ∧ Z3[256]? = some (.slice (some ⟨w.heap.size, 0, none⟩) 1 2) ∧ (∀ i, i < 256 → i ≠ 34 → Z3[i]? = some (.slice none 0 0)) := by
   have hn : ∀ i, i < 256 → i ≠ 34 → ((Z.setIfInBounds 256 (.slice (some ⟨w.heap.size, 0, none⟩) 1 2)).setIfInBounds 34 (.slice (some ⟨w1.heap.size, 0, none⟩) 2 cp1))[i]? = some (.slice none 0 0) := fun i hi hne => by
     rw [Array.getElem?_setIfInBounds_ne (by omega), Array.getElem?_setIfInBounds_ne (by omega)]
     exact ZNO.out i hi
   refine ⟨_, rfl, ?_, hn 92 (by omega) (by omega), ?_, hn⟩
   · rw [Array.getElem?_setIfInBounds_self]
     have := (Array.getElem?_eq_some_iff.1 z34).1
     simpa using this
   · rw [Array.getElem?_setIfInBounds_ne (by omega), Array.getElem?_setIfInBounds_self]
     have := (Array.getElem?_eq_some_iff.1 z256).1
     simpa using this
 rw [← hZ3] at hb3
 have ZN3 := Lib.hid zzno
 clear hZ3 zzno z34' z92' z34 z92 z256 ZNO
 have q92 : W3.cell? ⟨w.heap.size + 1, 92, none⟩ = some (.slice none 0 0) := (hb3.cell 92).trans zz92
 have q256 : W3.cell? ⟨w.heap.size + 1, 256, none⟩ = some (.slice (some ⟨w.heap.size, 0, none⟩) 1 2) := (hb3.cell 256).trans zz256
 have f3 := hb3.frozen
 have HD0 := Lib.hid hd0
 have HD1 := Lib.hid hd1
 clear hd0 hd1
 rw [rounds_succ]
 go_wp2_with (at_builtin; refine wpList_append_fits _ rfl (.tmp 119) (.tmp 123) 44 rfl w.heap.size 9 i0 1 Tryz.underlying44 hi hz1 w.heap.size 1 2 [.string ⟨#[34]⟩] rfl ((hown3.alloc _).alloc _) ⟨W3.heap.size + 1, 0, none⟩ 1 1 [.string ⟨#[92]⟩] rfl rfl (new_one (W3.alloc _) _ _ _ (by simp)) (by simp [Value.oneCell']) (by omega) ?_)
 intro w4 hown4 hgrow4
 have hlt3 := hb3.lt
 have hb4 : Blk w4 (w.heap.size + 1) 249 Z3 := ((hb3.alloc _).alloc _).grown hgrow4 (by simp)
 have hbel4 : Below w.heap.size w w4 := (((hbel3.alloc (by omega) _).alloc (by simp; omega) _)).grown hgrow4 (by simp; omega) (by rintro k ⟨⟩; omega)
 have hd0 : w4.cell? ⟨w1.heap.size, 0, none⟩ = some (.int .u8 92) := hgrow4.cell ((World.cell?_alloc_lt _ _ _ (by simp; omega)).trans ((World.cell?_alloc_lt _ _ _ (by simp; omega)).trans HD0.out)) (by simp; omega)
 have hd1 : w4.cell? ⟨w1.heap.size, 1, none⟩ = some (.int .u8 34) := hgrow4.cell ((World.cell?_alloc_lt _ _ _ (by simp; omega)).trans ((World.cell?_alloc_lt _ _ _ (by simp; omega)).trans HD1.out)) (by simp; omega)
 clear hgrow4 hown3 hb3 hbel3 q92 q256 f3 e0 e1 HD0 HD1
 obtain ⟨cp2, w5, hr2, hcl2, hbl2⟩ := bytes_conv (P := Tryz.prog) (w4.setCell ⟨w.heap.size + 1, 256, none⟩ (.slice (some ⟨w.heap.size, 0, none⟩) 2 2)) 9 135 5 ⟨#[92, 92]⟩ Tryz.underlying9 Tryz.underlying135 Tryz.underlying5
 have hr2' : (convert 9 135 (.string ⟨#[92, 92]⟩)).run Tryz.prog (w4.setCell ⟨w.heap.size + 1, 256, none⟩ (.slice (some ⟨w.heap.size, 0, none⟩) 2 2)) = .ok (.slice (some ⟨w4.heap.size, 0, none⟩) 2 cp2) w5 := by
   have := hr2
   simp only [World.size_setCell] at this
   exact this
 clear hr2
 have q256 : w4.cell? ⟨w.heap.size + 1, 256, none⟩ = some (.slice (some ⟨w.heap.size, 0, none⟩) 1 2) := (hb4.cell 256).trans zz256
 have f4 := hb4.frozen
 have hb5 : Blk w5 (w.heap.size + 1) 249 (Z3.setIfInBounds 256 (.slice (some ⟨w.heap.size, 0, none⟩) 2 2)) := (hb4.set 256 _).below hbl2 (hb4.set 256 _).lt
 have p92 : w5.cell? ⟨w.heap.size + 1, 92, none⟩ = some (.slice none 0 0) := (hb5.cell 92).trans (by rw [Array.getElem?_setIfInBounds_ne (by omega)]; exact zz92)
 have f5 := hb5.frozen
 have hlt4 := hb4.lt
 have hbel5 : Below w.heap.size w w5 := (hbel4.setCell (p := ⟨w.heap.size + 1, 256, none⟩) (by simp) _).trans (hbl2.mono (by rw [World.size_setCell]; omega))
 have hk0 : w5.cell? ⟨w4.heap.size, 0, none⟩ = some (.int .u8 92) := by
   have := hcl2 0 (by decide)
   rw [World.size_setCell] at this
   exact this
 have hk1 : w5.cell? ⟨w4.heap.size, 1, none⟩ = some (.int .u8 92) := by
   have := hcl2 1 (by decide)
   rw [World.size_setCell] at this
   exact this
 have hl4 : w1.heap.size < w4.heap.size := World.block_lt_of_cell? _ _ hd0
 have hf : ∀ g i, g < w4.heap.size → g ≠ w.heap.size + 1 → w5.cell? ⟨g, i, none⟩ = w4.cell? ⟨g, i, none⟩ := fun g i hg hne =>
   (hbl2.cell (p := ⟨g, i, none⟩) (by rw [World.size_setCell]; exact hg)).trans (World.cell?_setCell_other w4 ⟨w.heap.size + 1, 256, none⟩ ⟨g, i, none⟩ _ (by simp))
 have hr4 := hown4.cells (g := w.heap.size) rfl
 have hg0 : w4.cell? ⟨w.heap.size, 0, none⟩ = some (.string ⟨#[34]⟩) := by have := hr4 0 _ rfl; rwa [add_none] at this
 have hg1 : w4.cell? ⟨w.heap.size, 1, none⟩ = some (.string ⟨#[92]⟩) := by have := hr4 1 _ rfl; rwa [add_none] at this
 have hs5 : w4.heap.size < w5.heap.size := World.block_lt_of_cell? _ _ hk0
 have fin : RepTab (w5.setCell ⟨w.heap.size + 1, 92, none⟩ (.slice (some ⟨w4.heap.size, 0, none⟩) 2 cp2)) w.heap.size w5.heap.size (w.heap.size + 1) := by
   have hb6 := hb5.set 92 (.slice (some ⟨w4.heap.size, 0, none⟩) 2 cp2)
   have hs : ∀ g i, g ≠ w.heap.size + 1 → (w5.setCell ⟨w.heap.size + 1, 92, none⟩ (.slice (some ⟨w4.heap.size, 0, none⟩) 2 cp2)).cell? ⟨g, i, none⟩ = w5.cell? ⟨g, i, none⟩ := fun g i hne => World.cell?_setCell_other w5 _ _ _ (by simp)
   have n92 := (Array.getElem?_eq_some_iff.1 zz92).1
   have n256 := (Array.getElem?_eq_some_iff.1 zz256).1
   refine ⟨by omega, by omega, by rw [World.size_setCell]; exact Nat.le_refl _, fun i hi n1 n2 => ?_, ⟨w1.heap.size, cp1, ?_, by omega, ?_, ?_⟩, ⟨w4.heap.size, cp2, ?_, by omega, ?_, ?_⟩, ⟨w.heap.size, ?_, by omega, ?_, ?_⟩⟩
   · rw [hb6.cell, Array.getElem?_setIfInBounds_ne (by omega), Array.getElem?_setIfInBounds_ne (by omega)]; exact ZN3.out i hi n1
   · rw [hb6.cell, Array.getElem?_setIfInBounds_ne (by omega), Array.getElem?_setIfInBounds_ne (by omega)]; exact zz34
   · rw [hs _ _ (by omega), hf _ _ (by omega) (by omega)]; exact hd0
   · rw [hs _ _ (by omega), hf _ _ (by omega) (by omega)]; exact hd1
   · rw [hb6.cell, Array.getElem?_setIfInBounds_self]; simp [n92]
   · rw [hs _ _ (by omega)]; exact hk0
   · rw [hs _ _ (by omega)]; exact hk1
   · rw [hb6.cell, Array.getElem?_setIfInBounds_ne (by omega), Array.getElem?_setIfInBounds_self]; simp [n256]
   · rw [hs _ _ (by omega), hf _ _ (by omega) (by omega)]; exact hg0
   · rw [hs _ _ (by omega), hf _ _ (by omega) (by omega)]; exact hg1
 have FIN := Lib.hid fin
 have HB5 := Lib.hid hbel5
 clear fin hf hr4 hg0 hg1 hd0 hd1 hk0 hk1 hcl2 hbl2 hown4 hbel4 hbel5 hs hc hr
 go_wp2_with fail
 rw [rounds_succ]
 go_wp2_with fail
 go_ret
 refine ⟨_, rfl, ?_, HB5.out.setCell (by simp) _⟩
 have := FIN.out
 rw [World.size_setCell]
 exact this
end Go.Proofs.YtbggbcnfkcadjaaGreatDoor
namespace Go.Proofs.YtbggbcnfkcadjaaGreatDoor
open Go.RowKit Go.Sort
def RepDone (w : World) (lo r : Nat) (x0 x1 x2 : Value) : Prop :=
 ∃ g, Blk w r 206 #[x0, x1, x2, .iface 250 (.pointer (some ⟨g, 0, none⟩)), .slice none 0 0] ∧ RepTab w lo w.heap.size g
set_option maxRecDepth 100000 in
set_option maxHeartbeats 1600000 in
theorem rep_buildOnce (r : Nat) (w : World) (A : Option Addr) (c : Nat) (x0 x1 x2 x3 : Value) (hr : Blk w r 206 #[x0, x1, x2, x3, .slice A 4 c]) (hs : StrSl w w.heap.size A quoL) :
   Calls Tryz.prog 150 #[.pointer (some ⟨r, 0, none⟩)] w fun e w' => e = .returned (.tuple #[]) ∧ RepDone w' w.heap.size r x0 x1 x2 ∧ Only w.heap.size r w w' := by
 go_enter Tryz.func150, Tryz.ntmps150
 go_wp2_with fail
 refine (rep_build r w A c x0 x1 x2 x3 hr hs).mono ?_
 rintro e w1 ⟨g, rfl, htab, hb1⟩
 have hr1 := hr.below hb1 hr.lt
 have c3 := hr1.cell 3
 have c4 := hr1.cell 4
 have f1 := hr1.frozen
 go_wp2_with fail
 go_end0
 have hlt := hr.lt
 have hr2 := (hr1.set 3 (.iface 250 (.pointer (some ⟨g, 0, none⟩)))).set 4 (.slice none 0 0)
 refine ⟨rfl, ⟨g, ?_, ?_⟩, ?_⟩
 · exact hr2
 · rw [World.size_setCell, World.size_setCell]
   exact htab.keep (by rw [World.size_setCell, World.size_setCell]; exact Nat.le_refl _) fun g i hg _ => (World.cell?_setCell_other _ ⟨r, 4, none⟩ ⟨g, i, none⟩ _ (by simp)).trans (World.cell?_setCell_other _ ⟨r, 3, none⟩ ⟨g, i, none⟩ _ (by simp))
 · exact ((Only.of_below hb1 (Nat.le_refl _)).setCell (p := ⟨r, 3, none⟩) (.inl rfl) _).setCell (p := ⟨r, 4, none⟩) (.inl rfl) _
end Go.Proofs.YtbggbcnfkcadjaaGreatDoor
namespace Go.Proofs.YtbggbcnfkcadjaaGreatDoor
open Go.RowKit Go.Sort
theorem slice_from (W : World) (G N j : Nat) (hj : j < N) : (Instr.slice 135 (.slice (some ⟨G, 0, none⟩) N N) (some (.int .i64 (j : Int))) none none).run Tryz.prog W = .ok (.slice (some ⟨G, j, none⟩) (N - j) (N - j)) W := by
 have hel : Tryz.prog.elem 135 = 5 := by kernel_rfl
 have hsz : (Go.sizeOf 5).run Tryz.prog W = .ok 1 W := by kernel_rfl
 rw [run_slice_l (P := Tryz.prog) (w := W) 135 (some ⟨G, 0, none⟩) N N (by rw [hel]; exact Tryz.underlying135) .i64 (j : Int) (by omega) (by omega), hel, hsz]
 simp only [Result.andThen, sliced, Int.toNat_natCast]
 rw [if_neg (by omega)]
 simp [Addr.add]
 omega
theorem two_cells {w : World} {a : Nat} {x y : UInt8} (h0 : w.cell? ⟨a, 0, none⟩ = some (.int .u8 (x.toNat : Int))) (h1 : w.cell? ⟨a, 1, none⟩ = some (.int .u8 (y.toNat : Int))) :
   ∀ j v, (byC [x, y])[j]? = some v → w.cell? ((⟨a, 0, none⟩ : Addr).add j) = some v := by
 intro j v hv
 rw [add_none, Nat.zero_add]
 match j, hv with
 | 0, hv => exact h0.trans hv
 | 1, hv => exact h1.trans hv
theorem two_min {N j : Nat} {x y : UInt8} (h : j + 2 ≤ N) : (byC [x, y]).length = Nat.min 2 (N - j) := by
 rw [byC_len]; show 2 = min 2 (N - j); omega
theorem byC_one (l : List UInt8) : ∀ v ∈ byC l, v.oneCell' = true := by
 intro v hv
 obtain ⟨b, _, rfl⟩ := List.mem_map.1 hv
 rfl
theorem splice_take {cur cs : List Value} {j : Nat} (h : j + cs.length ≤ cur.length) : (splice cur j cs).take (j + cs.length) = cur.take j ++ cs := by
 unfold splice
 rw [← List.append_assoc, List.take_append_of_le_length (by simp; omega), List.take_of_length_le (by simp; omega)]
theorem set_take {cur : List Value} {j : Nat} {v : Value} (h : j < cur.length) : (cur.set j v).take (j + 1) = cur.take j ++ [v] := by
 rw [List.take_add_one, List.take_set_of_le (Nat.le_refl _), List.getElem?_set_self h]; rfl
theorem wrap2 (j : Nat) (a b : UInt8) (h : (j : Int) ≤ 5000) : IntKind.i64.wrap ((j : Int) + ((byC [a, b]).length : Nat)) = ((j + 2 : Nat) : Int) := by
 rw [show (byC [a, b]).length = 2 from rfl, IntWalk.i64_in _ (by omega)]; omega
theorem Tryz.info5q : (Tryz.prog.info? 5).map (fun i => (i.zero, i.size, i.bytes)) = some (some (.int .u8 0), 1, 1) := by kernel_rfl
set_option maxRecDepth 100000 in
set_option maxHeartbeats 1600000 in
theorem bsr_Replace (g lo : Nat) (s : ByteArray) (w : World) (ht : RepTab w lo w.heap.size g) (hs : s.size ≤ 1000) :
   Calls Tryz.prog 294 #[.pointer (some ⟨g, 0, none⟩), .string s] w fun e w' => e = .returned (.string ⟨(escP s.toList).toArray⟩) ∧ Below w.heap.size w w' := by
 obtain ⟨hge, hgl, _, hno, ⟨qa, qc, q0, ⟨_, q1⟩, q2, q3⟩, ⟨sa, sc, s0, ⟨_, s1⟩, s2, s3⟩, ⟨ta, t0, ⟨_, t1⟩, t2, t3⟩⟩ := ht
 have HNO := Lib.hid hno
 clear hno
 have hcl : ((escN s.toList : Nat) : Int) ≤ 1000 := by have := escN_le s.toList; rw [toList_len] at this; omega
 have hneq := fun (W : World) (a : Option Addr) (n c : Nat) => run_neq_slice_nil_any (P := Tryz.prog) W 135 5 a n c 0 0 Tryz.underlying135
 go_enter Tryz.func294, Tryz.ntmps294
 go_upto_if 26 with fail
 go_cut [5, 6] (fun s5 s6 wx => s5 = .int .i64 ((s.size : Int) + escN s.toList) ∧ s6 = .bool (escN s.toList != 0) ∧ ∃ n, wx = w.drewN n)
 case first =>
   obtain ⟨c1, hc1⟩ : ∃ c1, Lib.countByte s.data.toList 34 = c1 := ⟨_, rfl⟩
   obtain ⟨c2, hc2⟩ : ∃ c2, Lib.countByte s.data.toList 92 = c2 := ⟨_, rfl⟩
   have hsum : c1 + c2 = escN s.toList := by rw [← hc1, ← hc2, ByteArray.toList_eq]; exact escN_count _
   have HS := Lib.hid hsum
   have hb12 : ((c1 : Nat) : Int) + c2 ≤ 1000 := by omega
   have hC1 : ∀ W, Calls Tryz.prog 296 #[.string s, .string ⟨#[34]⟩] W fun e w' => e = .returned (.int .i64 (c1 : Int)) ∧ W = w' := fun W => by rw [← hc1]; exact (Tryz.strings_Count_one s 34 W).mono fun _ _ h => ⟨h.1, h.2.symm⟩
   have hC2 : ∀ W, Calls Tryz.prog 296 #[.string s, .string ⟨#[92]⟩] W fun e w' => e = .returned (.int .i64 (c2 : Int)) ∧ W = w' := fun W => by rw [← hc2]; exact (Tryz.strings_Count_one s 92 W).mono fun _ _ h => ⟨h.1, h.2.symm⟩
   have HC1 := Lib.hid hC1
   have HC2 := Lib.hid hC2
   clear hc1 hc2 hsum hC1 hC2
   have i34 : (({ data := #[34] } : ByteArray)[0]'(by decide)).toNat = 34 := rfl
   have i92 : (({ data := #[92] } : ByteArray)[0]'(by decide)).toNat = 92 := rfl
   by_cases h16 : 16 ≤ s.size
   · by_cases z1 : c1 = 0
     · have b1 : (((c1 : Nat) : Int) != 0) = false := by simp [z1]
       have Z1 := Lib.hid z1
       clear z1
       by_cases z2 : c2 = 0
       · have b2 : (((c2 : Nat) : Int) != 0) = false := by simp [z2]
         have Z2 := Lib.hid z2
         clear z2
         go_wp2_with fail
         refine wp_loop_rounds 3 ?_
         rw [rounds_succ]
         go_wp2_with fail
         refine (HC1.out _).mono ?_
         rintro e w' ⟨rfl, rfl⟩
         go_wp2_with fail
         rw [rounds_succ]
         go_wp2_with fail
         refine (HC2.out _).mono ?_
         rintro e w' ⟨rfl, rfl⟩
         go_wp2_with fail
         rw [rounds_succ]
         go_wp2_with fail
         go_meet
         have h1 := Z1.out
         have h2 := Z2.out
         have h3 := HS.out
         exact ⟨by rw [← h3]; first | (rw [h1]; simp; done) | go_num | (simp [h1, h2]; try omega), by rw [← h3]; simp [h1, h2], by first | exact ⟨_, rfl⟩ | exact ⟨0, rfl⟩⟩
       · have b2 : (((c2 : Nat) : Int) != 0) = true := by rw [bne_iff_ne]; omega
         have Z2 := Lib.hid z2
         clear z2
         go_wp2_with fail
         refine wp_loop_rounds 3 ?_
         rw [rounds_succ]
         go_wp2_with fail
         refine (HC1.out _).mono ?_
         rintro e w' ⟨rfl, rfl⟩
         go_wp2_with fail
         rw [rounds_succ]
         go_wp2_with fail
         refine (HC2.out _).mono ?_
         rintro e w' ⟨rfl, rfl⟩
         go_wp2_with fail
         go_quiet (fail)
         go_wp2_with fail
         rw [rounds_succ]
         go_wp2_with fail
         go_meet
         have h1 := Z1.out
         have h2 := Z2.out
         have h3 := HS.out
         exact ⟨by rw [← h3]; first | (rw [h1]; simp; done) | go_num | (simp [h1]; try omega), by rw [← h3]; simp [h1, h2], by first | exact ⟨_, rfl⟩ | exact ⟨0, rfl⟩⟩
     · have b1 : (((c1 : Nat) : Int) != 0) = true := by rw [bne_iff_ne]; omega
       have Z1 := Lib.hid z1
       clear z1
       by_cases z2 : c2 = 0
       · have b2 : (((c2 : Nat) : Int) != 0) = false := by simp [z2]
         have Z2 := Lib.hid z2
         clear z2
         go_wp2_with fail
         refine wp_loop_rounds 3 ?_
         rw [rounds_succ]
         go_wp2_with fail
         refine (HC1.out _).mono ?_
         rintro e w' ⟨rfl, rfl⟩
         go_wp2_with fail
         go_quiet (fail)
         go_wp2_with fail
         rw [rounds_succ]
         go_wp2_with fail
         refine (HC2.out _).mono ?_
         rintro e w' ⟨rfl, rfl⟩
         go_wp2_with fail
         rw [rounds_succ]
         go_wp2_with fail
         go_meet
         have h1 := Z1.out
         have h2 := Z2.out
         have h3 := HS.out
         exact ⟨by rw [← h3]; first | (rw [h1]; simp; done) | go_num | (simp [h1, h2]; try omega), by rw [← h3]; simp [h1, h2], by first | exact ⟨_, rfl⟩ | exact ⟨0, rfl⟩⟩
       · have b2 : (((c2 : Nat) : Int) != 0) = true := by rw [bne_iff_ne]; omega
         have Z2 := Lib.hid z2
         clear z2
         go_wp2_with fail
         refine wp_loop_rounds 3 ?_
         rw [rounds_succ]
         go_wp2_with fail
         refine (HC1.out _).mono ?_
         rintro e w' ⟨rfl, rfl⟩
         go_wp2_with fail
         go_quiet (fail)
         go_wp2_with fail
         rw [rounds_succ]
         go_wp2_with fail
         refine (HC2.out _).mono ?_
         rintro e w' ⟨rfl, rfl⟩
         go_wp2_with fail
         go_quiet (fail)
         go_wp2_with fail
         rw [rounds_succ]
         go_wp2_with fail
         go_meet
         have h1 := Z1.out
         have h2 := Z2.out
         have h3 := HS.out
         exact ⟨by rw [← h3]; first | (rw [h1]; simp; done) | go_num | (simp [h1, h2]; try omega), by rw [← h3]; simp [h1, h2], by first | exact ⟨_, rfl⟩ | exact ⟨0, rfl⟩⟩
   · have HQ := Lib.hid h16
     clear h16
     have h16 : s.size < 16 := by have := HQ.out; omega
     clear HC1 HC2 HS hb12 i34 i92
     go_wp2_with fail
     go_loop [5, 6, 10] (fun n5 n6 i => ∃ k : Nat, k ≤ s.size ∧ i = .int .i64 k ∧ n5 = .int .i64 ((s.size : Int) + escN (s.toList.take k)) ∧ n6 = .bool (escN (s.toList.take k) != 0)) (fun _ _ i => s.size - (intOf i).toNat)
     case atStart => exact ⟨0, by omega, rfl, by simp [escN], by simp [escN]⟩
     case round =>
       obtain ⟨k, hk, rfl, rfl, rfl⟩ := hrel
       by_cases hlt : k < s.size
       · have hg := toList_get s k hlt
         have hq : ((escN (s.toList.take k) : Nat) : Int) ≤ 1000 := by have := escN_le (s.toList.take k); simp [toList_len] at this; omega
         have HT : Hid (s.toList.take (k + 1) = s.toList.take k ++ [s[k]]) := by rw [List.take_add_one, hg]; rfl
         clear hg
         by_cases h34 : s[k].toNat = 34
         · have HY : Hid (escB s[k] = true) := (escB_yes _).2 (.inl h34)
           go_wp2_with fail
           go_round
           case rel => exact ⟨k + 1, by omega, by go_num, by rw [HT.out, escN_snoc, HY.out]; simp; go_num, by rw [HT.out, escN_snoc, HY.out]; simp⟩
           case measure => simp [intOf]; omega
         · by_cases h92 : s[k].toNat = 92
           · have HY : Hid (escB s[k] = true) := (escB_yes _).2 (.inr h92)
             go_wp2_with fail
             go_round
             case rel => exact ⟨k + 1, by omega, by go_num, by rw [HT.out, escN_snoc, HY.out]; simp; go_num, by rw [HT.out, escN_snoc, HY.out]; simp⟩
             case measure => simp [intOf]; omega
           · have HY : Hid (escB s[k] = false) := by
               show _ = _
               cases hq : escB s[k] with
               | false => rfl
               | true => rcases (escB_yes _).1 hq with h | h <;> contradiction
             have hcell := HNO.out s[k].toNat (UInt8.toNat_lt _) h34 h92
             have hb256 : s[k].toNat < 256 := UInt8.toNat_lt _
             go_wp2_with fail
             go_round
             case rel => exact ⟨k + 1, by omega, by go_num, by rw [HT.out, escN_snoc, HY.out]; simp, by rw [HT.out, escN_snoc, HY.out]; simp⟩
             case measure => simp [intOf]; omega
       · have hks : k = s.size := by omega
         subst hks
         have HA : Hid (s.toList.take s.size = s.toList) := List.take_of_length_le (by rw [toList_len]; omega)
         go_wp2_with fail
         go_meet
         exact ⟨by rw [HA.out], by rw [HA.out], ⟨0, rfl⟩⟩
 case rest =>
   obtain ⟨rfl, rfl, n, rfl⟩ := hcut
   have hlen : s.toList.length = s.size := toList_len s
   by_cases hz : escN s.toList = 0
   · have hb0 : (escN s.toList != 0) = false := by simp [hz]
     have HZ := Lib.hid hz
     have HL := Lib.hid hlen
     clear hz hlen
     go_wp2_with fail
     go_ret
     exact ⟨ret_val (by rw [escN_zero _ HZ.out]; exact (encStr_of s).symm), below_drewN (Below.refl _ _) _⟩
   · have hb0 : (escN s.toList != 0) = true := by simp [hz]
     have hN := escP_len s.toList
     obtain ⟨i0, hi, hz0, hz1, hz2⟩ := info_parts (Tryz.info5q)
     have HZ := Lib.hid hz
     have HL := Lib.hid hlen
     have HN := Lib.hid hN
     clear hz hlen hN
     go_wp2_with (at_make; refine wpList_make_full _ rfl (.tmp 84) (.tmp 84) 135 rfl w.heap.size 5 i0 (.int .u8 0) 1 Tryz.underlying135 hi hz0 hz1 .i64 .i64 _ _ (s.size + escN s.toList) rfl rfl (by go_num) (by go_num) (by rw [hz2]; omega) (by unfold maxLen; omega) (by simp) ?_)
     intro w1 hown1 hgrow1
     have hbel1 : Below w.heap.size w w1 := (below_drewN (Below.refl _ _) n).grown hgrow1 (by simp) (by rintro k ⟨⟩)
     obtain ⟨cur0, hcur0, hlen0⟩ : ∃ cur0 : List Value, w1.heap[w.heap.size]? = some (.cells cur0.toArray 5 (0, 0)) ∧ cur0.length = s.size + escN s.toList := by
       rcases hown1.2 with ⟨hv, _⟩ | ⟨g', cap, cur, hv, _, hg, _, _, hsz, _⟩
       · simp at hv
       · injection hv with e1 e2 e3
         injection e1 with e1
         injection e1 with e1
         refine ⟨cur.toList, ?_, ?_⟩
         · rw [Array.toArray_toList]; rw [show w.heap.size = g' from e1]; exact hg
         · rw [Array.length_toList, hsz]; omega
     clear hown1 hgrow1
     have HC0 := Lib.hid hcur0
     have HE0 := Lib.hid hlen0
     clear hcur0 hlen0
     go_wp2_with fail
     go_loopw [13, 14] (fun j i wr => ∃ (k : Nat) (cur : List Value), k ≤ s.size ∧ i = .int .i64 k ∧ j = .int .i64 ((escP (s.toList.take k)).length : Nat) ∧ Hid (cur.length = s.size + escN s.toList) ∧ Hid (wr.heap[w.heap.size]? = some (.cells cur.toArray 5 (0, 0))) ∧
         Hid (cur.take (escP (s.toList.take k)).length = byC (escP (s.toList.take k))) ∧ Below w.heap.size w wr) (fun _ i _ => s.size - (intOf i).toNat)
     case atStart => exact ⟨0, cur0, by omega, rfl, by simp [escP], HE0, HC0, by simp [escP, byC, Hid], hbel1⟩
     case round =>
       obtain ⟨k, cur, hk, rfl, rfl, HE, HC, HT, hb⟩ := hrel
       by_cases hlt : k < s.size
       · have hg := toList_get s k hlt
         have hle := escP_take s.toList (k + 1)
         have HK : Hid (escP (s.toList.take (k + 1)) = escP (s.toList.take k) ++ esc1 s[k]) := by rw [List.take_add_one, hg]; exact escP_snoc _ _
         rw [HK.out, List.length_append, toList_len] at hle
         have HLE := Lib.hid hle
         clear hg hle
         generalize hjn : (escP (s.toList.take k)).length = jn at HT HLE ⊢
         have HJ := Lib.hid hjn
         clear hjn
         have fz : wr.frozen? ⟨w.heap.size, jn, none⟩ = false := by simp [World.frozen?, HC.out]
         by_cases h34 : s[k].toNat = 34
         · have HY : Hid (esc1 s[k] = [92, 34]) := by show _ = _; rw [esc1, if_pos ((escB_yes _).2 (.inl h34)), UInt8.toNat_inj.1 (h34.trans rfl : s[k].toNat = (34 : UInt8).toNat)]
           have g0 : wr.cell? ⟨g, 34, none⟩ = some (.slice (some ⟨qa, 0, none⟩) 2 qc) := (hb.cell (p := ⟨g, 34, none⟩) (by omega)).trans q0
           have hj2 : jn + 2 ≤ s.size + escN s.toList := by have := HLE.out; rw [HY.out] at this; simpa using this
           have hji : (0 : Int) ≤ (jn : Int) := by omega
           have hjN : (jn : Int) ≤ ((s.size + escN s.toList : Nat) : Int) := by omega
           have hsl := fun W => slice_from W w.heap.size (s.size + escN s.toList) jn (by omega)
           have hsrc : ∀ j v, (byC [92, 34])[j]? = some v → wr.cell? ((⟨qa, 0, none⟩ : Addr).add j) = some v := two_cells ((hb.cell (p := ⟨qa, 0, none⟩) q1).trans q2) ((hb.cell (p := ⟨qa, 1, none⟩) q1).trans q3)
           have HSR := Lib.hid hsrc
           clear hsrc
           go_wp2_with fail
           go_region_held3 (fun w' => w'.cell? ⟨g, 34, none⟩ = some (.slice (some ⟨qa, 0, none⟩) 2 qc)) (first | go_keep | (exact (hB4.cell (p := ⟨g, 34, none⟩) hgl).trans q0)) ((refine step_copy_splice rfl (.tmp 105) (.tmp 111) 135 135 rfl 5 Tryz.underlying135 (by kernel_rfl) (some ⟨w.heap.size, jn, none⟩) (some ⟨qa, 0, none⟩) (s.size + escN s.toList - jn) (s.size + escN s.toList - jn) 2 qc (by rfl) (by rfl) w.heap.size jn cur 5 HC.out (byC [92, 34]) (two_min hj2) (fun _ => ⟨rfl, _, rfl, HSR.out⟩) (by rw [HE.out]; exact hj2) (byC_one _) w.heap.size w (below_drewN hb 1) (Nat.le_refl _) ?_; intro w4 HG4 hB4))
           have hL : Hid (jn + 2 = (escP (s.toList.take (k + 1))).length) := by show _ = _; rw [HK.out, List.length_append, HJ.out, HY.out]; rfl
           have hR : Hid ((splice cur jn (byC [92, 34])).take (jn + 2) = byC (escP (s.toList.take (k + 1)))) := by
             show _ = _
             rw [HK.out, byC_append, HY.out, ← HT.out]; exact splice_take (cur := cur) (cs := byC [92, 34]) (j := jn) (by rw [HE.out]; exact hj2)
           have hE : Hid ((splice cur jn (byC [92, 34])).length = s.size + escN s.toList) := by show _ = _; rw [length_splice _ _ _ (by rw [HE.out]; exact hj2)]; exact HE.out
           rw [wrap2 jn 92 34 (by omega)]
           go_wp2_with fail
           go_roundw
           case rel => exact ⟨k + 1, splice cur jn (byC [92, 34]), by omega, by go_num, by rw [hL.out], hE, HG4, by rw [← hL.out]; exact hR, hB4⟩
           case measure => simp [intOf]; omega
         · by_cases h92 : s[k].toNat = 92
           · have HY : Hid (esc1 s[k] = [92, 92]) := by show _ = _; rw [esc1, if_pos ((escB_yes _).2 (.inr h92)), UInt8.toNat_inj.1 (h92.trans rfl : s[k].toNat = (92 : UInt8).toNat)]
             have g0 : wr.cell? ⟨g, 92, none⟩ = some (.slice (some ⟨sa, 0, none⟩) 2 sc) := (hb.cell (p := ⟨g, 92, none⟩) (by omega)).trans s0
             have hj2 : jn + 2 ≤ s.size + escN s.toList := by have := HLE.out; rw [HY.out] at this; simpa using this
             have hji : (0 : Int) ≤ (jn : Int) := by omega
             have hjN : (jn : Int) ≤ ((s.size + escN s.toList : Nat) : Int) := by omega
             have hsl := fun W => slice_from W w.heap.size (s.size + escN s.toList) jn (by omega)
             have hsrc : ∀ j v, (byC [92, 92])[j]? = some v → wr.cell? ((⟨sa, 0, none⟩ : Addr).add j) = some v := two_cells ((hb.cell (p := ⟨sa, 0, none⟩) s1).trans s2) ((hb.cell (p := ⟨sa, 1, none⟩) s1).trans s3)
             have HSR := Lib.hid hsrc
             clear hsrc
             go_wp2_with fail
             go_region_held3 (fun w' => w'.cell? ⟨g, 92, none⟩ = some (.slice (some ⟨sa, 0, none⟩) 2 sc)) (first | go_keep | (exact (hB4.cell (p := ⟨g, 92, none⟩) hgl).trans s0)) ((refine step_copy_splice rfl (.tmp 105) (.tmp 111) 135 135 rfl 5 Tryz.underlying135 (by kernel_rfl) (some ⟨w.heap.size, jn, none⟩) (some ⟨sa, 0, none⟩) (s.size + escN s.toList - jn) (s.size + escN s.toList - jn) 2 sc (by rfl) (by rfl) w.heap.size jn cur 5 HC.out (byC [92, 92]) (two_min hj2) (fun _ => ⟨rfl, _, rfl, HSR.out⟩) (by rw [HE.out]; exact hj2) (byC_one _) w.heap.size w (below_drewN hb 1) (Nat.le_refl _) ?_; intro w4 HG4 hB4))
             have hL : Hid (jn + 2 = (escP (s.toList.take (k + 1))).length) := by show _ = _; rw [HK.out, List.length_append, HJ.out, HY.out]; rfl
             have hR : Hid ((splice cur jn (byC [92, 92])).take (jn + 2) = byC (escP (s.toList.take (k + 1)))) := by
               show _ = _
               rw [HK.out, byC_append, HY.out, ← HT.out]; exact splice_take (cur := cur) (cs := byC [92, 92]) (j := jn) (by rw [HE.out]; exact hj2)
             have hE : Hid ((splice cur jn (byC [92, 92])).length = s.size + escN s.toList) := by show _ = _; rw [length_splice _ _ _ (by rw [HE.out]; exact hj2)]; exact HE.out
             rw [wrap2 jn 92 92 (by omega)]
             go_wp2_with fail
             go_roundw
             case rel => exact ⟨k + 1, splice cur jn (byC [92, 92]), by omega, by go_num, by rw [hL.out], hE, HG4, by rw [← hL.out]; exact hR, hB4⟩
             case measure => simp [intOf]; omega
           · have hnq : escB s[k] = false := by
               cases hq : escB s[k] with
               | false => rfl
               | true => rcases (escB_yes _).1 hq with h | h <;> contradiction
             have HY : Hid (esc1 s[k] = [s[k]]) := by show _ = _; rw [esc1, hnq]; rfl
             have hb256 : s[k].toNat < 256 := UInt8.toNat_lt _
             have hcell : wr.cell? ⟨g, s[k].toNat, none⟩ = some (.slice none 0 0) := (hb.cell (p := ⟨g, s[k].toNat, none⟩) hgl).trans (HNO.out s[k].toNat hb256 h34 h92)
             have hj2 : jn + 1 ≤ s.size + escN s.toList := by have := HLE.out; rw [HY.out] at this; simpa using this
             clear hnq
             have hcj : wr.cell? ⟨w.heap.size, jn, none⟩ = some (cur[jn]'(by rw [HE.out]; omega)) := by
               have h1 : jn < cur.length := by rw [HE.out]; omega
               simp [World.cell?, HC.out, h1]
             have hL : Hid (jn + 1 = (escP (s.toList.take (k + 1))).length) := by show _ = _; rw [HK.out, List.length_append, HJ.out, HY.out]; rfl
             have hR : Hid ((cur.set jn (.int .u8 (s[k].toNat : Int))).take (jn + 1) = byC (escP (s.toList.take (k + 1)))) := by
               show _ = _
               rw [HK.out, byC_append, HY.out, ← HT.out]; exact set_take (by rw [HE.out]; omega)
             have hE : Hid ((cur.set jn (.int .u8 (s[k].toNat : Int))).length = s.size + escN s.toList) := by show _ = _; rw [List.length_set]; exact HE.out
             have hS : Hid ((wr.setCell ⟨w.heap.size, jn, none⟩ (.int .u8 (s[k].toNat : Int))).heap[w.heap.size]? = some (.cells (cur.set jn (.int .u8 (s[k].toNat : Int))).toArray 5 (0, 0))) := by
               have := Blk.set (show Blk wr w.heap.size 5 cur.toArray from HC.out) jn (.int .u8 (s[k].toNat : Int))
               rw [List.setIfInBounds_toArray] at this
               exact this
             go_wp2_with fail
             go_roundw
             case rel => exact ⟨k + 1, cur.set jn (.int .u8 (s[k].toNat : Int)), by omega, by go_num, by rw [← hL.out]; go_num, hE, hS, by rw [← hL.out]; exact hR, hb.setCell (by simp) _⟩
             case measure => simp [intOf]; omega
       · have hks : k = s.size := by omega
         subst hks
         have HA : s.toList.take s.size = s.toList := List.take_of_length_le (by rw [toList_len]; omega)
         rw [HA] at HT ⊢
         clear HA
         have hcv : (convert 135 9 (.slice (some ⟨w.heap.size, 0, none⟩) (s.size + escN s.toList) (s.size + escN s.toList))).run Tryz.prog wr = .ok (.string ⟨(escP s.toList).toArray⟩) wr := by
           have hl : (escP s.toList).length = s.size + escN s.toList := by rw [HN.out, HL.out]
           have := run_convert_bytes_back (P := Tryz.prog) wr 135 9 5 ⟨w.heap.size, 0, none⟩ (s.size + escN s.toList) (escP s.toList) Tryz.underlying135 Tryz.underlying5 Tryz.underlying9 (fun j hj => by
             have ht := HT.out
             rw [List.take_of_length_le (by rw [HE.out, hl]; exact Nat.le_refl _)] at ht
             rw [add_none, Nat.zero_add]
             simp only [World.cell?, HC.out]
             rw [ht]
             simp [byC, hj])
           rwa [hl] at this
         go_wp2_with fail
         go_ret
         exact ⟨rfl, hb⟩
end Go.Proofs.YtbggbcnfkcadjaaGreatDoor
namespace Go.Proofs.YtbggbcnfkcadjaaGreatDoor
open Go.RowKit Go.Sort Go.MuLone
abbrev muLink : Go.Conc.Locks.MuLink := { lock := 186, unlock := 187, ilock := 200, iunlock := 201, lockSlow := 215, unlockSlow := 218, disable := 211, enable := 213, acquire := 214, relMerge := 216, cas32 := 212, add32 := 217, tMutex := 200, tIMutex := 198, tPMutex := 256, tPIMutex := 273, tPI32 := 275, tUP := 118, tNoCopy := 192, tU32 := 194 }
theorem muLib : Go.Conc.Locks.MuLib Tryz.prog muLink :=
 ⟨Tryz.func186, Tryz.func187, Tryz.func200, Tryz.func201, Tryz.func211, Tryz.func213, Tryz.func214, Tryz.func216, Tryz.func212, Tryz.func217, Tryz.underlying198, Tryz.runUnderlying198, Tryz.sizeOf198, Tryz.isAgg198, Tryz.zeroValue198, Tryz.underlying200, Tryz.runUnderlying200, Tryz.sizeOf200, Tryz.isAgg200, Tryz.zeroValue200, Tryz.underlying256, Tryz.runUnderlying256, Tryz.sizeOf256, Tryz.isAgg256, Tryz.zeroValue256, Tryz.underlying273, Tryz.runUnderlying273, Tryz.sizeOf273, Tryz.isAgg273, Tryz.zeroValue273, Tryz.underlying275, Tryz.runUnderlying275, Tryz.sizeOf275, Tryz.isAgg275, Tryz.zeroValue275, Tryz.underlying118, Tryz.runUnderlying118, Tryz.sizeOf118, Tryz.isAgg118, Tryz.zeroValue118, Tryz.underlying192, Tryz.runUnderlying192, Tryz.sizeOf192, Tryz.isAgg192, Tryz.zeroValue192, Tryz.underlying21, Tryz.runUnderlying21, Tryz.sizeOf21, Tryz.isAgg21, Tryz.zeroValue21, (by kernel_rfl)⟩
theorem store_deferred (a : Addr) (x : Value) (u : FrameMode) (w : World) (hc : w.cell? a = some x) (hz : w.frozen? a = false) :
   CallsD Tryz.prog 188 #[.pointer (some a), .bool true] u w fun e u' w' => u' = u ∧ (e = .returned (.tuple #[]) ∧ w' = w.drew.setCell a (.int .u32 1)) := by
 have hc' : w.drew.cell? a = some x := by go_simp
 have hz' : w.drew.frozen? a = false := by go_simp
 have hst := run_call_store (P := Tryz.prog) Tryz.func202 (by kernel_rfl) (by kernel_rfl) (by kernel_rfl) (by kernel_rfl) (k := .u32) (y := 1) hc' hz'
 go_enter_d Tryz.func188, Tryz.ntmps188
 go_wp2
 go_region_calls
 all_goals (go_end0; exact ⟨rfl, rfl⟩)
set_option maxRecDepth 100000 in
set_option maxHeartbeats 1600000 in
theorem once_slow (r : Nat) (fv : Value) (K : Nat) (args : Array Value) (hfv : fv = .func (.func K) args #[]) (hK : K = 150) (w : World) (Q : World → Prop)
   (h0 : w.cell? ⟨r, 0, none⟩ = some (.int .u32 0)) (h1 : w.cell? ⟨r, 1, none⟩ = some (.int .i32 0)) (f1 : w.frozen? ⟨r, 1, none⟩ = false)
   (hB : Calls Tryz.prog K args (w.setCell ⟨r, 1, none⟩ (.int .i32 1)) fun e w' => e = .returned (.tuple #[]) ∧ Q w')
   (hQ : ∀ w', Q w' → w'.cell? ⟨r, 0, none⟩ = some (.int .u32 0) ∧ w'.cell? ⟨r, 1, none⟩ = some (.int .i32 1) ∧ w'.frozen? ⟨r, 0, none⟩ = false ∧ w'.frozen? ⟨r, 1, none⟩ = false) :
   Calls Tryz.prog 168 #[.pointer (some ⟨r, 0, none⟩), fv] w fun e w' => e = .returned (.tuple #[]) ∧ ∃ w2, Q w2 ∧ w' = (w2.drew.setCell ⟨r, 0, none⟩ (.int .u32 1)).setCell ⟨r, 1, none⟩ (.int .i32 0) := by
 subst hfv hK
 have hl := run_call_load (P := Tryz.prog) Tryz.func185 (by kernel_rfl) (by kernel_rfl) (by kernel_rfl) .u32 (by kernel_rfl) (w := w.setCell ⟨r, 1, none⟩ (.int .i32 1)) (a := ⟨r, 0, none⟩) (x := 0) ((World.cell?_setCell_other _ ⟨r, 1, none⟩ ⟨r, 0, none⟩ _ (by simp)).trans h0)
 have hnot : ∀ (x : Bool) (w : World), (Op.unary .not (.bool x)).run Tryz.prog w = .ok (.bool (!x)) w := fun _ _ => rfl
 go_enter_defers Tryz.func168, Tryz.ntmps168
 go_wp2_with (first | (go_at_call 186; refine (lock_free muLib ⟨r, 1, none⟩ _ h1 f1).mono ?_; rintro e w' ⟨rfl, rfl⟩) | (go_at_call 167; go_in))
 refine hB.mono ?_
 rintro e w2 ⟨rfl, hq⟩
 obtain ⟨q0, q1, z0, z1⟩ := hQ w2 hq
 go_wp2
 -- the door: two deferred calls, the last laid first
 refine leaves_cons (f := 188) (args := #[.pointer (some ⟨r, 0, none⟩), .bool true]) (by simp) (by simp [go_sem]) ?_
 refine (store_deferred ⟨r, 0, none⟩ (.int .u32 0) .returning _ q0 z0).mono ?_
 rintro e u' w'' ⟨rfl, rfl, rfl⟩
 refine leaves_cons (f := 187) (args := #[.pointer (some ⟨r, 1, none⟩)]) (by simp [settle]) (by simp [go_sem]) ?_
 refine (unlock_deferred muLib ⟨r, 1, none⟩ _ _ ?_ (by simp [z1])).mono ?_
 · refine (World.cell?_setCell_other _ ⟨r, 0, none⟩ ⟨r, 1, none⟩ _ (by simp)).trans ?_
   rw [World.cell?_drew]
   exact q1
 rintro e u' w'' ⟨rfl, rfl, rfl⟩
 exact ⟨_, results_none rfl _ _ _, rfl, w2, hq, rfl⟩
set_option maxRecDepth 100000 in
set_option maxHeartbeats 1600000 in
theorem once_Do (r : Nat) (fv : Value) (args : Array Value) (hfv : fv = .func (.func 150) args #[]) (w : World) (Q : World → Prop)
   (h0 : w.cell? ⟨r, 0, none⟩ = some (.int .u32 0)) (h1 : w.cell? ⟨r, 1, none⟩ = some (.int .i32 0)) (f1 : w.frozen? ⟨r, 1, none⟩ = false)
   (hB : Calls Tryz.prog 150 args (w.setCell ⟨r, 1, none⟩ (.int .i32 1)) fun e w' => e = .returned (.tuple #[]) ∧ Q w')
   (hQ : ∀ w', Q w' → w'.cell? ⟨r, 0, none⟩ = some (.int .u32 0) ∧ w'.cell? ⟨r, 1, none⟩ = some (.int .i32 1) ∧ w'.frozen? ⟨r, 0, none⟩ = false ∧ w'.frozen? ⟨r, 1, none⟩ = false) :
   Calls Tryz.prog 149 #[.pointer (some ⟨r, 0, none⟩), fv] w fun e w' => e = .returned (.tuple #[]) ∧ ∃ w2, Q w2 ∧ w' = (w2.drew.setCell ⟨r, 0, none⟩ (.int .u32 1)).setCell ⟨r, 1, none⟩ (.int .i32 0) := by
 have hl := run_call_load (P := Tryz.prog) Tryz.func185 (by kernel_rfl) (by kernel_rfl) (by kernel_rfl) .u32 (by kernel_rfl) h0
 have hnot : ∀ (x : Bool) (w : World), (Op.unary .not (.bool x)).run Tryz.prog w = .ok (.bool (!x)) w := fun _ _ => rfl
 go_enter Tryz.func149, Tryz.ntmps149
 go_wp2_with (go_at_call 167; go_in)
 refine (once_slow r _ 150 args rfl rfl _ Q h0 h1 f1 hB hQ).mono ?_
 rintro e w' ⟨rfl, w2, hq, rfl⟩
 go_wp2
 go_end0
 exact ⟨rfl, w2, hq, rfl⟩
end Go.Proofs.YtbggbcnfkcadjaaGreatDoor
namespace Go.Proofs.YtbggbcnfkcadjaaGreatDoor
open Go.RowKit Go.Sort
set_option maxRecDepth 100000 in
set_option maxHeartbeats 1600000 in
theorem rep_Replace (r : Nat) (w : World) (s : ByteArray) (hr : RepNew w r) (hs : s.size ≤ 1000) :
   Calls Tryz.prog 126 #[.pointer (some ⟨r, 0, none⟩), .string s] w fun e w' => e = .returned (.string ⟨(escP s.toList).toArray⟩) ∧ Only w.heap.size r w w' := by
 obtain ⟨A, c, hb, hsl⟩ := hr
 have hlt := hb.lt
 have c0 : w.cell? ⟨r, 0, none⟩ = some (.int .u32 0) := hb.cell 0
 have c1 : w.cell? ⟨r, 1, none⟩ = some (.int .i32 0) := hb.cell 1
 have f1 := hb.frozen 1
 have hb1 : Blk (w.setCell ⟨r, 1, none⟩ (.int .i32 1)) r 206 #[.int .u32 0, .int .i32 1, .int .u32 0, .nilIface, .slice A 4 c] := hb.set 1 _
 have hB : Calls Tryz.prog 150 #[.pointer (some ⟨r, 0, none⟩)] (w.setCell ⟨r, 1, none⟩ (.int .i32 1)) fun e w' => e = .returned (.tuple #[]) ∧ (RepDone w' w.heap.size r (.int .u32 0) (.int .i32 1) (.int .u32 0) ∧ Only w.heap.size r w w') := by
   refine (rep_buildOnce r _ A c _ _ _ _ hb1 ?_).mono ?_
   · rw [World.size_setCell]
     exact (hsl.keep fun p hp => World.cell?_setCell_other w ⟨r, 1, none⟩ p _ (by rintro rfl; simp at hp)).more (Nat.le_of_lt hlt)
   · rintro e w' ⟨rfl, h1, h2⟩
     rw [World.size_setCell] at h1 h2
     exact ⟨rfl, h1, ((Only.refl _ _ _).setCell (p := ⟨r, 1, none⟩) (.inl rfl) _).trans h2⟩
 have hm : ∀ (a : Addr) (w : World), (method 447 250 (.pointer (some a)) "Replace").run Tryz.prog w = .ok (294, .pointer (some a)) w := fun _ _ => by kernel_rfl
 go_enter Tryz.func126, Tryz.ntmps126
 go_wp2_with fail
 refine (once_Do r _ #[.pointer (some ⟨r, 0, none⟩)] rfl w _ c0 c1 f1 hB ?_).mono ?_
 · rintro w' ⟨⟨g, hd, _⟩, _⟩
   exact ⟨hd.cell 0, hd.cell 1, hd.frozen 0, hd.frozen 1⟩
 rintro e w' ⟨rfl, w2, ⟨⟨g, hd, htab⟩, honly⟩, rfl⟩
 have hlt2 : r < w2.heap.size := hd.lt
 have hd4 : Blk ((w2.drew.setCell ⟨r, 0, none⟩ (.int .u32 1)).setCell ⟨r, 1, none⟩ (.int .i32 0)) r 206 #[.int .u32 1, .int .i32 0, .int .u32 0, .iface 250 (.pointer (some ⟨g, 0, none⟩)), .slice none 0 0] := (hd.drew.set 0 _).set 1 _
 have ht4 : RepTab ((w2.drew.setCell ⟨r, 0, none⟩ (.int .u32 1)).setCell ⟨r, 1, none⟩ (.int .i32 0)) w.heap.size ((w2.drew.setCell ⟨r, 0, none⟩ (.int .u32 1)).setCell ⟨r, 1, none⟩ (.int .i32 0)).heap.size g := by
   rw [World.size_setCell, World.size_setCell]
   exact htab.keep (by rw [World.size_setCell, World.size_setCell]; exact Nat.le_refl _) fun g i hg _ => (World.cell?_setCell_other _ ⟨r, 1, none⟩ ⟨g, i, none⟩ _ (by simp)).trans (World.cell?_setCell_other w2.drew ⟨r, 0, none⟩ ⟨g, i, none⟩ _ (by simp))
 have ho4 : Only w.heap.size r w ((w2.drew.setCell ⟨r, 0, none⟩ (.int .u32 1)).setCell ⟨r, 1, none⟩ (.int .i32 0)) := (honly.drew.setCell (p := ⟨r, 0, none⟩) (.inl rfl) _).setCell (p := ⟨r, 1, none⟩) (.inl rfl) _
 generalize hW : (w2.drew.setCell ⟨r, 0, none⟩ (.int .u32 1)).setCell ⟨r, 1, none⟩ (.int .i32 0) = W at hd4 ht4 ho4 ⊢
 clear hW hB hd htab honly hsl hb hb1 c0 c1 f1
 have c3 : W.cell? ⟨r, 3, none⟩ = some (.iface 250 (.pointer (some ⟨g, 0, none⟩))) := hd4.cell 3
 go_wp2_with fail
 refine (bsr_Replace g w.heap.size s W ht4 hs).mono ?_
 rintro e w' ⟨rfl, hbw⟩
 go_wp2_with fail
 go_ret
 exact ⟨rfl, ho4.trans (Only.of_below hbw (by have := ho4.size; exact this))⟩
set_option maxRecDepth 100000 in
set_option maxHeartbeats 1600000 in
theorem name_Quote (s : ByteArray) (w : World) (hs : s.size ≤ 140737488351232) :
   Calls Tryz.prog 92 #[.string s] w fun e w' => e = .returned (.tuple #[encStr (quoteV s.toList), errV (textErr s.toList)]) ∧ Below w.heap.size w w' := by
 by_cases he : textErr s.toList = 0
 · have h60 : s.size ≤ 1000 := by
     unfold textErr at he
     split at he
     · cases he
     · rename_i h; rw [toList_len] at h; omega
   have HE := Lib.hid he
   clear he
   have hP := name_Plain s
   rw [HE.out, errV_zero] at hP
   have HP := Lib.hid hP
   clear hP
   go_enter Tryz.func92, Tryz.ntmps92
   go_wp2_with fail
   refine (HP.out _ hs).mono ?_
   rintro e w1 ⟨rfl, hb1⟩
   go_wp2_with fail
   refine (rep_New w1.heap.size _ (by simp) ?_).mono ?_
   · intro i l hl
     rw [World.cell?_alloc_new]
     match i, hl with
     | 0, hl => cases hl; rfl
     | 1, hl => cases hl; rfl
     | 2, hl => cases hl; rfl
     | 3, hl => cases hl; rfl
   rintro e w2 ⟨r, rfl, hr, hrep, hb2⟩
   have hbel : Below w.heap.size w w2 := (hb1.alloc hb1.size _).trans (hb2.mono (by simp; have := hb1.size; omega))
   have hrw : w.heap.size ≤ r := by simp at hr; have := hb1.size; omega
   clear hb2 hr hb1
   go_wp2_with fail
   refine (rep_Replace r w2 s hrep h60).mono ?_
   rintro e w3 ⟨rfl, ho⟩
   have hqz : (⟨(escP s.toList).toArray⟩ : ByteArray).size ≤ 2000 := by
     show (escP s.toList).toArray.size ≤ 2000
     rw [List.size_toArray, escP_len]
     have := escN_le s.toList
     rw [toList_len] at this ⊢
     omega
   generalize hq : (⟨(escP s.toList).toArray⟩ : ByteArray) = qs at hqz ⊢
   have HQ := Lib.hid hq
   clear hq
   go_wp2_with fail
   go_ret2
   refine ⟨?_, hbel.trans (ho.below hbel.size hrw)⟩
   rw [quoteV, if_pos HE.out, HE.out, errV_zero, ← HQ.out]
   rfl
 · have hne : (textErr s.toList != 0) = true := by simp [he]
   have HE := Lib.hid he
   clear he
   go_enter Tryz.func92, Tryz.ntmps92
   go_wp2_with fail
   refine (name_Plain s _ hs).mono ?_
   rintro e w1 ⟨rfl, hb1⟩
   go_wp2_with fail
   go_ret2
   exact ⟨by rw [quoteV, if_neg HE.out]; rfl, hb1⟩
end Go.Proofs.YtbggbcnfkcadjaaGreatDoor
namespace Go.Proofs.YtbggbcnfkcadjaaGreatDoor
open Go.RowKit
theorem eql_tok (x y : Tk) (w : World) : (binOp .eql 42 (.agg #[.int .i64 x.kind, .string x.s, .int .i64 x.at_]) (.agg #[.int .i64 y.kind, .string y.s, .int .i64 y.at_])).run Tryz.prog w = .ok (.bool (tkEq x y)) w := by
 have u3 := Tryz.underlying3
 have us := Tryz.underlying9
 have a3 := Tryz.isAgg3
 have z3 := Tryz.sizeOf3
 have as1 := Tryz.isAgg9
 have zs1 := Tryz.sizeOf9
 have hS : Tryz.prog.underlying 42 = some (.struct (Tryz.prog.fieldsOf 42)) := by kernel_rfl
 have hp : Tryz.prog.stoodInHeld 42 = false := by kernel_rfl
 rw [run_eql_struct, show (10000 : Nat) = 9999 + 1 from rfl, run_equalIn_agg w 9999 42 _ _ hS hp]
 simp only [Program.fieldsOf, Tryz.underlying42]
 go_simp
 by_cases h1 : x.kind = y.kind <;> by_cases h2 : x.s.toList = y.s.toList <;> by_cases h3 : x.at_ = y.at_ <;> simp [tkEq, h1, h2, h3]
theorem bsOf_size (l : List UInt8) : (bsOf l).size = l.length := by show l.toArray.size = _; simp
theorem speltP_bad {x : Tk} {q : List Tk} {a : Nat} {k : Int} (h : ¬ (x.kind = 3 ∧ textErr x.s.toList ≠ 0)) (hq : readP (bsOf (speltT x)) = (q, a, k)) (hk : ¬ k = 0 ∨ ¬ q.length = 1) : speltP x = ([], false) := by
 rw [speltP, if_neg h, hq]
 match q, hk with
 | [], _ => rfl
 | [t], hk => simp only; rw [if_neg (by simpa using hk)]
 | _ :: _ :: _, _ => rfl
theorem speltP_ok {x t : Tk} {a : Nat} (h : ¬ (x.kind = 3 ∧ textErr x.s.toList ≠ 0)) (hq : readP (bsOf (speltT x)) = ([t], a, 0)) : speltP x = (speltT x, tkEq t ⟨x.kind, x.s, 0⟩) := by
 rw [speltP, if_neg h, hq]; rfl
theorem speltT_len (x : Tk) (hx : x.s.size ≤ 140737488351232) : (bsOf (speltT x)).size ≤ 140737488351300 := by
 rw [bsOf_size]
 unfold speltT
 split
 · have := quoteV_len x.s.toList; omega
 · split
   · rw [List.length_cons, toList_len]; omega
   · rw [toList_len]; omega
structure SpAt (x : Tk) (W w : World) : Prop where
 on : Below W.heap.size W w
 c0 : w.cell? ⟨W.heap.size, 0, none⟩ = some (.int .i64 x.kind)
 c1 : w.cell? ⟨W.heap.size, 1, none⟩ = some (.string x.s)
 lt : W.heap.size < w.heap.size
theorem SpAt.new (x : Tk) (W : World) : SpAt x W (W.alloc (.cells #[.int .i64 x.kind, .string x.s, .int .i64 x.at_] 42)) :=
 ⟨(Below.refl _ _).alloc (Nat.le_refl _) _, by rw [World.cell?_alloc_new]; rfl, by rw [World.cell?_alloc_new]; rfl, by simp⟩
theorem SpAt.later {x : Tk} {W w w' : World} (h : SpAt x W w) (hb : Below w.heap.size w w') : SpAt x W w' :=
 ⟨h.on.trans (hb.mono h.on.size), (hb.cell (p := ⟨W.heap.size, 0, none⟩) h.lt).trans h.c0, (hb.cell (p := ⟨W.heap.size, 1, none⟩) h.lt).trans h.c1, Nat.lt_of_lt_of_le h.lt hb.size⟩
set_option maxRecDepth 100000 in
set_option maxHeartbeats 3200000 in
theorem word_spelt3 (x : Tk) (w : World) (hx : x.s.size ≤ 140737488351232) (h3 : x.kind = 3) (he : textErr x.s.toList = 0) :
   Calls Tryz.prog 56 #[.agg #[.int .i64 x.kind, .string x.s, .int .i64 x.at_]] w fun e w' => e = .returned (.tuple #[encStr (speltP x).1, .bool (speltP x).2]) ∧ Below w.heap.size w w' := by
 have t3 : (x.kind == 3) = true := by simp [h3]
 have hT : encStr (quoteV x.s.toList) = .string (bsOf (speltT x)) := by rw [speltT, if_pos h3]; rfl
 have hn : ¬ (x.kind = 3 ∧ textErr x.s.toList ≠ 0) := fun h => h.2 he
 have hq0 := name_Quote x.s
 rw [hT, he, errV_zero] at hq0
 have HQ0 := Lib.hid hq0
 clear hq0 hT
 obtain ⟨q, a, k, hq⟩ : ∃ q a k, readP (bsOf (speltT x)) = (q, a, k) := ⟨_, _, _, rfl⟩
 obtain ⟨r, hr⟩ : ∃ r, speltP x = r := ⟨_, rfl⟩
 have hR0 := fun W => word_ReadX (bsOf (speltT x)) W (speltT_len x hx)
 rw [hq] at hR0
 have HR := Lib.hid hR0
 rw [hr]
 clear hR0
 by_cases hk : k = 0
 · by_cases hl : q.length = 1
   · obtain ⟨t, rfl⟩ : ∃ t, q = [t] := by
       match q, hl with
       | [t], _ => exact ⟨t, rfl⟩
     subst hk
     have hv := speltP_ok hn hq
     rw [hr] at hv
     have HV := Lib.hid hv
     clear hr hn hq hv hl h3 he
     go_enter Tryz.func56, Tryz.ntmps56
     go_wp2_with fail
     refine (HQ0.out _ (by omega)).mono ?_
     rintro e w1 ⟨rfl, hb1⟩
     have hsp := (SpAt.new x w).later hb1
     clear hb1
     go_wp2_with fail
     refine Calls.mono (HR.out _) ?_
     rintro r2 w2 ⟨A, c, rfl, hnc, hcm, hs, hb2⟩
     have hsp2 := hsp.later hb2
     clear hb2 hsp
     obtain ⟨hon, d0, d1, hlt⟩ := hsp2
     obtain ⟨b, o, rfl, hbl, ⟨e0, e1, e2⟩⟩ := tkSl_at hs (i := 0) (x := t) rfl
     rw [Nat.zero_mul, Nat.add_zero] at e0 e1 e2
     have heq := fun W => eql_tok t ⟨x.kind, x.s, 0⟩ W
     clear hs
     go_wp2_with fail
     go_quiet (fail)
     go_wp2_with fail
     go_ret2
     rw [HV.out]
     exact ⟨rfl, below_drewN hon _⟩
   · have hl1 : ((q.length : Int) != 1) = true := by rw [bne_iff_ne]; omega
     have hk0 : (k != 0) = false := by simp [hk]
     have hv := speltP_bad hn hq (.inr hl)
     rw [hr] at hv
     have HV := Lib.hid hv
     clear hr hn hq hv hl hk h3 he
     go_enter Tryz.func56, Tryz.ntmps56
     go_wp2_with fail
     refine (HQ0.out _ (by omega)).mono ?_
     rintro e w1 ⟨rfl, hb1⟩
     have hsp := (SpAt.new x w).later hb1
     clear hb1
     go_wp2_with fail
     refine Calls.mono (HR.out _) ?_
     rintro r2 w2 ⟨A, c, rfl, hnc, hcm, hs, hb2⟩
     have hsp2 := hsp.later hb2
     clear hb2 hsp
     obtain ⟨hon, d0, d1, hlt⟩ := hsp2
     go_wp2_with fail
     go_ret2
     rw [HV.out]
     exact ⟨rfl, hon⟩
 · have hk0 : (k != 0) = true := by simp [hk]
   have hv := speltP_bad hn hq (.inl hk)
   rw [hr] at hv
   have HV := Lib.hid hv
   clear hr hn hq hv hk h3 he
   go_enter Tryz.func56, Tryz.ntmps56
   go_wp2_with fail
   refine (HQ0.out _ (by omega)).mono ?_
   rintro e w1 ⟨rfl, hb1⟩
   have hsp := (SpAt.new x w).later hb1
   clear hb1
   go_wp2_with fail
   refine Calls.mono (HR.out _) ?_
   rintro r2 w2 ⟨A, c, rfl, hnc, hcm, hs, hb2⟩
   have hsp2 := hsp.later hb2
   clear hb2 hsp
   obtain ⟨hon, d0, d1, hlt⟩ := hsp2
   go_wp2_with fail
   go_ret2
   rw [HV.out]
   exact ⟨rfl, hon⟩
set_option maxRecDepth 100000 in
set_option maxHeartbeats 3200000 in
theorem word_spelt4 (x : Tk) (w : World) (hx : x.s.size ≤ 140737488351232) (h3 : ¬ x.kind = 3) (h4 : x.kind = 4) :
   Calls Tryz.prog 56 #[.agg #[.int .i64 x.kind, .string x.s, .int .i64 x.at_]] w fun e w' => e = .returned (.tuple #[encStr (speltP x).1, .bool (speltP x).2]) ∧ Below w.heap.size w w' := by
 have t3 : (x.kind == 3) = false := by simp [h3]
 have t4 : (x.kind == 4) = true := by simp [h4]
 have hT : (⟨#[63]⟩ : ByteArray) ++ x.s = bsOf (speltT x) := by
   rw [speltT, if_neg h3, if_pos h4]
   apply ByteArray.ext
   rw [ByteArray.data_append, ByteArray.toList_eq]
   show _ = (63 :: x.s.data.toList).toArray
   apply Array.toList_inj.1
   simp
 have hn : ¬ (x.kind = 3 ∧ textErr x.s.toList ≠ 0) := fun h => h3 h.1
 obtain ⟨q, a, k, hq⟩ : ∃ q a k, readP (bsOf (speltT x)) = (q, a, k) := ⟨_, _, _, rfl⟩
 obtain ⟨r, hr⟩ : ∃ r, speltP x = r := ⟨_, rfl⟩
 have hR0 := fun W => word_ReadX (bsOf (speltT x)) W (speltT_len x hx)
 rw [hq] at hR0
 have HT := Lib.hid hT
 clear hT
 have HR := Lib.hid hR0
 rw [hr]
 clear hR0
 by_cases hk : k = 0
 · by_cases hl : q.length = 1
   · obtain ⟨t, rfl⟩ : ∃ t, q = [t] := by
       match q, hl with
       | [t], _ => exact ⟨t, rfl⟩
     subst hk
     have hv := speltP_ok hn hq
     rw [hr] at hv
     have HV := Lib.hid hv
     clear hr hn hq hv hl h3 h4
     go_enter Tryz.func56, Tryz.ntmps56
     go_wp2_with fail
     rw [HT.out]
     have hsp := SpAt.new x w
     refine Calls.mono (HR.out _) ?_
     rintro r2 w2 ⟨A, c, rfl, hnc, hcm, hs, hb2⟩
     have hsp2 := hsp.later hb2
     clear hb2 hsp
     obtain ⟨hon, d0, d1, hlt⟩ := hsp2
     obtain ⟨b, o, rfl, hbl, ⟨e0, e1, e2⟩⟩ := tkSl_at hs (i := 0) (x := t) rfl
     rw [Nat.zero_mul, Nat.add_zero] at e0 e1 e2
     have heq := fun W => eql_tok t ⟨x.kind, x.s, 0⟩ W
     clear hs
     go_wp2_with fail
     go_quiet (fail)
     go_wp2_with fail
     go_ret2
     rw [HV.out]
     exact ⟨rfl, below_drewN hon _⟩
   · have hl1 : ((q.length : Int) != 1) = true := by rw [bne_iff_ne]; omega
     have hk0 : (k != 0) = false := by simp [hk]
     have hv := speltP_bad hn hq (.inr hl)
     rw [hr] at hv
     have HV := Lib.hid hv
     clear hr hn hq hv hl hk h3 h4
     go_enter Tryz.func56, Tryz.ntmps56
     go_wp2_with fail
     rw [HT.out]
     have hsp := SpAt.new x w
     refine Calls.mono (HR.out _) ?_
     rintro r2 w2 ⟨A, c, rfl, hnc, hcm, hs, hb2⟩
     have hsp2 := hsp.later hb2
     clear hb2 hsp
     obtain ⟨hon, d0, d1, hlt⟩ := hsp2
     go_wp2_with fail
     go_ret2
     rw [HV.out]
     exact ⟨rfl, hon⟩
 · have hk0 : (k != 0) = true := by simp [hk]
   have hv := speltP_bad hn hq (.inl hk)
   rw [hr] at hv
   have HV := Lib.hid hv
   clear hr hn hq hv hk h3 h4
   go_enter Tryz.func56, Tryz.ntmps56
   go_wp2_with fail
   rw [HT.out]
   have hsp := SpAt.new x w
   refine Calls.mono (HR.out _) ?_
   rintro r2 w2 ⟨A, c, rfl, hnc, hcm, hs, hb2⟩
   have hsp2 := hsp.later hb2
   clear hb2 hsp
   obtain ⟨hon, d0, d1, hlt⟩ := hsp2
   go_wp2_with fail
   go_ret2
   rw [HV.out]
   exact ⟨rfl, hon⟩
set_option maxRecDepth 100000 in
set_option maxHeartbeats 3200000 in
theorem word_spelt0 (x : Tk) (w : World) (hx : x.s.size ≤ 140737488351232) (h3 : ¬ x.kind = 3) (h4 : ¬ x.kind = 4) :
   Calls Tryz.prog 56 #[.agg #[.int .i64 x.kind, .string x.s, .int .i64 x.at_]] w fun e w' => e = .returned (.tuple #[encStr (speltP x).1, .bool (speltP x).2]) ∧ Below w.heap.size w w' := by
 have t3 : (x.kind == 3) = false := by simp [h3]
 have t4 : (x.kind == 4) = false := by simp [h4]
 have hT : x.s = bsOf (speltT x) := by
   rw [speltT, if_neg h3, if_neg h4, ByteArray.toList_eq]; rfl
 have hn : ¬ (x.kind = 3 ∧ textErr x.s.toList ≠ 0) := fun h => h3 h.1
 obtain ⟨q, a, k, hq⟩ : ∃ q a k, readP (bsOf (speltT x)) = (q, a, k) := ⟨_, _, _, rfl⟩
 obtain ⟨r, hr⟩ : ∃ r, speltP x = r := ⟨_, rfl⟩
 have hR0 := fun W => word_ReadX x.s W (by omega)
 rw [show readP x.s = (q, a, k) by rw [← hq, ← hT]] at hR0
 have HS := Lib.hid (show Value.string x.s = encStr (speltT x) by rw [encStr_bs, ← hT])
 clear hT
 have HR := Lib.hid hR0
 rw [hr]
 clear hR0
 by_cases hk : k = 0
 · by_cases hl : q.length = 1
   · obtain ⟨t, rfl⟩ : ∃ t, q = [t] := by
       match q, hl with
       | [t], _ => exact ⟨t, rfl⟩
     subst hk
     have hv := speltP_ok hn hq
     rw [hr] at hv
     have HV := Lib.hid hv
     clear hr hn hq hv hl h3 h4
     go_enter Tryz.func56, Tryz.ntmps56
     go_wp2_with fail
     have hsp := SpAt.new x w
     refine Calls.mono (HR.out _) ?_
     rintro r2 w2 ⟨A, c, rfl, hnc, hcm, hs, hb2⟩
     have hsp2 := hsp.later hb2
     clear hb2 hsp
     obtain ⟨hon, d0, d1, hlt⟩ := hsp2
     obtain ⟨b, o, rfl, hbl, ⟨e0, e1, e2⟩⟩ := tkSl_at hs (i := 0) (x := t) rfl
     rw [Nat.zero_mul, Nat.add_zero] at e0 e1 e2
     have heq := fun W => eql_tok t ⟨x.kind, x.s, 0⟩ W
     clear hs
     go_wp2_with fail
     go_quiet (fail)
     go_wp2_with fail
     go_ret2
     rw [HV.out, ← HS.out]
     exact ⟨rfl, below_drewN hon _⟩
   · have hl1 : ((q.length : Int) != 1) = true := by rw [bne_iff_ne]; omega
     have hk0 : (k != 0) = false := by simp [hk]
     have hv := speltP_bad hn hq (.inr hl)
     rw [hr] at hv
     have HV := Lib.hid hv
     clear hr hn hq hv hl hk h3 h4
     go_enter Tryz.func56, Tryz.ntmps56
     go_wp2_with fail
     have hsp := SpAt.new x w
     refine Calls.mono (HR.out _) ?_
     rintro r2 w2 ⟨A, c, rfl, hnc, hcm, hs, hb2⟩
     have hsp2 := hsp.later hb2
     clear hb2 hsp
     obtain ⟨hon, d0, d1, hlt⟩ := hsp2
     go_wp2_with fail
     go_ret2
     rw [HV.out]
     exact ⟨rfl, hon⟩
 · have hk0 : (k != 0) = true := by simp [hk]
   have hv := speltP_bad hn hq (.inl hk)
   rw [hr] at hv
   have HV := Lib.hid hv
   clear hr hn hq hv hk h3 h4
   go_enter Tryz.func56, Tryz.ntmps56
   go_wp2_with fail
   have hsp := SpAt.new x w
   refine Calls.mono (HR.out _) ?_
   rintro r2 w2 ⟨A, c, rfl, hnc, hcm, hs, hb2⟩
   have hsp2 := hsp.later hb2
   clear hb2 hsp
   obtain ⟨hon, d0, d1, hlt⟩ := hsp2
   go_wp2_with fail
   go_ret2
   rw [HV.out]
   exact ⟨rfl, hon⟩
set_option maxRecDepth 100000 in
set_option maxHeartbeats 1600000 in
theorem word_spelt (x : Tk) (w : World) (hx : x.s.size ≤ 140737488351232) :
   Calls Tryz.prog 56 #[.agg #[.int .i64 x.kind, .string x.s, .int .i64 x.at_]] w fun e w' => e = .returned (.tuple #[encStr (speltP x).1, .bool (speltP x).2]) ∧ Below w.heap.size w w' := by
 by_cases h3 : x.kind = 3
 · by_cases he : textErr x.s.toList = 0
   · exact word_spelt3 x w hx h3 he
   · have t3 : (x.kind == 3) = true := by simp [h3]
     have HQ := Lib.hid (name_Quote x.s)
     have hne : (textErr x.s.toList != 0) = true := by simp [he]
     obtain ⟨r, hr⟩ : ∃ r, speltP x = r := ⟨_, rfl⟩
     have HR : Hid (r = ([], false)) := by show _ = _; rw [← hr, speltP, if_pos ⟨h3, he⟩]
     rw [hr]
     clear hr h3 he
     go_enter Tryz.func56, Tryz.ntmps56
     go_wp2_with fail
     refine (HQ.out _ (by omega)).mono ?_
     rintro e w1 ⟨rfl, hb1⟩
     go_wp2_with fail
     go_ret2
     rw [HR.out]
     exact ⟨rfl, ((Below.refl _ _).alloc (Nat.le_refl _) _).trans (hb1.mono (by simp))⟩
 · by_cases h4 : x.kind = 4
   · exact word_spelt4 x w hx h3 h4
   · exact word_spelt0 x w hx h3 h4
end Go.Proofs.YtbggbcnfkcadjaaGreatDoor
