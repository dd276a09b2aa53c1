/-
  THE WALKS: package word: small functions; 'while'.
-/
import Derived.Test.YtbommoefpekalaaGreatDoorNames
import Derived.Test.YtbommoefpekalaaGreatDoorNodes
import Derived.Test.YtbommoefpekalaaGreatDoorMem
import Derived.Test.YtbommoefpekalaaGreatDoorRegHd
import Derived.Test.YtbommoefpekalaaGreatDoorWPlain
import Derived.Deep.LoopGhost
import Derived.Shelf.Abstract
import Derived.BigQuiet
namespace Go.Proofs.YtbommoefpekalaaGreatDoor
open Go.RowKit

set_option maxRecDepth 100000 in
set_option maxHeartbeats 400000 in
theorem word_digit (b : Int) (w : World) :
    Calls Tryz.prog 59 #[.int .u8 b] w fun e w' => e = .returned (.bool (digitI b)) ∧ w = w' := by
  go_enter Tryz.func59, Tryz.ntmps59
  go_wp2
  all_goals (go_ret; exact ⟨ret_bool (by rw [Bool.eq_iff_iff]; simp [digitI]; omega), rfl⟩)
def nameI (b : Int) : Bool := letterI b || digitI b
set_option maxRecDepth 100000 in
set_option maxHeartbeats 400000 in
theorem word_inName (b : Int) (w : World) :
    Calls Tryz.prog 61 #[.int .u8 b] w fun e w' => e = .returned (.bool (nameI b)) ∧ w = w' := by
  go_enter Tryz.func61, Tryz.ntmps61
  go_wp2_with (go_at_call 59; refine (word_digit _ _).mono ?_; rintro e w' ⟨rfl, rfl⟩)
  all_goals (go_ret; exact ⟨ret_bool (by rw [Bool.eq_iff_iff]; simp [nameI, letterI, digitI]; try omega), rfl⟩)
set_option maxRecDepth 100000 in
set_option maxHeartbeats 400000 in
theorem word_blank (b : Int) (w : World) :
    Calls Tryz.prog 30 #[.int .u8 b] w fun e w' => e = .returned (.bool (b == 32)) ∧ w = w' := by
  go_enter Tryz.func30, Tryz.ntmps30
  go_wp2
  all_goals (go_ret; exact ⟨rfl, rfl⟩)
/-- A predicate on bytes. -/
structure PB (g : Nat) (p : Int → Bool) : Prop where
  ent : ∀ (args : Array Value) (w : World), (callFunc g args).run Tryz.prog w = .ok (.enter g args) w
  call : ∀ (b : Int) (w : World), Calls Tryz.prog g #[.int .u8 b] w fun e w' => e = .returned (.bool (p b)) ∧ w = w'
theorem pb_digit : PB 59 digitI := ⟨enters_of Tryz.func59 (by kernel_rfl) rfl, word_digit⟩
theorem pb_inName : PB 61 nameI := ⟨enters_of Tryz.func61 (by kernel_rfl) rfl, word_inName⟩
theorem pb_blank : PB 30 (· == 32) := ⟨enters_of Tryz.func30 (by kernel_rfl) rfl, word_blank⟩

/-- How far bytes are so. -/
def runL (p : Int → Bool) (s : ByteArray) (i : Nat) : Nat := i + ((s.toList.drop i).takeWhile fun c => p (c.toNat : Int)).length
theorem runL_hit {p : Int → Bool} {s : ByteArray} {i : Nat} (h : i < s.size) (hp : p (s[i].toNat : Int) = true) : runL p s i = runL p s (i + 1) := by
  unfold runL
  have h2 : i < s.toList.length := by rw [toList_len]; exact h
  have h1 := toList_get s i h
  rw [List.getElem?_eq_getElem h2] at h1
  injection h1 with h1
  rw [List.drop_eq_getElem_cons h2, h1, List.takeWhile_cons_of_pos (by simpa using hp), List.length_cons]; omega
theorem runL_miss {p : Int → Bool} {s : ByteArray} {i : Nat} (h : i < s.size) (hp : p (s[i].toNat : Int) = false) : runL p s i = i := by
  unfold runL
  have h2 : i < s.toList.length := by rw [toList_len]; exact h
  have h1 := toList_get s i h
  rw [List.getElem?_eq_getElem h2] at h1
  injection h1 with h1
  rw [List.drop_eq_getElem_cons h2, h1, List.takeWhile_cons_of_neg (by simpa using hp)]; rfl
theorem runL_end {p : Int → Bool} {s : ByteArray} {i : Nat} (h : s.size ≤ i) : runL p s i = i := by
  unfold runL
  rw [List.drop_eq_nil_of_le (by rw [toList_len]; exact h)]; rfl
theorem runL_le (p : Int → Bool) (s : ByteArray) {i : Nat} (h : i ≤ s.size) : runL p s i ≤ s.size := by
  unfold runL
  have := List.IsPrefix.length_le (List.takeWhile_prefix (fun c : UInt8 => p (c.toNat : Int)) (l := s.toList.drop i))
  rw [List.length_drop, toList_len] at this
  omega
theorem runL_ge (p : Int → Bool) (s : ByteArray) (i : Nat) : i ≤ runL p s i := by unfold runL; omega

theorem run_index_str (s : ByteArray) (j : Nat) (hj : j < s.size) (W : World) : (Instr.index 9 (.string s) (.int .i64 (j : Int))).run Tryz.prog W = .ok (.int .u8 (s[j].toNat : Int)) W := by
  go_simp
def rdS (s : ByteArray) (i : Nat) : Array Value := #[.string s, .int .i64 i]
theorem rdS_step {w : World} {rb i j : Nat} {s : ByteArray} {T : TypeId} (h : Blk w rb T (rdS s i)) : Blk (w.setCell ⟨rb, 1, none⟩ (.int .i64 (j : Int))) rb T (rdS s j) := h.set 1 _

set_option maxRecDepth 100000 in
set_option maxHeartbeats 1600000 in
theorem word_while (g : Nat) (p : Int → Bool) (hp : PB g p) (s : ByteArray) (i rb : Nat) (w : World) (hs : s.size ≤ 140737488351232) (hi : i ≤ s.size) (hb : Blk w rb 74 (rdS s i)) :
    Calls Tryz.prog 29 #[.pointer (some ⟨rb, 0, none⟩), .func (.func g) #[] #[]] w fun e w' => e = .returned (.string (s.extract i (runL p s i))) ∧ Blk w' rb 74 (rdS s (runL p s i)) ∧ Only w.heap.size rb w w' := by
  have hrb := hb.lt
  have k0 : w.cell? ⟨rb, 0, none⟩ = some (.string s) := hb.cell 0
  have k1 : w.cell? ⟨rb, 1, none⟩ = some (.int .i64 i) := hb.cell 1
  have eg := hp.ent
  have HPC := Lib.hid hp.call
  have HB := Lib.hid hb
  clear hb
  go_enter Tryz.func29, Tryz.ntmps29
  go_wp2_with fail
  go_loopg [] s.size (fun gg wr => ∃ k : Nat, i ≤ k ∧ k ≤ s.size ∧ s.size - k ≤ gg ∧ Hid (runL p s k = runL p s i) ∧ Hid (Blk wr rb 74 (rdS s k)) ∧ Hid (Only w.heap.size rb w wr))
  case atStart => exact ⟨i, Nat.le_refl _, hi, by omega, rfl, HB.out, Only.refl _ _ _⟩
  case round =>
    obtain ⟨k, hik, hk, hgg, HK, HBk, HOk⟩ := hrel
    have hrbw : rb < wr.heap.size := HBk.out.lt
    have c0 : wr.cell? ⟨rb, 0, none⟩ = some (.string s) := HBk.out.cell 0
    have c1 : wr.cell? ⟨rb, 1, none⟩ = some (.int .i64 k) := HBk.out.cell 1
    have z1 : wr.frozen? ⟨rb, 1, none⟩ = false := HBk.out.frozen 1
    clear k0 k1
    by_cases hlt : k < s.size
    · have hcall := HPC.out (s[k].toNat : Int)
      by_cases hp1 : p (s[k].toNat : Int) = true
      · rw [hp1] at hcall
        have hq : ∀ W, Calls Tryz.prog g #[.int .u8 (s[k].toNat : Int)] W fun e w' => e = .returned (.bool true) ∧ w' = W := fun W => (hcall W).mono fun _ _ ⟨a, b⟩ => ⟨a, b.symm⟩
        have HQ := Lib.hid hq
        have HK2 : Hid (runL p s (k + 1) = runL p s i) := by show _ = _; rw [← runL_hit hlt hp1]; exact HK.out
        have hd : decide ((k : Int) < (s.size : Int)) = true := by simp; omega
        clear hcall hp1 hq
        go_wp2_with fail
        go_quiet ((go_at_fn g; exact Calls.quiet_of_same (HQ.out _)))
        go_wp2_with fail
        go_roundg (s.size - (k + 1))
        case measure => omega
        case rel => exact ⟨k + 1, by omega, by omega, by omega, HK2, rdS_step (HBk.out.drewN _), (HOk.out.drewN _).setCell (.inl rfl) _⟩
      · have hp1 : p (s[k].toNat : Int) = false := by simpa using hp1
        rw [hp1] at hcall
        have hq : ∀ W, Calls Tryz.prog g #[.int .u8 (s[k].toNat : Int)] W fun e w' => e = .returned (.bool false) ∧ w' = W := fun W => (hcall W).mono fun _ _ ⟨a, b⟩ => ⟨a, b.symm⟩
        have HQ := Lib.hid hq
        have HK2 : Hid (runL p s i = k) := by show _ = _; rw [← HK.out]; exact runL_miss hlt hp1
        have hd : decide ((k : Int) < (s.size : Int)) = true := by simp; omega
        clear hcall hp1 hq
        go_wp2_with fail
        go_quiet ((go_at_fn g; exact Calls.quiet_of_same (HQ.out _)))
        go_wp2_with fail
        go_quiet (fail)
        go_wp2_with fail
        go_ret
        rw [HK2.out]
        exact ⟨rfl, (HBk.out.drewN _).drewN _, (HOk.out.drewN _).drewN _⟩
    · have HK2 : Hid (runL p s i = k) := by show _ = _; rw [← HK.out]; exact runL_end (by omega)
      have hd : decide ((k : Int) < (s.size : Int)) = false := by simp; omega
      go_wp2_with fail
      go_quiet (fail)
      go_wp2_with fail
      go_quiet (fail)
      go_wp2_with fail
      go_ret
      rw [HK2.out]
      exact ⟨rfl, (HBk.out.drewN _).drewN _, (HOk.out.drewN _).drewN _⟩
end Go.Proofs.YtbommoefpekalaaGreatDoor
