/-
  THE WALKS: package word: named, sign.
-/
import Derived.Test.YtbommoefpekalaaGreatDoorWord1
import Derived.Test.YtbommoefpekalaaGreatDoorStrs0
namespace Go.Proofs.YtbommoefpekalaaGreatDoor
open Go.RowKit Go.Sort

def faultV (k : Int) (i : Nat) : List PanicEntry := [{ v := .iface 71 (.agg #[.int .i64 k, .int .i64 i]), recovered := false }]
theorem eql_err4 (k : Int) (h : k = 1 ∨ k = 4) (w : World) : (binOp .eql 24 (errV k) (.iface 29 (.int .i64 4))).run Tryz.prog w = .ok (.bool (k == 4)) w := by
  rcases h with rfl | rfl <;> kernel_rfl
@[go_sem] theorem guard_held (x y : Operand) (k : Int) (T : TypeId) (v : Value) (w : World) : (eqGuard .eql 24 x y (errV k) (.iface T v)).run Tryz.prog w = .ok () w := by
  by_cases h : k = 0
  · subst h; rw [errV_zero]; simp [eqGuard]
  · rw [errV_pos h]; simp [eqGuard]
theorem nameErr_cases (l : List UInt8) : nameErr l = 0 ∨ nameErr l = 1 ∨ nameErr l = 4 := by
  unfold nameErr
  repeat' split
  all_goals simp

set_option maxRecDepth 100000 in
set_option maxHeartbeats 1600000 in
theorem word_named_ok (s : ByteArray) (kind : Int) (i fr rb : Nat) (w : World) (hs : s.size ≤ 140737488351232) (hi : i ≤ s.size) (hb : Blk w rb 74 (rdS s i))
    (hne : nameErr (s.extract i (runL nameI s i)).toList = 0) :
    Calls Tryz.prog 62 #[.pointer (some ⟨rb, 0, none⟩), .int .i64 kind, .int .i64 fr] w fun e w' => e = .returned (.agg #[.int .i64 kind, .string (s.extract i (runL nameI s i)), .int .i64 fr]) ∧ Blk w' rb 74 (rdS s (runL nameI s i)) ∧ Only w.heap.size rb w w' := by
  have hle := runL_le nameI s hi
  have hge := runL_ge nameI s i
  have hxs : (s.extract i (runL nameI s i)).size ≤ 140737488351232 := by rw [ByteArray.size_extract]; omega
  have HW := Lib.hid (fun W (hW : Blk W rb 74 (rdS s i)) => word_while 61 nameI pb_inName s i rb W hs hi hW)
  have HC := Lib.hid (fun W => name_Check (s.extract i (runL nameI s i)) W hxs)
  rw [hne] at HC
  have HB := Lib.hid (hb.alloc (.cells #[.int .i64 0, .string ⟨#[]⟩, .int .i64 0] 28))
  have hrb := hb.lt
  generalize s.extract i (runL nameI s i) = x at HW HC hxs ⊢
  generalize runL nameI s i = j at HW hle hge ⊢
  clear hb hne
  go_enter Tryz.func62, Tryz.ntmps62
  go_wp2_with fail
  refine Calls.mono (HW.out _ HB.out) ?_
  rintro r w1 ⟨rfl, hb1, ho1⟩
  go_wp2_with fail
  refine Calls.mono (HC.out _) ?_
  rintro r w2 ⟨rfl, hb2⟩
  have hrw : w.heap.size < w1.heap.size := by have := ho1.size; simp at this; omega
  have c0 : w2.cell? ⟨w.heap.size, 0, none⟩ = some (.int .i64 0) := by
    rw [hb2.cell (p := ⟨w.heap.size, 0, none⟩) hrw, ho1.cell (p := ⟨w.heap.size, 0, none⟩) (by simp) (by simp; omega)]; simp [go_sem]
  have hB2 : Hid (Blk w2 w.heap.size 28 #[.int .i64 0, .string ⟨#[]⟩, .int .i64 0]) := ((Blk.new w 28 _).only ho1 (by simp) (by omega)).below hb2 hrw
  have f0 := hB2.out.frozen
  have k0 := hB2.out.cell
  go_wp2_with fail
  have hbl : Blk w2 rb 74 (rdS s j) := hb1.below hb2 hb1.lt
  have hne2 : rb ≠ w.heap.size := by omega
  have ho2 : Only w.heap.size rb w w2 := (((Only.refl w.heap.size rb w).alloc (Nat.le_refl _) _).trans (ho1.mono (by simp))).trans (Only.of_below hb2 (by omega))
  exact bodyPost_ret (v := .agg #[.int .i64 kind, .string x, .int .i64 fr]) (by simp [results, Tryz.results62, go_sem, k0]) rfl ⟨rfl, ((hbl.far hne2 _).far hne2 _).far hne2 _, by (repeat (first | assumption | exact Only.refl _ _ _ | apply Only.drew | apply Only.drewN | (refine Only.alloc ?_ (by first | exact Nat.le_refl _ | omega | (simp; done) | (simp; omega)) _) | (refine Only.setCell ?_ (by first | exact .inl rfl | exact .inr (Nat.le_refl _) | exact .inr (by first | omega | (simp; omega))) _)))⟩

set_option maxRecDepth 100000 in
set_option maxHeartbeats 1600000 in
theorem word_named_bad (s : ByteArray) (kind k : Int) (i fr rb : Nat) (w : World) (hs : s.size ≤ 140737488351232) (hi : i ≤ s.size) (hb : Blk w rb 74 (rdS s i))
    (hne : nameErr (s.extract i (runL nameI s i)).toList = k) (hk : k = 1 ∨ k = 4) :
    Calls Tryz.prog 62 #[.pointer (some ⟨rb, 0, none⟩), .int .i64 kind, .int .i64 fr] w fun e w' => e = .panicked (faultV k fr) ∧ Only w.heap.size rb w w' := by
  have hle := runL_le nameI s hi
  have hge := runL_ge nameI s i
  have hxs : (s.extract i (runL nameI s i)).size ≤ 140737488351232 := by rw [ByteArray.size_extract]; omega
  have HW := Lib.hid (fun W (hW : Blk W rb 74 (rdS s i)) => word_while 61 nameI pb_inName s i rb W hs hi hW)
  have HC := Lib.hid (fun W => name_Check (s.extract i (runL nameI s i)) W hxs)
  rw [hne] at HC
  have HB := Lib.hid (hb.alloc (.cells #[.int .i64 0, .string ⟨#[]⟩, .int .i64 0] 28))
  have hrb := hb.lt
  have he4 := eql_err4 k hk
  have hk0 : (k == 0) = false := by rcases hk with rfl | rfl <;> rfl
  generalize s.extract i (runL nameI s i) = x at HW HC hxs
  generalize runL nameI s i = j at HW hle hge
  clear hb hne
  rcases hk with rfl | rfl
  · have h1 : ((1 : Int) == 4) = false := rfl
    go_enter Tryz.func62, Tryz.ntmps62
    go_wp2_with fail
    refine Calls.mono (HW.out _ HB.out) ?_
    rintro r w1 ⟨rfl, hb1, ho1⟩
    go_wp2_with fail
    refine Calls.mono (HC.out _) ?_
    rintro r w2 ⟨rfl, hb2⟩
    have ho2 : Only w.heap.size rb w w2 := (((Only.refl w.heap.size rb w).alloc (Nat.le_refl _) _).trans (ho1.mono (by simp))).trans (Only.of_below hb2 (by have := ho1.size; simp at this; omega))
    go_wp2_with fail
    exact ⟨rfl, rfl, by (repeat (first | assumption | exact Only.refl _ _ _ | apply Only.drew | apply Only.drewN | (refine Only.alloc ?_ (by first | exact Nat.le_refl _ | omega | (simp; done) | (simp; omega)) _) | (refine Only.setCell ?_ (by first | exact .inl rfl | exact .inr (Nat.le_refl _) | exact .inr (by first | omega | (simp; omega))) _)))⟩
  · have h1 : ((4 : Int) == 4) = true := rfl
    go_enter Tryz.func62, Tryz.ntmps62
    go_wp2_with fail
    refine Calls.mono (HW.out _ HB.out) ?_
    rintro r w1 ⟨rfl, hb1, ho1⟩
    go_wp2_with fail
    refine Calls.mono (HC.out _) ?_
    rintro r w2 ⟨rfl, hb2⟩
    have ho2 : Only w.heap.size rb w w2 := (((Only.refl w.heap.size rb w).alloc (Nat.le_refl _) _).trans (ho1.mono (by simp))).trans (Only.of_below hb2 (by have := ho1.size; simp at this; omega))
    go_wp2_with fail
    exact ⟨rfl, rfl, by (repeat (first | assumption | exact Only.refl _ _ _ | apply Only.drew | apply Only.drewN | (refine Only.alloc ?_ (by first | exact Nat.le_refl _ | omega | (simp; done) | (simp; omega)) _) | (refine Only.setCell ?_ (by first | exact .inl rfl | exact .inr (Nat.le_refl _) | exact .inr (by first | omega | (simp; omega))) _)))⟩
end Go.Proofs.YtbommoefpekalaaGreatDoor
