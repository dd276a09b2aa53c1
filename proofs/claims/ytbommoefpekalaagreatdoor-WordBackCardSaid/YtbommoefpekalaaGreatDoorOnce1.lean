/-
  THE WALKS: sync.Once, one goroutine. 
-/
import Derived.Test.YtbommoefpekalaaGreatDoorStrs0
import Derived.Test.YtbommoefpekalaaGreatDoorNames
import Derived.Test.YtbommoefpekalaaGreatDoorGen
import Derived.Conc.MuLone
import Derived.Conc.MuData
import Derived.RegionCalls
import Derived.Defers
import Derived.Laws.LoneSync
namespace Go.Proofs.YtbommoefpekalaaGreatDoor
open Go.RowKit Go.Sort Go.MuLone

abbrev muLink : Go.Conc.Locks.MuLink := { lock := 124, unlock := 125, ilock := 135, iunlock := 136, lockSlow := 148, unlockSlow := 151, disable := 144, enable := 146, acquire := 147, relMerge := 149, cas32 := 145, add32 := 150, tMutex := 163, tIMutex := 161, tPMutex := 222, tPIMutex := 238, tPI32 := 240, tUP := 128, tNoCopy := 155, tU32 := 157 }
theorem muLib : Go.Conc.Locks.MuLib Tryz.prog muLink :=
  ⟨Tryz.func124, Tryz.func125, Tryz.func135, Tryz.func136, Tryz.func144, Tryz.func146, Tryz.func147, Tryz.func149, Tryz.func145, Tryz.func150, Tryz.underlying161, Tryz.runUnderlying161, Tryz.sizeOf161, Tryz.isAgg161, Tryz.zeroValue161, Tryz.underlying163, Tryz.runUnderlying163, Tryz.sizeOf163, Tryz.isAgg163, Tryz.zeroValue163, Tryz.underlying222, Tryz.runUnderlying222, Tryz.sizeOf222, Tryz.isAgg222, Tryz.zeroValue222, Tryz.underlying238, Tryz.runUnderlying238, Tryz.sizeOf238, Tryz.isAgg238, Tryz.zeroValue238, Tryz.underlying240, Tryz.runUnderlying240, Tryz.sizeOf240, Tryz.isAgg240, Tryz.zeroValue240, Tryz.underlying128, Tryz.runUnderlying128, Tryz.sizeOf128, Tryz.isAgg128, Tryz.zeroValue128, Tryz.underlying155, Tryz.runUnderlying155, Tryz.sizeOf155, Tryz.isAgg155, Tryz.zeroValue155, Tryz.underlying21, Tryz.runUnderlying21, Tryz.sizeOf21, Tryz.isAgg21, Tryz.zeroValue21, (by kernel_rfl)⟩

/-- '(*sync/atomic.Bool).Store(true)', entered as a deferred call: the cell holds 1. -/
theorem store_deferred (a : Addr) (x : Value) (u : FrameMode) (w : World) (hc : w.cell? a = some x) (hz : w.frozen? a = false) :
    CallsD Tryz.prog 126 #[.pointer (some a), .bool true] u w fun e u' w' => u' = u ∧ (e = .returned (.tuple #[]) ∧ w' = w.drew.setCell a (.int .u32 1)) := by
  have hc' : w.drew.cell? a = some x := by go_simp
  have hz' : w.drew.frozen? a = false := by go_simp
  have hst := run_call_store (P := Tryz.prog) Tryz.func137 (by kernel_rfl) (by kernel_rfl) (by kernel_rfl) (by kernel_rfl) (k := .u32) (y := 1) hc' hz'
  go_enter_d Tryz.func126, Tryz.ntmps126
  go_wp2
  go_region_calls
  all_goals (go_end0; exact ⟨rfl, rfl⟩)

set_option maxRecDepth 100000 in
set_option maxHeartbeats 1600000 in
theorem once_slow (r : Nat) (fv : Value) (K : Nat) (args : Array Value) (hfv : fv = .func (.func K) args #[]) (hK : K = 101) (w : World) (Q : World → Prop)
    (h0 : w.cell? ⟨r, 0, none⟩ = some (.int .u32 0)) (h1 : w.cell? ⟨r, 1, none⟩ = some (.int .i32 0)) (f1 : w.frozen? ⟨r, 1, none⟩ = false)
    (hB : Calls Tryz.prog K args (w.setCell ⟨r, 1, none⟩ (.int .i32 1)) fun e w' => e = .returned (.tuple #[]) ∧ Q w')
    (hQ : ∀ w', Q w' → w'.cell? ⟨r, 0, none⟩ = some (.int .u32 0) ∧ w'.cell? ⟨r, 1, none⟩ = some (.int .i32 1) ∧ w'.frozen? ⟨r, 0, none⟩ = false ∧ w'.frozen? ⟨r, 1, none⟩ = false) :
    Calls Tryz.prog 116 #[.pointer (some ⟨r, 0, none⟩), fv] w fun e w' => e = .returned (.tuple #[]) ∧ ∃ w2, Q w2 ∧ w' = (w2.drew.setCell ⟨r, 0, none⟩ (.int .u32 1)).setCell ⟨r, 1, none⟩ (.int .i32 0) := by
  subst hfv hK
  have hl := run_call_load (P := Tryz.prog) Tryz.func123 (by kernel_rfl) (by kernel_rfl) (by kernel_rfl) .u32 (by kernel_rfl) (w := w.setCell ⟨r, 1, none⟩ (.int .i32 1)) (a := ⟨r, 0, none⟩) (x := 0) ((World.cell?_setCell_other _ ⟨r, 1, none⟩ ⟨r, 0, none⟩ _ (by simp)).trans h0)
  have hnot : ∀ (x : Bool) (w : World), (Op.unary .not (.bool x)).run Tryz.prog w = .ok (.bool (!x)) w := fun _ _ => rfl
  go_enter_defers Tryz.func116, Tryz.ntmps116
  go_wp2_with (first | (go_at_call 124; refine (lock_free muLib ⟨r, 1, none⟩ _ h1 f1).mono ?_; rintro e w' ⟨rfl, rfl⟩) | (go_at_call 115; go_in))
  refine hB.mono ?_
  rintro e w2 ⟨rfl, hq⟩
  obtain ⟨q0, q1, z0, z1⟩ := hQ w2 hq
  go_wp2
  -- the door: two deferred calls, the last laid first
  refine leaves_cons (f := 126) (args := #[.pointer (some ⟨r, 0, none⟩), .bool true]) (by simp) (by simp [go_sem]) ?_
  refine (store_deferred ⟨r, 0, none⟩ (.int .u32 0) .returning _ q0 z0).mono ?_
  rintro e u' w'' ⟨rfl, rfl, rfl⟩
  refine leaves_cons (f := 125) (args := #[.pointer (some ⟨r, 1, none⟩)]) (by simp [settle]) (by simp [go_sem]) ?_
  refine (unlock_deferred muLib ⟨r, 1, none⟩ _ _ ?_ (by simp [z1])).mono ?_
  · refine (World.cell?_setCell_other _ ⟨r, 0, none⟩ ⟨r, 1, none⟩ _ (by simp)).trans ?_
    rw [World.cell?_drew]
    exact q1
  rintro e u' w'' ⟨rfl, rfl, rfl⟩
  exact ⟨_, results_none rfl _ _ _, rfl, w2, hq, rfl⟩

set_option maxRecDepth 100000 in
set_option maxHeartbeats 1600000 in
theorem once_Do (r : Nat) (fv : Value) (args : Array Value) (hfv : fv = .func (.func 101) args #[]) (w : World) (Q : World → Prop)
    (h0 : w.cell? ⟨r, 0, none⟩ = some (.int .u32 0)) (h1 : w.cell? ⟨r, 1, none⟩ = some (.int .i32 0)) (f1 : w.frozen? ⟨r, 1, none⟩ = false)
    (hB : Calls Tryz.prog 101 args (w.setCell ⟨r, 1, none⟩ (.int .i32 1)) fun e w' => e = .returned (.tuple #[]) ∧ Q w')
    (hQ : ∀ w', Q w' → w'.cell? ⟨r, 0, none⟩ = some (.int .u32 0) ∧ w'.cell? ⟨r, 1, none⟩ = some (.int .i32 1) ∧ w'.frozen? ⟨r, 0, none⟩ = false ∧ w'.frozen? ⟨r, 1, none⟩ = false) :
    Calls Tryz.prog 100 #[.pointer (some ⟨r, 0, none⟩), fv] w fun e w' => e = .returned (.tuple #[]) ∧ ∃ w2, Q w2 ∧ w' = (w2.drew.setCell ⟨r, 0, none⟩ (.int .u32 1)).setCell ⟨r, 1, none⟩ (.int .i32 0) := by
  have hl := run_call_load (P := Tryz.prog) Tryz.func123 (by kernel_rfl) (by kernel_rfl) (by kernel_rfl) .u32 (by kernel_rfl) h0
  have hnot : ∀ (x : Bool) (w : World), (Op.unary .not (.bool x)).run Tryz.prog w = .ok (.bool (!x)) w := fun _ _ => rfl
  go_enter Tryz.func100, Tryz.ntmps100
  go_wp2_with (go_at_call 115; go_in)
  refine (once_slow r _ 101 args rfl rfl _ Q h0 h1 f1 hB hQ).mono ?_
  rintro e w' ⟨rfl, w2, hq, rfl⟩
  go_wp2
  go_end0
  exact ⟨rfl, w2, hq, rfl⟩
end Go.Proofs.YtbommoefpekalaaGreatDoor
