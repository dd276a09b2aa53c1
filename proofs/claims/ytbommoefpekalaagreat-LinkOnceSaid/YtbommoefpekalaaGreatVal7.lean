/-
  THE WALKS: the deferred closure of val.Check.
-/
import Derived.Test.YtbommoefpekalaaGreatVal5
namespace Go.Proofs.YtbommoefpekalaaGreat
open Go.RowKit

theorem assert_wrong (w : World) : (Instr.typeAssert (.iface 93 (.agg #[])) 20 93 true).run Tryz.prog w = .ok (.tuple #[.agg #[], .bool true]) w := by kernel_rfl
set_option maxHeartbeats 800000 in
theorem chk_idle (p : Addr) (w : World) :
    CallsD Tryz.prog 37 #[.pointer (some p)] .returning w fun e u' w' => e = .returned (.tuple #[]) ∧ u' = .returning ∧ w' = w := by
  refine callsD_of_wpS Tryz.func37 rfl fun c₀ cs hu => ?_
  apply wpS_seq
  apply wpS_region
  simp [wpOpsS, go_sem, recoverD, hu, Tryz.ntmps37, Exit.thenS]
  refine wpS_of_wp ?_
  simp only [Array.replicate_succ, Array.replicate_zero, List.push_toArray, List.nil_append, List.cons_append]
  go_wp2
  cases c₀
  simp_all [bodyPostS, results, Tryz.results37]
set_option maxHeartbeats 800000 in
theorem chk_catch (p : Addr) (x : Value) (older : List PanicEntry) (w : World) (hc : w.cell? p = some x) (hz : w.frozen? p = false) :
    CallsD Tryz.prog 37 #[.pointer (some p)] (.panicking ({ v := .iface 93 (.agg #[]), recovered := false } :: older)) w fun e u' w' =>
      e = .returned (.tuple #[]) ∧ u' = .panicking ({ v := .iface 93 (.agg #[]), recovered := true } :: older) ∧ ∃ o, w' = (w.alloc o).setCell p (.iface 58 (.int .i64 1)) := by
  have hta := assert_wrong
  have hcw : (w.alloc (.cells #[] 93)).cell? p = some x := (World.cell?_alloc_lt w _ _ (World.block_lt_of_cell? w p hc)).trans hc
  have hzw : (w.alloc (.cells #[] 93)).frozen? p = false := (((Below.refl w.heap.size w).alloc (Nat.le_refl _) _).frozen (World.block_lt_of_cell? w p hc)).trans hz
  refine callsD_of_wpS Tryz.func37 rfl fun c₀ cs hu => ?_
  apply wpS_seq
  apply wpS_region
  simp [wpOpsS, go_sem, recoverD, hu, Tryz.ntmps37, Exit.thenS]
  refine wpS_of_wp ?_
  simp only [Array.replicate_succ, Array.replicate_zero, List.push_toArray, List.nil_append, List.cons_append]
  go_wp2
  simp [bodyPostS, results, Tryz.results37]
  exact ⟨_, rfl⟩
end Go.Proofs.YtbommoefpekalaaGreat
