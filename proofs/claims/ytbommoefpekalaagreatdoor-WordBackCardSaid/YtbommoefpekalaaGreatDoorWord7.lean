/-
  THE WALKS: the deferred closure of word.Read.
-/
import Derived.Test.YtbommoefpekalaaGreatDoorWord2
import Derived.Test.YtbommoefpekalaaGreatDoorToks
import Derived.Recover
namespace Go.Proofs.YtbommoefpekalaaGreatDoor
open Go.RowKit

theorem assert_fault (k a : Int) (w : World) : (Instr.typeAssert (.iface 71 (.agg #[.int .i64 k, .int .i64 a])) 20 71 true).run Tryz.prog w = .ok (.tuple #[.agg #[.int .i64 k, .int .i64 a], .bool true]) w := by kernel_rfl
set_option maxHeartbeats 800000 in
theorem read_idle (p q r : Addr) (w : World) :
    CallsD Tryz.prog 28 #[.pointer (some p), .pointer (some q), .pointer (some r)] .returning w fun e u' w' => e = .returned (.tuple #[]) ∧ u' = .returning ∧ w' = w := by
  refine callsD_of_wpS Tryz.func28 rfl fun c₀ cs hu => ?_
  apply wpS_seq
  apply wpS_region
  simp [wpOpsS, go_sem, recoverD, hu, Tryz.ntmps28, Exit.thenS]
  refine wpS_of_wp ?_
  simp only [Array.replicate_succ, Array.replicate_zero, List.push_toArray, List.nil_append, List.cons_append]
  go_wp2
  cases c₀
  simp_all [bodyPostS, results, Tryz.results28]
/-- What the closure leaves behind a fault: the three results. -/
def Caught (b : Nat) (k a : Int) (w w' : World) : Prop :=
  w'.cell? ⟨b, 0, none⟩ = some (.slice none 0 0) ∧ w'.cell? ⟨b + 1, 0, none⟩ = some (.int .i64 a) ∧ w'.cell? ⟨b + 2, 0, none⟩ = some (.iface 29 (.int .i64 k)) ∧ Below b w w'
set_option maxHeartbeats 1600000 in
theorem read_catch (b : Nat) (x y z : Value) (k a : Int) (older : List PanicEntry) (w : World) (hx : Blk w b 22 #[x]) (hy : Blk w (b + 1) 3 #[y]) (hz : Blk w (b + 2) 24 #[z]) :
    CallsD Tryz.prog 28 #[.pointer (some ⟨b, 0, none⟩), .pointer (some ⟨b + 1, 0, none⟩), .pointer (some ⟨b + 2, 0, none⟩)] (.panicking ({ v := .iface 71 (.agg #[.int .i64 k, .int .i64 a]), recovered := false } :: older)) w fun e u' w' =>
      e = .returned (.tuple #[]) ∧ u' = .panicking ({ v := .iface 71 (.agg #[.int .i64 k, .int .i64 a]), recovered := true } :: older) ∧ Caught b k a w w' := by
  have hta := assert_fault k a
  have lx := hx.lt
  have ly := hy.lt
  have lz := hz.lt
  have cx := hx.cell 0
  have cy := hy.cell 0
  have cz := hz.cell 0
  have fx := hx.frozen 0
  have fy := hy.frozen 0
  have fz := hz.frozen 0
  simp only [List.getElem?_toArray, List.getElem?_cons_zero] at cx cy cz
  clear hx hy hz
  refine callsD_of_wpS Tryz.func28 rfl fun c₀ cs hu => ?_
  apply wpS_seq
  apply wpS_region
  simp [wpOpsS, go_sem, recoverD, hu, Tryz.ntmps28, Exit.thenS]
  refine wpS_of_wp ?_
  simp only [Array.replicate_succ, Array.replicate_zero, List.push_toArray, List.nil_append, List.cons_append]
  go_wp2
  have g0 : (w.alloc (.cells #[.int .i64 k, .int .i64 a] 71)).cell? ⟨w.heap.size, 0, none⟩ = some (.int .i64 k) := by simp [go_sem]
  have g1 : (w.alloc (.cells #[.int .i64 k, .int .i64 a] 71)).cell? ⟨w.heap.size, 1, none⟩ = some (.int .i64 a) := by simp [go_sem]
  have hbw : Below w.heap.size w (w.alloc (.cells #[.int .i64 k, .int .i64 a] 71)) := by (repeat (first | assumption | exact Below.refl _ _ | apply Below.drew | apply below_drewN | (refine Below.alloc ?_ (by first | exact Nat.le_refl _ | omega | (simp; done) | (simp; omega)) _)))
  obtain ⟨hcc, hff⟩ := bcell hbw
  have cx1 := (hcc b 0 lx).trans cx
  have cy1 := (hcc (b + 1) 0 ly).trans cy
  have cz1 := (hcc (b + 2) 0 lz).trans cz
  have fx1 := (hff b 0 lx).trans fx
  have fy1 := (hff (b + 1) 0 ly).trans fy
  have fz1 := (hff (b + 2) 0 lz).trans fz
  have hn0 : ¬ w.heap.size = b := by omega
  have hn1 : ¬ w.heap.size = b + 1 := by omega
  have hn2 : ¬ w.heap.size = b + 2 := by omega
  have hm0 : ¬ b = w.heap.size := by omega
  have hm1 : ¬ b + 1 = w.heap.size := by omega
  have hm2 : ¬ b + 2 = w.heap.size := by omega
  have HBW := Lib.hid hbw
  clear hcc hff cx cy cz fx fy fz hbw
  generalize (w.alloc (.cells #[.int .i64 k, .int .i64 a] 71)) = w1 at *
  go_region
  go_wp2
  simp [bodyPostS, results, Tryz.results28]
  have hb1 : ¬ b = b + 1 := by omega
  have hb2 : ¬ b = b + 2 := by omega
  have hb3 : ¬ b + 1 = b + 2 := by omega
  have hk1 : w1.cell? ⟨b, 0, none⟩ = some x := cx1
  have hbw := HBW.out.mono (show b ≤ w.heap.size by omega)
  refine ⟨?_, ?_, ?_, (((hbw.setCell (p := ⟨b, 0, none⟩) (Nat.le_refl _) _).setCell (p := ⟨b + 1, 0, none⟩) (Nat.le_succ _) _).setCell (p := ⟨b + 2, 0, none⟩) (Nat.le_add_right _ _) _).drew⟩
  · simp [go_sem]
    exact World.cell?_setCell_same _ _ _ cx1
  · simp [go_sem]
    exact World.cell?_setCell_same _ _ _ ((World.cell?_setCell_other _ _ _ _ (by simp)).trans cy1)
  · exact World.cell?_setCell_same _ _ _ (((World.cell?_setCell_other _ _ _ _ (by simp)).trans (World.cell?_setCell_other _ _ _ _ (by simp))).trans cz1)
end Go.Proofs.YtbommoefpekalaaGreatDoor
