/-
  THE WALKS: (move.mover).part, at all nodes; the deferred closure of (move.mover).all.
-/
import Derived.Test.YtnhcjpmamgdeoaaMvE
import Derived.Test.YtnhcjpmamgdeoaaTree4
namespace Go.Proofs.Ytnhcjpmamgdeoaa
open Go.RowKit

theorem mq_pcs {m : Mv} (hm : mvErr m = 0) {vals : Bool} {k : Nat} {xs : List Nd} (h : Mq vals xs) (hl : xs.length ≤ 200) (hk : xs.length ≤ k + 1) (ih : ∀ p, Mq vals p → p.length ≤ k → p.length ≤ 200 → PartM m vals k p) :
    ∃ x ps, Pcs m vals k xs x ps ∧ (vals = true → x.op = 5 → ∀ p ∈ ps, Vx p) := by
  obtain ⟨x, ps, rfl, hc⟩ := h.cut
  rw [List.length_cons] at hl hk
  obtain ⟨b, hb⟩ := h.ex
  refine ⟨x, ps, ⟨rfl, by simpa using hl, fun p hp => (hc.mq p hp).ex, fun y hy => ?_, fun p hp => ih p (hc.mq p hp) (by have := mem_len hp; omega) (by have := mem_len hp; omega), fun p hp q hq => ?_⟩, hc.set⟩
  · have := ex_par hb y hy
    rw [List.length_cons] at this
    omega
  · have hle := mem_len hp
    obtain ⟨h1, h2, _⟩ := (hc.mq p hp).mov hm (by omega) (k := k) (by omega) hq
    exact ⟨h1, h2⟩
theorem mpart_all {m : Mv} (hm : mvErr m = 0) {vals : Bool} (hset : vals = true → ∀ k e x ps, Pcs m vals k e x ps → x.op = 5 → (∀ p ∈ ps, Vx p) → PartM m vals (k + 1) e) :
    ∀ (k : Nat) (xs : List Nd), Mq vals xs → xs.length ≤ 200 → xs.length ≤ k → PartM m vals k xs
  | 0, xs, h, hl, hk => by
    obtain ⟨b, hb⟩ := h.ex
    obtain ⟨x, r, rfl, _⟩ := ex_ne hb
    simp at hk
  | k + 1, xs, h, hl, hk => by
    obtain ⟨x, ps, hP, hv⟩ := mq_pcs hm h hl hk (fun p hp h1 h2 => mpart_all hm hset k p hp h2 h1)
    by_cases h6 : x.op = 6
    · exact mpart_rec m vals k xs x ps hP h6
    · cases vals with
      | false => exact part_oth m false k xs x ps hP h6 (fun _ => rfl)
      | true =>
        by_cases h5 : x.op = 5
        · exact hset rfl k xs x ps hP h5 (hv rfl h5)
        · exact part_oth m true k xs x ps hP h6 (fun h => absurd h h5)
theorem assert_twice (w : World) : (Instr.typeAssert (.iface 98 (.agg #[])) 20 98 true).run Try.prog w = .ok (.tuple #[.agg #[], .bool true]) w := by kernel_rfl
set_option maxHeartbeats 800000 in
theorem all_idle (p q : Addr) (w : World) :
    CallsD Try.prog 53 #[.pointer (some p), .pointer (some q)] .returning w fun e u' w' => e = .returned (.tuple #[]) ∧ u' = .returning ∧ w' = w := by
  refine callsD_of_wpS Try.func53 rfl fun c₀ cs hu => ?_
  apply wpS_seq
  apply wpS_region
  simp [wpOpsS, go_sem, recoverD, hu, Try.ntmps53, Exit.thenS]
  refine wpS_of_wp ?_
  simp only [Array.replicate_succ, Array.replicate_zero, List.push_toArray, List.nil_append, List.cons_append]
  go_wp2
  cases c₀
  simp_all [bodyPostS, results, Try.results53]
set_option maxHeartbeats 800000 in
theorem all_catch (b : Nat) (x y : Value) (older : List PanicEntry) (w : World) (hc : w.cell? ⟨b, 0, none⟩ = some x) (hz : w.frozen? ⟨b, 0, none⟩ = false) (hc2 : w.cell? ⟨b + 1, 0, none⟩ = some y) (hz2 : w.frozen? ⟨b + 1, 0, none⟩ = false) :
    CallsD Try.prog 53 #[.pointer (some ⟨b, 0, none⟩), .pointer (some ⟨b + 1, 0, none⟩)] (.panicking ({ v := .iface 98 (.agg #[]), recovered := false } :: older)) w fun e u' w' =>
      e = .returned (.tuple #[]) ∧ u' = .panicking ({ v := .iface 98 (.agg #[]), recovered := true } :: older) ∧ ∃ o, w' = ((w.alloc o).setCell ⟨b, 0, none⟩ (.slice none 0 0)).setCell ⟨b + 1, 0, none⟩ (.iface 57 (.int .i64 6)) := by
  have hta := assert_twice
  have hcw : (w.alloc (.cells #[] 98)).cell? ⟨b, 0, none⟩ = some x := (World.cell?_alloc_lt w _ _ (World.block_lt_of_cell? w _ hc)).trans hc
  have hzw : (w.alloc (.cells #[] 98)).frozen? ⟨b, 0, none⟩ = false := (((Below.refl w.heap.size w).alloc (Nat.le_refl _) _).frozen (World.block_lt_of_cell? w _ hc)).trans hz
  have hcw2 : (w.alloc (.cells #[] 98)).cell? ⟨b + 1, 0, none⟩ = some y := (World.cell?_alloc_lt w _ _ (World.block_lt_of_cell? w _ hc2)).trans hc2
  have hzw2 : (w.alloc (.cells #[] 98)).frozen? ⟨b + 1, 0, none⟩ = false := (((Below.refl w.heap.size w).alloc (Nat.le_refl _) _).frozen (World.block_lt_of_cell? w _ hc2)).trans hz2
  refine callsD_of_wpS Try.func53 rfl fun c₀ cs hu => ?_
  apply wpS_seq
  apply wpS_region
  simp [wpOpsS, go_sem, recoverD, hu, Try.ntmps53, Exit.thenS]
  refine wpS_of_wp ?_
  simp only [Array.replicate_succ, Array.replicate_zero, List.push_toArray, List.nil_append, List.cons_append]
  go_wp2
  simp [bodyPostS, results, Try.results53]
  exact ⟨_, rfl⟩
set_option maxHeartbeats 1600000 in
theorem mover_all (m : Mv) (vals : Bool) (e : List Nd) (hp : PartM m vals e.length e) (A : Option Addr) (c : Nat) (w : World) (hc : e.length ≤ c) (hcm : c ≤ 9223372036854775807) (hsl : NdSl w w.heap.size A e) :
    Calls Try.prog 39 #[.agg #[.int .i64 m.what, .string m.fr, .string m.to_, .bool vals], .slice A e.length c] w fun r w' => NdsBack w r w' ((movGo m vals e.length e).getD []) (if (movGo m vals e.length e).isSome = true then 0 else 6) := by
  have hmf : ∀ (fn : Fn) (first cap : Array Value) (w : World), (Instr.makeFunc fn first cap).run Try.prog w = .ok (.func fn first cap) w := fun _ _ _ _ => rfl
  obtain ⟨w1, hw1⟩ : ∃ w1, ((w.alloc (.cells #[.int .i64 m.what, .string m.fr, .string m.to_, .bool vals] 80)).alloc (.cells #[.slice none 0 0] 22)).alloc (.cells #[.nilIface] 27) = w1 := ⟨_, rfl⟩
  have hb1 : Below w.heap.size w w1 := by rw [← hw1]; (repeat (first | assumption | exact Below.refl _ _ | apply Below.drew | apply below_drewN | (refine Below.alloc ?_ (by first | exact Nat.le_refl _ | omega | (simp; done) | (simp; omega)) _)))
  have hsz : w.heap.size + 3 = w1.heap.size := by rw [← hw1]; simp
  have hc1 : w1.cell? ⟨w.heap.size + 1, 0, none⟩ = some (.slice none 0 0) := by rw [← hw1]; simp [go_sem]
  have hz1 : w1.frozen? ⟨w.heap.size + 1, 0, none⟩ = false := by rw [← hw1]; simp [go_sem]
  have hc2 : w1.cell? ⟨w.heap.size + 1 + 1, 0, none⟩ = some .nilIface := by rw [← hw1]; simp [go_sem]
  have hz2 : w1.frozen? ⟨w.heap.size + 1 + 1, 0, none⟩ = false := by rw [← hw1]; simp [go_sem]
  have HP := Lib.hid (hp w1 A c hc hcm ((hsl.below hb1).more hb1.size))
  have HSZ := Lib.hid hsz
  have hlt : w.heap.size + 1 + 1 < w1.heap.size := by omega
  have HW1 := Lib.hid hw1
  clear hsl hsz hp hw1
  generalize movGo m vals e.length e = o at HP ⊢
  go_enter_defers Try.func39, Try.ntmps39
  go_wp2_with fail
  rw [HW1.out]
  cases o with
  | none =>
    refine HP.out.mono ?_
    rintro r w2 hpost
    obtain ⟨rfl, hb2⟩ := hpost.2 rfl
    clear hpost
    have d1 := (hb2.cell (p := ⟨w.heap.size + 1, 0, none⟩) (by show w.heap.size + 1 < _; omega)).trans hc1
    have d2 := (hb2.cell (p := ⟨w.heap.size + 1 + 1, 0, none⟩) hlt).trans hc2
    have y1 := (hb2.frozen (p := ⟨w.heap.size + 1, 0, none⟩) (by show w.heap.size + 1 < _; omega)).trans hz1
    have y2 := (hb2.frozen (p := ⟨w.heap.size + 1 + 1, 0, none⟩) hlt).trans hz2
    have hbw := hb1.trans (hb2.mono hb1.size)
    clear hc1 hc2 hz1 hz2
    go_wp2_with fail
    refine leaves_cons (f := 53) (args := #[.pointer (some ⟨w.heap.size + 1, 0, none⟩), .pointer (some ⟨w.heap.size + 1 + 1, 0, none⟩)]) (by simp) (by simp [go_sem]) ?_
    refine (all_catch (w.heap.size + 1) _ _ [] _ d1 y1 d2 y2).mono ?_
    rintro e' u' w'' ⟨rfl, rfl, o, rfl⟩
    have hlw2 : w.heap.size + 1 + 1 < w2.heap.size := by have := hb2.size; omega
    have e1 : (((w2.alloc o).setCell ⟨w.heap.size + 1, 0, none⟩ (.slice none 0 0)).setCell ⟨w.heap.size + 1 + 1, 0, none⟩ (.iface 57 (.int .i64 6))).cell? ⟨w.heap.size + 1 + 1, 0, none⟩ = some (.iface 57 (.int .i64 6)) := by
      have g1 : (w2.alloc o).cell? ⟨w.heap.size + 1 + 1, 0, none⟩ = some .nilIface := (World.cell?_alloc_lt w2 _ _ hlw2).trans d2
      exact World.cell?_setCell_same _ _ _ ((World.cell?_setCell_other _ _ _ _ (by simp)).trans g1)
    have e2 : (((w2.alloc o).setCell ⟨w.heap.size + 1, 0, none⟩ (.slice none 0 0)).setCell ⟨w.heap.size + 1 + 1, 0, none⟩ (.iface 57 (.int .i64 6))).cell? ⟨w.heap.size + 1, 0, none⟩ = some (.slice none 0 0) := by
      rw [World.cell?_setCell_other _ _ _ _ (by simp)]
      exact World.cell?_setCell_same _ _ _ ((World.cell?_alloc_lt w2 _ _ (by show w.heap.size + 1 < _; omega)).trans d1)
    simp [Leaves, settle, results, Try.results39, go_sem, e1, e2]
    have hfin := NdsBack.none (k := 6) (w := w) (w' := ((w2.alloc o).setCell ⟨w.heap.size + 1, 0, none⟩ (.slice none 0 0)).setCell ⟨w.heap.size + 1 + 1, 0, none⟩ (.iface 57 (.int .i64 6))) (((hbw.alloc hbw.size _).setCell (by show w.heap.size ≤ w.heap.size + 1; omega) _).setCell (by show w.heap.size ≤ w.heap.size + 1 + 1; omega) _)
    rw [errV_pos (k := 6) (by omega)] at hfin
    exact hfin
  | some ys =>
    refine HP.out.mono ?_
    rintro r w2 hpost
    obtain ⟨A2, c2, rfl, h1, h2, h3, hb2, h4⟩ := hpost.1 ys rfl
    clear hpost
    have d1 := (hb2.cell (p := ⟨w.heap.size + 1, 0, none⟩) (by show w.heap.size + 1 < _; omega)).trans hc1
    have d2 := (hb2.cell (p := ⟨w.heap.size + 1 + 1, 0, none⟩) hlt).trans hc2
    have y1 := (hb2.frozen (p := ⟨w.heap.size + 1, 0, none⟩) (by show w.heap.size + 1 < _; omega)).trans hz1
    have y2 := (hb2.frozen (p := ⟨w.heap.size + 1 + 1, 0, none⟩) hlt).trans hz2
    have hbw := hb1.trans (hb2.mono hb1.size)
    have H3 : Hid (NdSl w2 w2.heap.size A2 ys) := h3
    have H4 := Lib.hid h4
    have H1 := Lib.hid h1
    clear hc1 hc2 hz1 hz2 h3 h4 h1
    go_wp2_with fail
    refine leaves_cons (f := 53) (args := #[.pointer (some ⟨w.heap.size + 1, 0, none⟩), .pointer (some ⟨w.heap.size + 1 + 1, 0, none⟩)]) (by simp) (by simp [go_sem]) ?_
    refine (all_idle ⟨w.heap.size + 1, 0, none⟩ ⟨w.heap.size + 1 + 1, 0, none⟩ _).mono ?_
    rintro e' u' w'' ⟨rfl, rfl, rfl⟩
    simp [Leaves, settle, results, Try.results39, go_sem, d1, d2]
    have hoff : NdOff (fun b => b < w1.heap.size) w2 w2.heap.size A2 ys := fun hne => by
      obtain ⟨b, o, e, g1, g2⟩ := H3.out hne
      exact ⟨b, o, e, g1, by have := H4.out b o e; omega, g2⟩
    refine ⟨A2, c2, rfl, H1.out, h2, ?_, ((hbw.setCell (by show w.heap.size ≤ w.heap.size + 1; omega) _).setCell (by show w.heap.size ≤ w.heap.size + 1 + 1; omega) _)⟩
    refine (hoff.keep (fun p hp hg => ?_) (by simp)).sl
    have hg' : ¬ p.block < w1.heap.size := hg
    rw [World.cell?_setCell_other _ _ _ _ (by intro h; apply hg'; rw [← h]; exact hlt), World.cell?_setCell_other _ _ _ _ (by intro h; apply hg'; rw [← h]; show w.heap.size + 1 < _; omega)]
end Go.Proofs.Ytnhcjpmamgdeoaa

