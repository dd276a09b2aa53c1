/-
  THE WALKS: (move.mover).part, at all nodes; the deferred closure of (move.mover).all.
  THE WALKS: move.Expr, move.Fresh.
  THE WALKS: move.Fresh.
-/
import Derived.Test.YtnhcjpmamgdeoaaGreatDoorMvE
import Derived.Test.YtnhcjpmamgdeoaaGreatDoorTree4
namespace Go.Proofs.YtnhcjpmamgdeoaaGreatDoor
open Go.RowKit

theorem mq_pcs {m : Mv} (hm : mvErr m = 0) {vals : Bool} {k : Nat} {xs : List Nd} (h : Mq vals xs) (hl : xs.length ≤ 200) (hk : xs.length ≤ k + 1) (ih : ∀ p, Mq vals p → p.length ≤ k → p.length ≤ 200 → PartM m vals k p) :
    ∃ x ps, Pcs m vals k xs x ps ∧ (vals = true → x.op = 5 → ∀ p ∈ ps, Vx p) := by
  obtain ⟨x, ps, rfl, hc⟩ := h.cut
  rw [List.length_cons] at hl hk
  obtain ⟨b, hb⟩ := h.ex
  refine ⟨x, ps, ⟨rfl, by simpa using hl, fun p hp => (hc.mq p hp).ex, fun y hy => ?_, fun p hp => ih p (hc.mq p hp) (by have := mem_len hp; omega) (by have := mem_len hp; omega), fun p hp q hq => ?_⟩, hc.set⟩
  · have := ex_par hb y hy
    rw [List.length_cons] at this
    omega
  · have hle := mem_len hp
    obtain ⟨h1, h2, _⟩ := (hc.mq p hp).mov hm (by omega) (k := k) (by omega) hq
    exact ⟨h1, h2⟩
theorem mpart_all {m : Mv} (hm : mvErr m = 0) {vals : Bool} (hset : vals = true → ∀ k e x ps, Pcs m vals k e x ps → e.length ≤ k + 1 → x.op = 5 → (∀ p ∈ ps, Vx p) → PartM m vals (k + 1) e) :
    ∀ (k : Nat) (xs : List Nd), Mq vals xs → xs.length ≤ 200 → xs.length ≤ k → PartM m vals k xs
  | 0, xs, h, hl, hk => by
    obtain ⟨b, hb⟩ := h.ex
    obtain ⟨x, r, rfl, _⟩ := ex_ne hb
    simp at hk
  | k + 1, xs, h, hl, hk => by
    obtain ⟨x, ps, hP, hv⟩ := mq_pcs hm h hl hk (fun p hp h1 h2 => mpart_all hm hset k p hp h2 h1)
    by_cases h6 : x.op = 6
    · exact mpart_rec m vals k xs x ps hP h6
    · cases vals with
      | false => exact part_oth m false k xs x ps hP h6 (fun _ => rfl)
      | true =>
        by_cases h5 : x.op = 5
        · exact hset rfl k xs x ps hP hk h5 (hv rfl h5)
        · exact part_oth m true k xs x ps hP h6 (fun h => absurd h h5)
theorem assert_twice (w : World) : (Instr.typeAssert (.iface 109 (.agg #[])) 20 109 true).run Tryz.prog w = .ok (.tuple #[.agg #[], .bool true]) w := by kernel_rfl
set_option maxHeartbeats 800000 in
theorem all_idle (p q : Addr) (w : World) :
    CallsD Tryz.prog 59 #[.pointer (some p), .pointer (some q)] .returning w fun e u' w' => e = .returned (.tuple #[]) ∧ u' = .returning ∧ w' = w := by
  refine callsD_of_wpS Tryz.func59 rfl fun c₀ cs hu => ?_
  apply wpS_seq
  apply wpS_region
  simp [wpOpsS, go_sem, recoverD, hu, Tryz.ntmps59, Exit.thenS]
  refine wpS_of_wp ?_
  simp only [Array.replicate_succ, Array.replicate_zero, List.push_toArray, List.nil_append, List.cons_append]
  go_wp2
  cases c₀
  simp_all [bodyPostS, results, Tryz.results59]
set_option maxHeartbeats 800000 in
theorem all_catch (b : Nat) (x y : Value) (older : List PanicEntry) (w : World) (hc : w.cell? ⟨b, 0, none⟩ = some x) (hz : w.frozen? ⟨b, 0, none⟩ = false) (hc2 : w.cell? ⟨b + 1, 0, none⟩ = some y) (hz2 : w.frozen? ⟨b + 1, 0, none⟩ = false) :
    CallsD Tryz.prog 59 #[.pointer (some ⟨b, 0, none⟩), .pointer (some ⟨b + 1, 0, none⟩)] (.panicking ({ v := .iface 109 (.agg #[]), recovered := false } :: older)) w fun e u' w' =>
      e = .returned (.tuple #[]) ∧ u' = .panicking ({ v := .iface 109 (.agg #[]), recovered := true } :: older) ∧ ∃ o, w' = ((w.alloc o).setCell ⟨b, 0, none⟩ (.slice none 0 0)).setCell ⟨b + 1, 0, none⟩ (.iface 30 (.int .i64 6)) := by
  have hta := assert_twice
  have hcw : (w.alloc (.cells #[] 109)).cell? ⟨b, 0, none⟩ = some x := (World.cell?_alloc_lt w _ _ (World.block_lt_of_cell? w _ hc)).trans hc
  have hzw : (w.alloc (.cells #[] 109)).frozen? ⟨b, 0, none⟩ = false := (((Below.refl w.heap.size w).alloc (Nat.le_refl _) _).frozen (World.block_lt_of_cell? w _ hc)).trans hz
  have hcw2 : (w.alloc (.cells #[] 109)).cell? ⟨b + 1, 0, none⟩ = some y := (World.cell?_alloc_lt w _ _ (World.block_lt_of_cell? w _ hc2)).trans hc2
  have hzw2 : (w.alloc (.cells #[] 109)).frozen? ⟨b + 1, 0, none⟩ = false := (((Below.refl w.heap.size w).alloc (Nat.le_refl _) _).frozen (World.block_lt_of_cell? w _ hc2)).trans hz2
  refine callsD_of_wpS Tryz.func59 rfl fun c₀ cs hu => ?_
  apply wpS_seq
  apply wpS_region
  simp [wpOpsS, go_sem, recoverD, hu, Tryz.ntmps59, Exit.thenS]
  refine wpS_of_wp ?_
  simp only [Array.replicate_succ, Array.replicate_zero, List.push_toArray, List.nil_append, List.cons_append]
  go_wp2
  simp [bodyPostS, results, Tryz.results59]
  exact ⟨_, rfl⟩
set_option maxHeartbeats 1600000 in
theorem mover_all (m : Mv) (vals : Bool) (e : List Nd) (hp : PartM m vals e.length e) (A : Option Addr) (c : Nat) (w : World) (hc : e.length ≤ c) (hcm : c ≤ 9223372036854775807) (hsl : NdSl w w.heap.size A e) :
    Calls Tryz.prog 32 #[.agg #[.int .i64 m.what, .string m.fr, .string m.to_, .bool vals], .slice A e.length c] w fun r w' => NdsBack w r w' ((movGo m vals e.length e).getD []) (if (movGo m vals e.length e).isSome = true then 0 else 6) := by
  have hmf : ∀ (fn : Fn) (first cap : Array Value) (w : World), (Instr.makeFunc fn first cap).run Tryz.prog w = .ok (.func fn first cap) w := fun _ _ _ _ => rfl
  obtain ⟨w1, hw1⟩ : ∃ w1, ((w.alloc (.cells #[.int .i64 m.what, .string m.fr, .string m.to_, .bool vals] 78)).alloc (.cells #[.slice none 0 0] 24)).alloc (.cells #[.nilIface] 28) = w1 := ⟨_, rfl⟩
  have hb1 : Below w.heap.size w w1 := by rw [← hw1]; (repeat (first | assumption | exact Below.refl _ _ | apply Below.drew | apply below_drewN | (refine Below.alloc ?_ (by first | exact Nat.le_refl _ | omega | (simp; done) | (simp; omega)) _)))
  have hsz : w.heap.size + 3 = w1.heap.size := by rw [← hw1]; simp
  have hc1 : w1.cell? ⟨w.heap.size + 1, 0, none⟩ = some (.slice none 0 0) := by rw [← hw1]; simp [go_sem]
  have hz1 : w1.frozen? ⟨w.heap.size + 1, 0, none⟩ = false := by rw [← hw1]; simp [go_sem]
  have hc2 : w1.cell? ⟨w.heap.size + 1 + 1, 0, none⟩ = some .nilIface := by rw [← hw1]; simp [go_sem]
  have hz2 : w1.frozen? ⟨w.heap.size + 1 + 1, 0, none⟩ = false := by rw [← hw1]; simp [go_sem]
  have HP := Lib.hid (hp w1 A c hc hcm ((hsl.below hb1).more hb1.size))
  have HSZ := Lib.hid hsz
  have hlt : w.heap.size + 1 + 1 < w1.heap.size := by omega
  have HW1 := Lib.hid hw1
  clear hsl hsz hp hw1
  generalize movGo m vals e.length e = o at HP ⊢
  go_enter_defers Tryz.func32, Tryz.ntmps32
  go_wp2_with fail
  rw [HW1.out]
  cases o with
  | none =>
    refine HP.out.mono ?_
    rintro r w2 hpost
    obtain ⟨rfl, hb2⟩ := hpost.2 rfl
    clear hpost
    have d1 := (hb2.cell (p := ⟨w.heap.size + 1, 0, none⟩) (by show w.heap.size + 1 < _; omega)).trans hc1
    have d2 := (hb2.cell (p := ⟨w.heap.size + 1 + 1, 0, none⟩) hlt).trans hc2
    have y1 := (hb2.frozen (p := ⟨w.heap.size + 1, 0, none⟩) (by show w.heap.size + 1 < _; omega)).trans hz1
    have y2 := (hb2.frozen (p := ⟨w.heap.size + 1 + 1, 0, none⟩) hlt).trans hz2
    have hbw := hb1.trans (hb2.mono hb1.size)
    clear hc1 hc2 hz1 hz2
    go_wp2_with fail
    refine leaves_cons (f := 59) (args := #[.pointer (some ⟨w.heap.size + 1, 0, none⟩), .pointer (some ⟨w.heap.size + 1 + 1, 0, none⟩)]) (by simp) (by simp [go_sem]) ?_
    refine (all_catch (w.heap.size + 1) _ _ [] _ d1 y1 d2 y2).mono ?_
    rintro e' u' w'' ⟨rfl, rfl, o, rfl⟩
    have hlw2 : w.heap.size + 1 + 1 < w2.heap.size := by have := hb2.size; omega
    have e1 : (((w2.alloc o).setCell ⟨w.heap.size + 1, 0, none⟩ (.slice none 0 0)).setCell ⟨w.heap.size + 1 + 1, 0, none⟩ (.iface 30 (.int .i64 6))).cell? ⟨w.heap.size + 1 + 1, 0, none⟩ = some (.iface 30 (.int .i64 6)) := by
      have g1 : (w2.alloc o).cell? ⟨w.heap.size + 1 + 1, 0, none⟩ = some .nilIface := (World.cell?_alloc_lt w2 _ _ hlw2).trans d2
      exact World.cell?_setCell_same _ _ _ ((World.cell?_setCell_other _ _ _ _ (by simp)).trans g1)
    have e2 : (((w2.alloc o).setCell ⟨w.heap.size + 1, 0, none⟩ (.slice none 0 0)).setCell ⟨w.heap.size + 1 + 1, 0, none⟩ (.iface 30 (.int .i64 6))).cell? ⟨w.heap.size + 1, 0, none⟩ = some (.slice none 0 0) := by
      rw [World.cell?_setCell_other _ _ _ _ (by simp)]
      exact World.cell?_setCell_same _ _ _ ((World.cell?_alloc_lt w2 _ _ (by show w.heap.size + 1 < _; omega)).trans d1)
    simp [Leaves, settle, results, Tryz.results32, go_sem, e1, e2]
    have hfin := NdsBack.none (k := 6) (w := w) (w' := ((w2.alloc o).setCell ⟨w.heap.size + 1, 0, none⟩ (.slice none 0 0)).setCell ⟨w.heap.size + 1 + 1, 0, none⟩ (.iface 30 (.int .i64 6))) (((hbw.alloc hbw.size _).setCell (by show w.heap.size ≤ w.heap.size + 1; omega) _).setCell (by show w.heap.size ≤ w.heap.size + 1 + 1; omega) _)
    rw [errV_pos (k := 6) (by omega)] at hfin
    exact hfin
  | some ys =>
    refine HP.out.mono ?_
    rintro r w2 hpost
    obtain ⟨A2, c2, rfl, h1, h2, h3, hb2, h4⟩ := hpost.1 ys rfl
    clear hpost
    have d1 := (hb2.cell (p := ⟨w.heap.size + 1, 0, none⟩) (by show w.heap.size + 1 < _; omega)).trans hc1
    have d2 := (hb2.cell (p := ⟨w.heap.size + 1 + 1, 0, none⟩) hlt).trans hc2
    have y1 := (hb2.frozen (p := ⟨w.heap.size + 1, 0, none⟩) (by show w.heap.size + 1 < _; omega)).trans hz1
    have y2 := (hb2.frozen (p := ⟨w.heap.size + 1 + 1, 0, none⟩) hlt).trans hz2
    have hbw := hb1.trans (hb2.mono hb1.size)
    have H3 : Hid (NdSl w2 w2.heap.size A2 ys) := h3
    have H4 := Lib.hid h4
    have H1 := Lib.hid h1
    clear hc1 hc2 hz1 hz2 h3 h4 h1
    go_wp2_with fail
    refine leaves_cons (f := 59) (args := #[.pointer (some ⟨w.heap.size + 1, 0, none⟩), .pointer (some ⟨w.heap.size + 1 + 1, 0, none⟩)]) (by simp) (by simp [go_sem]) ?_
    refine (all_idle ⟨w.heap.size + 1, 0, none⟩ ⟨w.heap.size + 1 + 1, 0, none⟩ _).mono ?_
    rintro e' u' w'' ⟨rfl, rfl, rfl⟩
    simp [Leaves, settle, results, Tryz.results32, go_sem, d1, d2]
    have hoff : NdOff (fun b => b < w1.heap.size) w2 w2.heap.size A2 ys := fun hne => by
      obtain ⟨b, o, e, g1, g2⟩ := H3.out hne
      exact ⟨b, o, e, g1, by have := H4.out b o e; omega, g2⟩
    refine ⟨A2, c2, rfl, H1.out, h2, ?_, ((hbw.setCell (by show w.heap.size ≤ w.heap.size + 1; omega) _).setCell (by show w.heap.size ≤ w.heap.size + 1 + 1; omega) _)⟩
    refine (hoff.keep (fun p hp hg => ?_) (by simp)).sl
    have hg' : ¬ p.block < w1.heap.size := hg
    rw [World.cell?_setCell_other _ _ _ _ (by intro h; apply hg'; rw [← h]; exact hlt), World.cell?_setCell_other _ _ _ _ (by intro h; apply hg'; rw [← h]; show w.heap.size + 1 < _; omega)]
end Go.Proofs.YtnhcjpmamgdeoaaGreatDoor
namespace Go.Proofs.YtnhcjpmamgdeoaaGreatDoor
open Go.RowKit

def exprM (m : Mv) (e : List Nd) : List Nd × Int :=
  if mvErr m ≠ 0 then ([], mvErr m) else if treeErr e ≠ 0 then ([], treeErr e) else ((movE m e).getD [], if (movE m e).isSome = true then 0 else 6)
set_option maxRecDepth 100000 in
set_option maxHeartbeats 1600000 in
theorem move_Expr (m : Mv) (e : List Nd) (A : Option Addr) (c : Nat) (w : World) (hz : MvZ m) (hc : e.length ≤ c) (hcm : c ≤ 9223372036854775807) (hok : NdOk e) (hsl : NdSl w w.heap.size A e) :
    Calls Tryz.prog 10 #[.agg #[.int .i64 m.what, .string m.fr, .string m.to_], .slice A e.length c] w fun r w' => NdsBack w r w' (exprM m e).1 (exprM m e).2 := by
  have HC := Lib.hid (fun W => move_Check m W hz)
  have HT := Lib.hid (fun W (hW : Below w.heap.size w W) => tree_Check e A c W hc hcm hok ((hsl.below hW).more hW.size))
  by_cases hm : mvErr m = 0
  · have tm : (mvErr m != 0) = false := by simp [hm]
    by_cases he : treeErr e = 0
    · have te : (treeErr e != 0) = false := by simp [he]
      have HV : Hid (exprM m e = ((movE m e).getD [], if (movE m e).isSome = true then 0 else 6)) := by show _ = _; unfold exprM; rw [if_neg (by simp [hm]), if_neg (by simp [he])]
      have hex := (tree_iff e).1 he
      have HA := Lib.hid (fun W (hW : Below w.heap.size w W) => mover_all m false e (mpart_all hm (fun h => by cases h) e.length e (.inl ⟨rfl, _, hex.2⟩) hex.1 (Nat.le_refl _)) A c W hc hcm ((hsl.below hW).more hW.size))
      clear hm he hex hsl hok
      go_enter Tryz.func10, Tryz.ntmps10
      go_wp2_with fail
      refine (HC.out _).mono ?_
      rintro r w1 ⟨rfl, hb1⟩
      have hw1 : Below w.heap.size w w1 := Below.trans (by (repeat (first | assumption | exact Below.refl _ _ | apply Below.drew | apply below_drewN | (refine Below.alloc ?_ (by first | exact Nat.le_refl _ | omega | (simp; done) | (simp; omega)) _)))) (hb1.mono (by simp))
      obtain ⟨hcc, -⟩ := bcell hb1
      have hs1 : w.heap.size < w1.heap.size := by have := hb1.size; simp at this; omega
      clear hb1
      go_wp2_with fail
      refine (HT.out _ hw1).mono ?_
      rintro r w2 ⟨rfl, hb2⟩
      have hw2 := hw1.trans (hb2.mono hw1.size)
      obtain ⟨hcc2, -⟩ := bcell hb2
      clear hb2
      go_wp2_with fail
      refine (HA.out _ hw2).mono ?_
      rintro r w3 ⟨A3, c3, rfl, h31, h32, h33, hb3⟩
      have H33 := Lib.hid h33
      have H31 := Lib.hid h31
      have HVV : Hid ((exprM m e).1 = (movGo m false e.length e).getD [] ∧ (exprM m e).2 = if (movGo m false e.length e).isSome = true then 0 else 6) := by rw [HV.out]; exact ⟨rfl, rfl⟩
      clear h33 h31 HA HV hcc hcc2
      generalize (movGo m false e.length e).getD [] = ys at *
      generalize (if (movGo m false e.length e).isSome = true then (0 : Int) else 6) = kk at *
      go_wp2_with fail
      go_ret2
      rw [HVV.out.1, HVV.out.2]
      exact ⟨A3, c3, rfl, H31.out, h32, H33.out, hw2.trans (hb3.mono hw2.size)⟩
    · have te : (treeErr e != 0) = true := by simp [he]
      have HV : Hid (exprM m e = ([], treeErr e)) := by show _ = _; unfold exprM; rw [if_neg (by simp [hm]), if_pos he]
      clear hm he hsl hok
      generalize treeErr e = k at HT te HV
      go_enter Tryz.func10, Tryz.ntmps10
      go_wp2_with fail
      refine (HC.out _).mono ?_
      rintro r w1 ⟨rfl, hb1⟩
      have hw1 : Below w.heap.size w w1 := Below.trans (by (repeat (first | assumption | exact Below.refl _ _ | apply Below.drew | apply below_drewN | (refine Below.alloc ?_ (by first | exact Nat.le_refl _ | omega | (simp; done) | (simp; omega)) _)))) (hb1.mono (by simp))
      clear hb1
      go_wp2_with fail
      refine (HT.out _ hw1).mono ?_
      rintro r w2 ⟨rfl, hb2⟩
      have hw2 := hw1.trans (hb2.mono hw1.size)
      clear hb2
      go_wp2_with fail
      go_ret2
      rw [HV.out]
      exact NdsBack.none hw2
  · have tm : (mvErr m != 0) = true := by simp [hm]
    have HV : Hid (exprM m e = ([], mvErr m)) := by show _ = _; unfold exprM; rw [if_pos hm]
    clear hm hsl hok
    generalize mvErr m = k at HC tm HV
    go_enter Tryz.func10, Tryz.ntmps10
    go_wp2_with fail
    refine (HC.out _).mono ?_
    rintro r w1 ⟨rfl, hb1⟩
    have hw1 : Below w.heap.size w w1 := Below.trans (by (repeat (first | assumption | exact Below.refl _ _ | apply Below.drew | apply below_drewN | (refine Below.alloc ?_ (by first | exact Nat.le_refl _ | omega | (simp; done) | (simp; omega)) _)))) (hb1.mono (by simp))
    clear hb1
    go_wp2_with fail
    go_ret2
    rw [HV.out]
    exact NdsBack.none hw1
end Go.Proofs.YtnhcjpmamgdeoaaGreatDoor
namespace Go.Proofs.YtnhcjpmamgdeoaaGreatDoor
open Go.RowKit

/-- A move in memory. -/
structure MCap (m : Mv) (b : Nat) (W : World) : Prop where
  c0 : W.cell? ⟨b, 0, none⟩ = some (.int .i64 m.what)
  c1 : W.cell? ⟨b, 1, none⟩ = some (.string m.fr)
  c2 : W.cell? ⟨b, 2, none⟩ = some (.string m.to_)
  lt : b < W.heap.size
theorem MCap.later {m : Mv} {b : Nat} {W W' : World} (h : MCap m b W) (hb : Below W.heap.size W W') : MCap m b W' :=
  ⟨(hb.cell (p := ⟨b, 0, none⟩) h.lt).trans h.c0, (hb.cell (p := ⟨b, 1, none⟩) h.lt).trans h.c1, (hb.cell (p := ⟨b, 2, none⟩) h.lt).trans h.c2, Nat.lt_of_lt_of_le h.lt hb.size⟩
def hitB (m : Mv) (x : Nd) : Bool := looksB m x && x.s.toList == m.to_.toList
set_option maxRecDepth 100000 in
set_option maxHeartbeats 1600000 in
theorem fresh_clo (m : Mv) (x : Nd) (b : Nat) (w : World) (h : MCap m b w) :
    Calls Tryz.prog 36 #[.agg #[.int .i64 x.op, .int .i64 x.n, .string x.s, .string x.t], .pointer (some ⟨b, 0, none⟩)] w fun r w' => r = .returned (.bool (hitB m x)) ∧ Below w.heap.size w w' := by
  have HL := Lib.hid (fun W => move_looks m x W)
  have HM := Lib.hid h
  obtain ⟨c0, c1, c2, hlt⟩ := h
  obtain ⟨v, hv⟩ : ∃ v, hitB m x = v := ⟨_, rfl⟩
  rw [hv]
  have HV := Lib.hid hv
  clear hv
  cases hl : looksB m x with
  | true =>
    have HV2 : Hid (v = (x.s.toList == m.to_.toList)) := by show _ = _; rw [← HV.out]; unfold hitB; rw [hl]; rfl
    rw [hl] at HL
    clear hl
    go_enter Tryz.func36, Tryz.ntmps36
    go_wp2_with fail
    refine (HL.out _).mono ?_
    rintro r w1 ⟨rfl, hb1⟩
    have hw1 : Below w.heap.size w w1 := Below.trans (by (repeat (first | assumption | exact Below.refl _ _ | apply Below.drew | apply below_drewN | (refine Below.alloc ?_ (by first | exact Nat.le_refl _ | omega | (simp; done) | (simp; omega)) _)))) (hb1.mono (by simp))
    have e2 := (HM.out.later hw1).c2
    obtain ⟨hcc, -⟩ := bcell hb1
    have hs1 : w.heap.size < w1.heap.size := by have := hb1.size; simp at this; omega
    clear hb1 c0 c1 c2
    go_wp2_with fail
    all_goals (go_ret; rw [HV2.out]; exact ⟨rfl, hw1⟩)
  | false =>
    have HV2 : Hid (v = false) := by show _ = _; rw [← HV.out]; unfold hitB; rw [hl]; rfl
    rw [hl] at HL
    clear hl
    go_enter Tryz.func36, Tryz.ntmps36
    go_wp2_with fail
    refine (HL.out _).mono ?_
    rintro r w1 ⟨rfl, hb1⟩
    have hw1 : Below w.heap.size w w1 := Below.trans (by (repeat (first | assumption | exact Below.refl _ _ | apply Below.drew | apply below_drewN | (refine Below.alloc ?_ (by first | exact Nat.le_refl _ | omega | (simp; done) | (simp; omega)) _)))) (hb1.mono (by simp))
    clear hb1 c0 c1 c2
    go_wp2_with fail
    go_ret
    rw [HV2.out]
    exact ⟨rfl, hw1⟩
theorem any_take {m : Mv} {e : List Nd} {k : Nat} {x : Nd} (hx : e[k]? = some x) (h : (e.take k).any (hitB m) = false) (hh : hitB m x = false) : (e.take (k + 1)).any (hitB m) = false := by
  rw [List.take_add_one, hx, List.any_append, h]
  simp [hh]
theorem any_hit {m : Mv} {e : List Nd} {k : Nat} {x : Nd} (hx : e[k]? = some x) (hh : hitB m x = true) : e.any (hitB m) = true := List.any_eq_true.2 ⟨x, List.mem_of_getElem? hx, hh⟩
set_option maxRecDepth 100000 in
set_option maxHeartbeats 1600000 in
theorem fresh_index (m : Mv) (e : List Nd) (A : Option Addr) (c b : Nat) (w : World) (h : MCap m b w) (hl : e.length ≤ 9223372036854775807) (hsl : NdSl w w.heap.size A e) :
    Calls Tryz.prog 65 #[.slice A e.length c, .func (.func 36) #[] #[.pointer (some ⟨b, 0, none⟩)]] w fun r w' => (∃ k : Int, r = .returned (.int .i64 k) ∧ decide (0 ≤ k) = e.any (hitB m)) ∧ Below w.heap.size w w' := by
  have HM := Lib.hid h
  have HS := Lib.hid hsl
  clear h hsl
  go_enter Tryz.func65, Tryz.ntmps65
  go_wp2_with fail
  go_loopw [8] (fun kk wr => ∃ k : Nat, kk = .int .i64 k ∧ k ≤ e.length ∧ Hid ((e.take k).any (hitB m) = false) ∧ Below w.heap.size w wr) (fun kk _ => e.length - (intOf kk).toNat)
  case atStart => exact ⟨0, rfl, by omega, by simp [Hid], Below.refl _ _⟩
  case round =>
    obtain ⟨k, rfl, hk, HK, hbr⟩ := hrel
    have hzr := hbr.size
    by_cases hlt : k < e.length
    · obtain ⟨b1, o1, rfl, hb1, hcs⟩ := (HS.out.below hbr).at_ hlt
      obtain ⟨x, hx⟩ : ∃ x, e[k]? = some x := ⟨_, List.getElem?_eq_getElem hlt⟩
      obtain ⟨d0, d1, d2, d3⟩ := hcs k x hx
      have HX := Lib.hid hx
      have HC := Lib.hid (fresh_clo m x b wr (HM.out.later hbr))
      clear hcs hx
      cases hh : hitB m x with
      | true =>
        have HH := Lib.hid hh
        rw [hh] at HC
        clear hh
        go_wp2_with fail
        refine HC.out.mono ?_
        rintro r w1 ⟨rfl, hb2⟩
        have hw1 := hbr.trans (hb2.mono hbr.size)
        clear hb2 d0 d1 d2 d3
        go_wp2_with fail
        go_ret
        refine ⟨⟨k, rfl, ?_⟩, hw1⟩
        rw [any_hit HX.out HH.out]
        simp
      | false =>
        have HH := Lib.hid hh
        rw [hh] at HC
        clear hh
        go_wp2_with fail
        refine HC.out.mono ?_
        rintro r w1 ⟨rfl, hb2⟩
        have hw1 := hbr.trans (hb2.mono hbr.size)
        clear hb2 d0 d1 d2 d3
        go_wp2_with fail
        exact ⟨⟨k + 1, by go_num, by omega, any_take HX.out HK.out HH.out, hw1⟩, by simp [intOf]; omega⟩
    · have HE : Hid (e.any (hitB m) = false) := by
        have := HK.out
        rw [List.take_of_length_le (by omega)] at this
        exact this
      go_wp2_with fail
      go_ret
      refine ⟨⟨-1, rfl, ?_⟩, hbr⟩
      rw [HE.out]; rfl
set_option maxRecDepth 100000 in
set_option maxHeartbeats 1600000 in
theorem fresh_contains (m : Mv) (e : List Nd) (A : Option Addr) (c b : Nat) (w : World) (h : MCap m b w) (hl : e.length ≤ 9223372036854775807) (hsl : NdSl w w.heap.size A e) :
    Calls Tryz.prog 35 #[.slice A e.length c, .func (.func 36) #[] #[.pointer (some ⟨b, 0, none⟩)]] w fun r w' => r = .returned (.bool (e.any (hitB m))) ∧ Below w.heap.size w w' := by
  have HI := Lib.hid (fresh_index m e A c b w h hl hsl)
  clear h hsl
  generalize e.any (hitB m) = v at HI ⊢
  go_enter Tryz.func35, Tryz.ntmps35
  go_wp2_with fail
  refine HI.out.mono ?_
  rintro r w1 ⟨⟨k, rfl, hk⟩, hb1⟩
  have HK := Lib.hid hk
  clear hk
  go_wp2_with fail
  go_ret
  exact ⟨ret_bool HK.out, hb1⟩
def freshV (m : Mv) (e : List Nd) : Bool × Int := if mvErr m ≠ 0 then (false, mvErr m) else if treeErr e ≠ 0 then (false, treeErr e) else (freshB m e, 0)
set_option maxRecDepth 100000 in
set_option maxHeartbeats 1600000 in
theorem move_Fresh (m : Mv) (e : List Nd) (A : Option Addr) (c : Nat) (w : World) (hz : MvZ m) (hc : e.length ≤ c) (hcm : c ≤ 9223372036854775807) (hok : NdOk e) (hsl : NdSl w w.heap.size A e) :
    Calls Tryz.prog 15 #[.agg #[.int .i64 m.what, .string m.fr, .string m.to_], .slice A e.length c] w fun r w' => r = .returned (.tuple #[.bool (freshV m e).1, errV (freshV m e).2]) ∧ Below w.heap.size w w' := by
  have HC := Lib.hid (fun W => move_Check m W hz)
  have HT := Lib.hid (fun W (hW : Below w.heap.size w W) => tree_Check e A c W hc hcm hok ((hsl.below hW).more hW.size))
  by_cases hm : mvErr m = 0
  · have tm : (mvErr m != 0) = false := by simp [hm]
    by_cases he : treeErr e = 0
    · have te : (treeErr e != 0) = false := by simp [he]
      have HV : Hid (freshV m e = (!e.any (hitB m), 0)) := by show _ = _; unfold freshV; rw [if_neg (by simp [hm]), if_neg (by simp [he])]; rfl
      have HA := Lib.hid (fun b W (hW : Below w.heap.size w W) (hM : MCap m b W) => fresh_contains m e A c b W hM (by omega) ((hsl.below hW).more hW.size))
      clear hm he hsl hok
      generalize e.any (hitB m) = v at HA HV
      have HB : Hid (MCap m w.heap.size (w.alloc (.cells #[.int .i64 m.what, .string m.fr, .string m.to_] 23))) := by
        have h := Blk.new w 23 #[.int .i64 m.what, .string m.fr, .string m.to_]
        exact ⟨h.cell 0, h.cell 1, h.cell 2, by simp⟩
      have hmf : ∀ (fn : Fn) (first cap : Array Value) (w : World), (Instr.makeFunc fn first cap).run Tryz.prog w = .ok (.func fn first cap) w := fun _ _ _ _ => rfl
      go_enter Tryz.func15, Tryz.ntmps15
      go_wp2_with fail
      refine (HC.out _).mono ?_
      rintro r w1 ⟨rfl, hb1⟩
      have hw1 : Below w.heap.size w w1 := Below.trans (by (repeat (first | assumption | exact Below.refl _ _ | apply Below.drew | apply below_drewN | (refine Below.alloc ?_ (by first | exact Nat.le_refl _ | omega | (simp; done) | (simp; omega)) _)))) (hb1.mono (by simp))
      have HB1 := Lib.hid (HB.out.later hb1)
      clear hb1
      go_wp2_with fail
      refine (HT.out _ hw1).mono ?_
      rintro r w2 ⟨rfl, hb2⟩
      have hw2 := hw1.trans (hb2.mono hw1.size)
      have HB2 := Lib.hid (HB1.out.later hb2)
      clear hb2
      go_wp2_with fail
      refine (HA.out _ _ hw2 HB2.out).mono ?_
      rintro r w3 ⟨rfl, hb3⟩
      go_wp2_with fail
      go_ret2
      rw [HV.out]
      exact ⟨rfl, hw2.trans (hb3.mono hw2.size)⟩
    · have te : (treeErr e != 0) = true := by simp [he]
      have HV : Hid (freshV m e = (false, treeErr e)) := by show _ = _; unfold freshV; rw [if_neg (by simp [hm]), if_pos he]
      clear hm he hsl hok
      generalize treeErr e = k at HT te HV
      go_enter Tryz.func15, Tryz.ntmps15
      go_wp2_with fail
      refine (HC.out _).mono ?_
      rintro r w1 ⟨rfl, hb1⟩
      have hw1 : Below w.heap.size w w1 := Below.trans (by (repeat (first | assumption | exact Below.refl _ _ | apply Below.drew | apply below_drewN | (refine Below.alloc ?_ (by first | exact Nat.le_refl _ | omega | (simp; done) | (simp; omega)) _)))) (hb1.mono (by simp))
      clear hb1
      go_wp2_with fail
      refine (HT.out _ hw1).mono ?_
      rintro r w2 ⟨rfl, hb2⟩
      have hw2 := hw1.trans (hb2.mono hw1.size)
      clear hb2
      go_wp2_with fail
      go_ret2
      rw [HV.out]
      exact ⟨rfl, hw2⟩
  · have tm : (mvErr m != 0) = true := by simp [hm]
    have HV : Hid (freshV m e = (false, mvErr m)) := by show _ = _; unfold freshV; rw [if_pos hm]
    clear hm hsl hok
    generalize mvErr m = k at HC tm HV
    go_enter Tryz.func15, Tryz.ntmps15
    go_wp2_with fail
    refine (HC.out _).mono ?_
    rintro r w1 ⟨rfl, hb1⟩
    have hw1 : Below w.heap.size w w1 := Below.trans (by (repeat (first | assumption | exact Below.refl _ _ | apply Below.drew | apply below_drewN | (refine Below.alloc ?_ (by first | exact Nat.le_refl _ | omega | (simp; done) | (simp; omega)) _)))) (hb1.mono (by simp))
    clear hb1
    go_wp2_with fail
    go_ret2
    rw [HV.out]
    exact ⟨rfl, hw1⟩
end Go.Proofs.YtnhcjpmamgdeoaaGreatDoor
