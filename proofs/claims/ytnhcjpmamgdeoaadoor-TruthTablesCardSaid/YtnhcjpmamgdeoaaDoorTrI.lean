/-
  THE WALK of (*truth.diagram).cell.
-/
import Derived.Test.YtnhcjpmamgdeoaaDoorTrH
import Derived.StillTailTactics
import Derived.Deep.RegionHeld3
import Derived.BigRegion
namespace Go.Proofs.YtnhcjpmamgdeoaaDoor
set_option maxRecDepth 100000
open Go.RowKit Go.Sort Go.Maps

theorem int_zero (w : World) : (zeroValue 3).run Tryd.prog w = .ok (.int .i64 0) w := by kernel_rfl
theorem map_drewN {mb n : Nat} {D : WD} {w : World} (h : w.ownsMap Tryd.prog 51 (plainElem (H := Unit) Tryd.prog 3) mb n D) (m : Nat) : (w.drewN m).ownsMap Tryd.prog 51 (plainElem (H := Unit) Tryd.prog 3) mb n D := by
  induction m generalizing w with
  | zero => exact h
  | succ m ih => exact ih h.drew
theorem dia_look {cs : List Ce} {D : WD} (hok : MapOk cs D) {c : Ce} (hc : CeSm c) {mb n : Nat} {W : World} (h : W.ownsMap Tryd.prog 51 (plainElem (H := Unit) Tryd.prog 3) mb n D) :
    (Instr.lookup 57 (.map (some mb)) (.agg #[.int .i64 c.atom, .int .i64 c.low, .int .i64 c.high]) true).run Tryd.prog W = .ok (.tuple #[.int .i64 (if c ∈ cs.drop 2 then (((cs.drop 2).idxOf c + 2 : Nat) : Int) else 0), .bool (decide (c ∈ cs.drop 2))]) W := by
  have hk := ceK_eq hc
  have hz : plainElem (H := Unit) Tryd.prog 3 (.int .i64 0) = some (.lit (.int .i64 0), []) := plainElem_int Tryd.underlying3 (by decide)
  obtain ⟨v, ps, hr, hv⟩ := h.look_ok ce_law Tryd.underlying57 (int_zero W) hz hk
  obtain ⟨x, rfl, hx, _⟩ := plainElem_int_inv Tryd.underlying3 hv
  simp only [Prod.mk.injEq] at hx
  have h1 := (hok c hc).1
  show (Instr.lookup 57 (.map (some mb)) (ceV c) true).run Tryd.prog W = _
  rw [hr, h1]
  by_cases hm : c ∈ cs.drop 2
  · have := (hok c hc).2 hm (.lit (.int .i64 0))
    rw [this] at hx
    injection hx.1 with e; injection e with _ e
    rw [if_pos hm, ← e]
  · have h0 : Maps.has D (ceK c) = false := by rw [h1]; simpa using hm
    rw [atKey_of_not_has h0] at hx
    injection hx.1 with e; injection e with _ e
    rw [if_neg hm, ← e]
theorem row_drewN {base n : Nat} {xs : List Value} {v : Value} {w : World} (h : w.ownsRow base 51 3 v n xs) (m : Nat) : (w.drewN m).ownsRow base 51 3 v n xs := by
  induction m generalizing w with
  | zero => exact h
  | succ m ih => exact ih h.drew
theorem DiaX.drewN {base db : Nat} {cs : List Ce} {g cap mb : Nat} {D : WD} {w : World} (h : DiaX base db cs g cap mb D w) (n : Nat) : DiaX base db cs g cap mb D (w.drewN n) :=
  ⟨h.c0, h.c1, h.f0, row_drewN h.row n, map_drewN h.map n, h.ok, h.dbge, h.mbge, h.dg, h.mg, h.md⟩
theorem cellP_low {cs : List Ce} {a : Int} {l : Nat} : cellP cs ⟨a, l, l⟩ = (cs, l) := by unfold cellP; rw [if_pos rfl]
theorem cellP_old {cs : List Ce} {c : Ce} (h : c.low ≠ c.high) (hm : c ∈ cs.drop 2) : cellP cs c = (cs, (cs.drop 2).idxOf c + 2) := by
  unfold cellP; rw [if_neg h, if_pos (List.idxOf_lt_length_iff.2 hm)]
theorem cellP_new {cs : List Ce} {c : Ce} (h : c.low ≠ c.high) (hm : c ∉ cs.drop 2) : cellP cs c = (cs ++ [c], cs.length) := by
  unfold cellP; rw [if_neg h, if_neg (fun hh => hm (List.idxOf_lt_length_iff.1 hh))]
set_option maxHeartbeats 3200000 in
theorem dia_cell_same (base db : Nat) (cs : List Ce) (a : Int) (l : Nat) (w : World) (h : DiaAt base db cs w) (hbw : base ≤ w.heap.size) :
    Calls Tryd.prog 33 #[.pointer (some ⟨db, 0, none⟩), .agg #[.int .i64 a, .int .i64 l, .int .i64 l]] w fun r w' => r = .returned (.int .i64 l) ∧ DiaAt base db cs w' ∧ RowKit.Below base w w' := by
  obtain ⟨g, cap, mb, D, hX⟩ := h
  go_enter Tryd.func33, Tryd.ntmps33
  go_wp2_with fail
  go_ret
  have hb : RowKit.Below w.heap.size w (w.alloc (.cells #[.int .i64 a, .int .i64 l, .int .i64 l] 51)) := by (repeat (first | assumption | exact Below.refl _ _ | apply Below.drew | apply below_drewN | (refine Below.alloc ?_ (by first | exact Nat.le_refl _ | omega | (simp; done) | (simp; omega)) _)))
  exact ⟨rfl, ⟨g, cap, mb, D, hX.later hb⟩, hb.mono hbw⟩
set_option maxHeartbeats 3200000 in
theorem dia_cell_old (base db : Nat) (cs : List Ce) (c : Ce) (w : World) (h : DiaAt base db cs w) (hc : CeSm c) (hlu : c.low ≠ c.high) (hm : c ∈ cs.drop 2) (hbw : base ≤ w.heap.size) :
    Calls Tryd.prog 33 #[.pointer (some ⟨db, 0, none⟩), .agg #[.int .i64 c.atom, .int .i64 c.low, .int .i64 c.high]] w fun r w' => r = .returned (.int .i64 ((cs.drop 2).idxOf c + 2 : Nat)) ∧ DiaAt base db cs w' ∧ RowKit.Below base w w' := by
  obtain ⟨g, cap, mb, D, hX⟩ := h
  have hb : RowKit.Below w.heap.size w (w.alloc (.cells #[.int .i64 c.atom, .int .i64 c.low, .int .i64 c.high] 51)) := by (repeat (first | assumption | exact Below.refl _ _ | apply Below.drew | apply below_drewN | (refine Below.alloc ?_ (by first | exact Nat.le_refl _ | omega | (simp; done) | (simp; omega)) _)))
  have hX1 := hX.later hb
  have HL := dia_look hX.ok hc hX1.map
  rw [if_pos hm, decide_eq_true hm] at HL
  have HLd : ∀ n, (Instr.lookup 57 (.map (some mb)) (.agg #[.int .i64 c.atom, .int .i64 c.low, .int .i64 c.high]) true).run Tryd.prog ((w.alloc (.cells #[.int .i64 c.atom, .int .i64 c.low, .int .i64 c.high] 51)).drewN n) = _ := fun n => dia_look hX.ok hc (map_drewN hX1.map n)
  rw [if_pos hm, decide_eq_true hm] at HLd
  generalize (cs.drop 2).idxOf c + 2 = k at HL HLd ⊢
  have c0 := hX1.c0
  have c1 := hX1.c1
  have t1 : ((c.low : Int) == (c.high : Int)) = false := by rw [beq_eq_false_iff_ne]; omega
  have HX := Lib.hid hX1
  clear hX hX1 hm hlu
  obtain ⟨a, l, u⟩ := c
  simp only at HL HLd t1 c0 c1 ⊢
  go_enter Tryd.func33, Tryd.ntmps33
  go_wp2_with fail
  go_quiet (fail)
  go_wp2_with fail
  go_ret
  exact ⟨rfl, ⟨g, cap, mb, D, HX.out.drewN _⟩, below_drewN (hb.mono hbw) _⟩
/-- The cell is behind the others, not yet in the map. -/
theorem dia_put {base db : Nat} {cs : List Ce} {g cap mb : Nat} {D : WD} {W : World} (h : DiaX base db cs g cap mb D W) {X : Obj} {c : Ce} {gg cap2 : Nat} {w1 : World}
    (hown : w1.ownsRow base 51 3 (.slice (some ⟨gg, 0, none⟩) (cs.length + 1) cap2) (cs.length + 1) (flatG ceC cs ++ [.int .i64 c.atom, .int .i64 c.low, .int .i64 c.high]))
    (hgrow : (W.alloc X).drew.grownBy w1 (some g)) (hat : some g = some gg ∨ gg = W.heap.size + 1) {W3 : World} (hW : w1.setCell ⟨db, 0, none⟩ (.slice (some ⟨gg, 0, none⟩) (cs.length + 1) cap2) = W3) :
    Blk W3 db 59 #[.slice (some ⟨gg, 0, none⟩) (cs.length + 1) cap2, .map (some mb)] ∧
    W3.ownsRow base 51 3 (.slice (some ⟨gg, 0, none⟩) (cs.length + 1) cap2) (cs.length + 1) (flatG ceC (cs ++ [c])) ∧
    W3.ownsMap Tryd.prog 51 (plainElem (H := Unit) Tryd.prog 3) mb cs.length D ∧
    (∀ b o, b < W.heap.size → b ≠ g → b ≠ db → W3.cell? ⟨b, o, none⟩ = W.cell? ⟨b, o, none⟩) ∧ RowKit.Below base W W3 ∧ db ≠ gg ∧ mb ≠ gg := by
  have lt := h.lt
  have dg := h.dg
  have mg := h.mg
  have md := h.md
  have g1 : ∀ k, k < W.heap.size → k ≠ g → w1.heap[k]? = W.heap[k]? := fun k hk hn =>
    (hgrow.block k (by simp; omega) (by simp; exact hn)).trans ((World.grownBy_alloc W X none).block k hk (by simp))
  have e1 : db ≠ gg := by
    rcases hat with e | e
    · injection e with e; omega
    · omega
  have e2 : mb ≠ gg := by
    rcases hat with e | e
    · injection e with e; omega
    · omega
  subst hW
  refine ⟨?_, ?_, ?_, ?_, ?_, e1, e2⟩
  · have hb : Blk w1 db 59 #[.slice (some ⟨g, 0, none⟩) cs.length cap, .map (some mb)] := (g1 db lt.1 dg).trans h.f0
    exact hb.set 0 _
  · rw [flatG_append, flatG_one]
    exact hown.kept (row := some db) ⟨rfl, rfl, rfl, by simp [World.setCell], fun k _ hk => RowKit.Below.heap_setCell _ _ _ _ (fun e => hk (by rw [e]))⟩ (.inr (by simp [Value.ownBlock]; omega))
  · exact (((h.map.alloc X).drew.kept hgrow (by simp; exact mg)).setCell (by exact md) _)
  · intro b o hb hg hd
    rw [World.cell?_setCell_other _ _ _ _ (by simp only [ne_eq, Addr.mk.injEq]; omega)]
    exact World.cell?_of_block (g1 b hb hg)
  · exact (((RowKit.Below.refl base W).alloc lt.2.2.2.2 X).drew.grown hgrow (by simp; omega) (fun k hk => by injection hk with hk; omega)).setCell (p := ⟨db, 0, none⟩) h.dbge _
/-- .. and in the map. -/
theorem dia_done {base db : Nat} {cs : List Ce} {gg cap2 mb : Nat} {D : WD} {W3 w2 : World} {c : Ce} (hc : CeSm c) (hm : c ∉ cs.drop 2) (h2 : 2 ≤ cs.length) (hok : MapOk cs D) (hdb : base ≤ db) (hmb : base ≤ mb) (md : mb ≠ db) (dg : db ≠ gg) (mg : mb ≠ gg)
    (hf : Blk W3 db 59 #[.slice (some ⟨gg, 0, none⟩) (cs.length + 1) cap2, .map (some mb)])
    (hr : W3.ownsRow base 51 3 (.slice (some ⟨gg, 0, none⟩) (cs.length + 1) cap2) (cs.length + 1) (flatG ceC (cs ++ [c])))
    (hM : W3.ownsMap Tryd.prog 51 (plainElem (H := Unit) Tryd.prog 3) mb cs.length D)
    (hown : w2.ownsMap Tryd.prog 51 (plainElem (H := Unit) Tryd.prog 3) mb (cs.length + 1) (D.put (ceK c) (.lit (.int .i64 (cs.length : Nat)))))
    (hgrow : W3.grownBy w2 (some mb)) : DiaX base db (cs ++ [c]) gg cap2 mb (D.put (ceK c) (.lit (.int .i64 (cs.length : Nat)))) w2 := by
  have hf2 : Blk w2 db 59 #[.slice (some ⟨gg, 0, none⟩) (cs.length + 1) cap2, .map (some mb)] := (hgrow.block db hf.lt (by simp; omega)).trans hf
  have hl : (cs ++ [c]).length = cs.length + 1 := by simp
  refine ⟨by rw [hl]; exact hf2.cell 0, hf2.cell 1, by rw [hl]; exact hf2, by rw [hl]; exact hr.kept hgrow (.inr (by simp [Value.ownBlock]; omega)), by rw [hl]; exact hown, mapOk_put hok hM.isMap h2 hc hm, hdb, hmb, dg, mg, md⟩
set_option maxHeartbeats 6400000 in
theorem dia_cell_new (base db : Nat) (cs : List Ce) (c : Ce) (w : World) (h : DiaAt base db cs w) (hc : CeSm c) (hlu : c.low ≠ c.high) (hm : c ∉ cs.drop 2) (h2 : 2 ≤ cs.length) (hl : cs.length ≤ 1000) (hbw : base ≤ w.heap.size) :
    Calls Tryd.prog 33 #[.pointer (some ⟨db, 0, none⟩), .agg #[.int .i64 c.atom, .int .i64 c.low, .int .i64 c.high]] w fun r w' => r = .returned (.int .i64 cs.length) ∧ DiaAt base db (cs ++ [c]) w' ∧ RowKit.Below base w w' := by
  obtain ⟨i0, hi0, hz0, hz1, hz2⟩ := info_parts ce_info
  obtain ⟨g, cap, mb, D, hX⟩ := h
  have hb : RowKit.Below w.heap.size w (w.alloc (.cells #[.int .i64 c.atom, .int .i64 c.low, .int .i64 c.high] 51)) := by (repeat (first | assumption | exact Below.refl _ _ | apply Below.drew | apply below_drewN | (refine Below.alloc ?_ (by first | exact Nat.le_refl _ | omega | (simp; done) | (simp; omega)) _)))
  have hX1 := hX.later hb
  have HL : ∀ n, (Instr.lookup 57 (.map (some mb)) (.agg #[.int .i64 c.atom, .int .i64 c.low, .int .i64 c.high]) true).run Tryd.prog ((w.alloc (.cells #[.int .i64 c.atom, .int .i64 c.low, .int .i64 c.high] 51)).drewN n) = _ := fun n => dia_look hX.ok hc (map_drewN hX1.map n)
  rw [if_neg hm, decide_eq_false hm] at HL
  have c0 := hX1.c0
  have c1 := hX1.c1
  have lt := hX.lt
  have dg := hX.dg
  have e0 : (w.alloc (.cells #[.int .i64 c.atom, .int .i64 c.low, .int .i64 c.high] 51)).cell? ⟨w.heap.size, 0, none⟩ = some (.int .i64 c.atom) := by rw [World.cell?_alloc_new]; rfl
  have e1 : (w.alloc (.cells #[.int .i64 c.atom, .int .i64 c.low, .int .i64 c.high] 51)).cell? ⟨w.heap.size, 1, none⟩ = some (.int .i64 c.low) := by rw [World.cell?_alloc_new]; rfl
  have e2 : (w.alloc (.cells #[.int .i64 c.atom, .int .i64 c.low, .int .i64 c.high] 51)).cell? ⟨w.heap.size, 2, none⟩ = some (.int .i64 c.high) := by rw [World.cell?_alloc_new]; rfl
  have t1 : ((c.low : Int) == (c.high : Int)) = false := by rw [beq_eq_false_iff_ne]; omega
  have HX := Lib.hid hX1
  have HC := Lib.hid hc
  have hrow := hX1.row
  clear hX hX1 hlu
  obtain ⟨a, l, u⟩ := c
  simp only at HL t1 c0 c1 e0 e1 e2 ⊢
  go_enter Tryd.func33, Tryd.ntmps33
  go_wp2_with fail
  go_quiet (fail)
  go_wp2_with fail
  have HX2 := Lib.hid (HX.out.drewN nq)
  have hrow2 := HX2.out.row
  have c0' : ((w.alloc (.cells #[.int .i64 a, .int .i64 l, .int .i64 u] 51)).drewN nq).cell? ⟨db, 0, none⟩ = some (.slice (some ⟨g, 0, none⟩) cs.length cap) := c0
  have e0' : ((w.alloc (.cells #[.int .i64 a, .int .i64 l, .int .i64 u] 51)).drewN nq).cell? ⟨w.heap.size, 0, none⟩ = some (.int .i64 a) := e0
  have e1' : ((w.alloc (.cells #[.int .i64 a, .int .i64 l, .int .i64 u] 51)).drewN nq).cell? ⟨w.heap.size, 1, none⟩ = some (.int .i64 l) := e1
  have e2' : ((w.alloc (.cells #[.int .i64 a, .int .i64 l, .int .i64 u] 51)).drewN nq).cell? ⟨w.heap.size, 2, none⟩ = some (.int .i64 u) := e2
  have hsz : ((w.alloc (.cells #[.int .i64 a, .int .i64 l, .int .i64 u] 51)).drewN nq).heap.size = w.heap.size + 1 := by simp
  have hB2 : RowKit.Below w.heap.size w ((w.alloc (.cells #[.int .i64 a, .int .i64 l, .int .i64 u] 51)).drewN nq) := below_drewN hb nq
  have f0' := HX2.out.f0.frozen 0
  clear HX hrow c0 c1 e0 e1 e2 HL hb
  generalize (w.alloc (.cells #[.int .i64 a, .int .i64 l, .int .i64 u] 51)).drewN nq = W at *
  have HSZ := Lib.hid hsz
  have hs1 : w.heap.size < W.heap.size := by omega
  have hs2 : db < W.heap.size := by omega
  clear hsz
  have KF : (W.alloc (.cells #[.int .i64 a, .int .i64 l, .int .i64 u] 51)).frozen? ⟨db, 0, none⟩ = false := ((World.grownBy_alloc W (.cells #[.int .i64 a, .int .i64 l, .int .i64 u] 51) none).frozen_far ⟨db, 0, none⟩ hs2 (by simp)).trans f0'
  have KC : (W.alloc (.cells #[.int .i64 a, .int .i64 l, .int .i64 u] 51)).cell? ⟨db, 0, none⟩ = some (.slice (some ⟨g, 0, none⟩) cs.length cap) := (World.cell?_alloc_lt W _ _ hs2).trans c0'
  have KF2 : (W.alloc (.cells #[.int .i64 a, .int .i64 l, .int .i64 u] 51)).drew.frozen? ⟨db, 0, none⟩ = false := KF
  go_region_law
    ((refine step_append_lies _ (by rfl) _ _ _ (by rfl) base 51 i0 _ 3 24 Tryd.underlying27 hi0 hz0 hz1 hz2 rfl (by omega) (.slice (some ⟨g, 0, none⟩) cs.length cap) cs.length (flatG ceC cs) (by rfl) ((hrow2.alloc _).drew)
        ⟨W.heap.size, 0, none⟩ 1 1 [.int .i64 a, .int .i64 l, .int .i64 u] (by rfl) (by rfl) (World.news_of_block (cs := #[.int .i64 a, .int .i64 l, .int .i64 u]) (t := 51) (fr := (0, 0)) (heap_alloc_new W _)) (by simp [Value.oneCell'])
        (by omega) (by unfold maxLen; omega) (by omega) (by simp; omega) (W.heap.size + 1) (by simp) ?_; intro gg cap2 w1 hown1 hgrow hat hlt; have hf1 := (hgrow.frozen_far ⟨db, 0, none⟩ (by simp; omega) (by simp [Value.ownBlock]; omega)).trans KF; have hc1 := (hgrow.cell_far ⟨db, 0, none⟩ (by simp; omega) (by simp [Value.ownBlock]; omega)).trans KC))
  all_goals (
    obtain ⟨p1, p2, p3, p4, p5, p6, p7⟩ := dia_put HX2.out (c := ⟨a, l, u⟩) hown1 hgrow hat rfl
    have P1 := Lib.hid p1
    have P2 := Lib.hid p2
    have P3 := Lib.hid p3
    have P5 := Lib.hid p5
    have x0 := p1.cell 0
    have x1 := p1.cell 1
    have x2 := (p4 w.heap.size 0 hs1 (by omega) (by omega)).trans e0'
    have x3 := (p4 w.heap.size 1 hs1 (by omega) (by omega)).trans e1'
    have x4 := (p4 w.heap.size 2 hs1 (by omega) (by omega)).trans e2'
    clear p1 p2 p3 p4 p5 hown1 hgrow hf1 hc1 c0' e0' e1' e2' f0' KC KF KF2
    generalize w1.setCell ⟨db, 0, none⟩ (.slice (some ⟨gg, 0, none⟩) (cs.length + 1) cap2) = W3 at *
    have HK : Hid (keyOf Tryd.prog 51 (.agg #[.int .i64 a, .int .i64 l, .int .i64 u]) = some (ceK ⟨a, l, u⟩)) := ceK_eq HC.out
    have HSB : Hid (base ≤ W3.drew.heap.size) := by show _ ≤ W3.heap.size; have := P2.out.lt gg rfl; omega
    have HDN := Lib.hid (fun (w2 : World) (hm2 : w2.ownsMap Tryd.prog 51 (plainElem (H := Unit) Tryd.prog 3) mb (cs.length + 1) (D.put (ceK ⟨a, l, u⟩) (.lit (.int .i64 (cs.length : Nat))))) (hg2 : W3.drew.grownBy w2 (some mb)) => dia_done HC.out hm h2 HX2.out.ok HX2.out.dbge HX2.out.mbge HX2.out.md p6 p7 (W3 := W3.drew) P1.out P2.out.drew P3.out.drew hm2 hg2)
    have HLN : Hid ((cs ++ [(⟨a, l, u⟩ : Ce)]).length = cs.length + 1) := by show _ = _; simp
    have hmb := HX2.out.mbge
    have HBN := Lib.hid (fun (w2 : World) (hg2 : W3.drew.grownBy w2 (some mb)) => Lib.hid (P5.out.drew.grown hg2 HSB.out (fun k hk => by injection hk with hk; omega)))
    have hwr : IntKind.i64.wrap (cs.length : Int) = (cs.length : Int) := by rw [IntKind.wrap_i64]; omega
    go_wp2_with fail
    go_still_tail 11, (by kernel_rfl)
    change wpList _ _ _ _ _ W3.drew
    have hval : plainElem (H := Unit) Tryd.prog 3 (.int .i64 (cs.length : Nat)) = some (.lit (.int .i64 (cs.length : Nat)), []) := plainElem_int Tryd.underlying3 (by simp [Lit.wf, IntKind.min, IntKind.max, IntKind.signed, IntKind.bits]; omega)
    go_wp2_with (at_mapUpdate; refine wpList_mapUpdate_own _ rfl _ _ _ 57 rfl 51 3 ce_law Tryd.underlying57 (plainElem (H := Unit) Tryd.prog 3) mb cs.length D rfl P3.out.drew (by unfold maxLen; omega) (.agg #[.int .i64 a, .int .i64 l, .int .i64 u]) (.int .i64 (cs.length : Nat)) (ceK ⟨a, l, u⟩) rfl rfl HK.out (.lit (.int .i64 (cs.length : Nat))) [] hval ?_; intro w2 hm2 hg2; have hD := HDN.out w2 hm2 hg2; have d0 := hD.c0; rw [HLN.out] at d0; have HD := Lib.hid hD; have HB2 := HBN.out w2 hg2; clear hm2 hg2 hD)
    go_ret
    exact ⟨rfl, ⟨gg, cap2, mb, _, HD.out⟩, (hB2.mono hbw).trans HB2.out⟩)
theorem dia_cell (base db : Nat) (cs : List Ce) (c : Ce) (w : World) (h : DiaAt base db cs w) (hc : CeSm c) (h2 : 2 ≤ cs.length) (hl : cs.length ≤ 1000) (hbw : base ≤ w.heap.size) :
    Calls Tryd.prog 33 #[.pointer (some ⟨db, 0, none⟩), .agg #[.int .i64 c.atom, .int .i64 c.low, .int .i64 c.high]] w fun r w' => r = .returned (.int .i64 (cellP cs c).2) ∧ DiaAt base db (cellP cs c).1 w' ∧ RowKit.Below base w w' := by
  by_cases hlu : c.low = c.high
  · obtain ⟨a, l, u⟩ := c
    simp only at hlu
    subst hlu
    rw [cellP_low]
    exact dia_cell_same base db cs a l w h hbw
  · by_cases hm : c ∈ cs.drop 2
    · rw [cellP_old hlu hm]
      exact dia_cell_old base db cs c w h hc hlu hm hbw
    · rw [cellP_new hlu hm]
      exact dia_cell_new base db cs c w h hc hlu hm h2 hl hbw
end Go.Proofs.YtnhcjpmamgdeoaaDoor
