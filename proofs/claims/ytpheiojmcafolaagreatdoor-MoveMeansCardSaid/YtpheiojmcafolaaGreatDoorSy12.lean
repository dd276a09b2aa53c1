/-
 THE WALKS: (move.mover).part, at all nodes; the deferred closure of (move.mover).all. THE WALKS: move.Expr, move.Fresh. THE WALKS: move.Fresh.
 THE WALKS: slices.Clone and slices.CompactFunc of lists of nodes, by val.order. THE WALK: slices.CompactFunc of lists of nodes, by val.order. THE WALKS: slices.Clone of lists of nodes; the sort by val.order; val.SetOf. THE WALK: val.SetOf, of values.
 THE WALKS: val.Parts, val.Get.
-/
import Derived.Test.YtpheiojmcafolaaGreatDoorSy11
import Derived.Test.YtpheiojmcafolaaGreatDoorSy08
import Derived.Maps.RangeWalk
import Derived.Test.YtpheiojmcafolaaGreatDoorSy10
import Derived.Test.YtpheiojmcafolaaGreatDoorSy09
namespace Go.Proofs.YtpheiojmcafolaaGreatDoor
open Go.RowKit
theorem mq_pcs {m : Mv} (hm : mvErr m = 0) {vals : Bool} {k : Nat} {xs : List Nd} (h : Mq vals xs) (hl : xs.length ≤ 200) (hk : xs.length ≤ k + 1) (ih : ∀ p, Mq vals p → p.length ≤ k → p.length ≤ 200 → PartM m vals k p) :
 ∃ x ps, Pcs m vals k xs x ps ∧ (vals = true → x.op = 5 → ∀ p ∈ ps, Vx p) := by
 obtain ⟨x, ps, rfl, hc⟩ := h.cut;rw [List.length_cons] at hl hk;obtain ⟨b, hb⟩ := h.ex;refine ⟨x, ps, ⟨rfl, by simpa using hl, fun p hp => (hc.mq p hp).ex, fun y hy => ?_, fun p hp => ih p (hc.mq p hp) (by have := mem_len hp; omega) (by have := mem_len hp; omega), fun p hp q hq => ?_⟩, hc.set⟩
 · have := ex_par hb y hy;rw [List.length_cons] at this;omega
 · have hle := mem_len hp;obtain ⟨h1, h2, _⟩ := (hc.mq p hp).mov hm (by omega) (k := k) (by omega) hq;exact ⟨h1, h2⟩
theorem mpart_all {m : Mv} (hm : mvErr m = 0) {vals : Bool} (hset : vals = true → ∀ k e x ps, Pcs m vals k e x ps → e.length ≤ k + 1 → x.op = 5 → (∀ p ∈ ps, Vx p) → PartM m vals (k + 1) e) :
 ∀ (k : Nat) (xs : List Nd), Mq vals xs → xs.length ≤ 200 → xs.length ≤ k → PartM m vals k xs
 | 0, xs, h, hl, hk => by
  obtain ⟨b, hb⟩ := h.ex;obtain ⟨x, r, rfl, _⟩ := ex_ne hb;simp at hk
 | k + 1, xs, h, hl, hk => by
  obtain ⟨x, ps, hP, hv⟩ := mq_pcs hm h hl hk (fun p hp h1 h2 => mpart_all hm hset k p hp h2 h1);by_cases h6 : x.op = 6
  · exact mpart_rec m vals k xs x ps hP h6
  · cases vals with
    | false => exact part_oth m false k xs x ps hP h6 (fun _ => rfl)
    | true =>
     by_cases h5 : x.op = 5
     · exact hset rfl k xs x ps hP hk h5 (hv rfl h5)
     · exact part_oth m true k xs x ps hP h6 (fun h => absurd h h5)
theorem assert_twice (w : World) : (Instr.typeAssert (.iface 165 (.agg #[])) 20 165 true).run Tryz.prog w = .ok (.tuple #[.agg #[], .bool true]) w := by kernel_rfl
set_option maxHeartbeats 800000 in
theorem all_idle (p q : Addr) (w : World) :
 CallsD Tryz.prog 100 #[.pointer (some p), .pointer (some q)] .returning w fun e u' w' => e = .returned (.tuple #[]) ∧ u' = .returning ∧ w' = w := by
 refine callsD_of_wpS Tryz.func100 rfl fun c₀ cs hu => ?_;apply wpS_seq;apply wpS_region;simp [wpOpsS, go_sem, recoverD, hu, Tryz.ntmps100, Exit.thenS];refine wpS_of_wp ?_;simp only [Array.replicate_succ, Array.replicate_zero, List.push_toArray, List.nil_append, List.cons_append];go_wp2
 cases c₀
 simp_all [bodyPostS, results, Tryz.results100]
set_option maxHeartbeats 800000 in
theorem all_catch (b : Nat) (x y : Value) (older : List PanicEntry) (w : World) (hc : w.cell? ⟨b, 0, none⟩ = some x) (hz : w.frozen? ⟨b, 0, none⟩ = false) (hc2 : w.cell? ⟨b + 1, 0, none⟩ = some y) (hz2 : w.frozen? ⟨b + 1, 0, none⟩ = false) :
 CallsD Tryz.prog 100 #[.pointer (some ⟨b, 0, none⟩), .pointer (some ⟨b + 1, 0, none⟩)] (.panicking ({ v := .iface 165 (.agg #[]), recovered := false } :: older)) w fun e u' w' =>
  e = .returned (.tuple #[]) ∧ u' = .panicking ({ v := .iface 165 (.agg #[]), recovered := true } :: older) ∧ ∃ o, w' = ((w.alloc o).setCell ⟨b, 0, none⟩ (.slice none 0 0)).setCell ⟨b + 1, 0, none⟩ (.iface 96 (.int .i64 6)) := by
 have hta := assert_twice;have hcw : (w.alloc (.cells #[] 165)).cell? ⟨b, 0, none⟩ = some x := (World.cell?_alloc_lt w _ _ (World.block_lt_of_cell? w _ hc)).trans hc;have hzw : (w.alloc (.cells #[] 165)).frozen? ⟨b, 0, none⟩ = false := (((Below.refl w.heap.size w).alloc (Nat.le_refl _) _).frozen (World.block_lt_of_cell? w _ hc)).trans hz;have hcw2 : (w.alloc (.cells #[] 165)).cell? ⟨b + 1, 0, none⟩ = some y := (World.cell?_alloc_lt w _ _ (World.block_lt_of_cell? w _ hc2)).trans hc2;have hzw2 : (w.alloc (.cells #[] 165)).frozen? ⟨b + 1, 0, none⟩ = false := (((Below.refl w.heap.size w).alloc (Nat.le_refl _) _).frozen (World.block_lt_of_cell? w _ hc2)).trans hz2;refine callsD_of_wpS Tryz.func100 rfl fun c₀ cs hu => ?_;apply wpS_seq;apply wpS_region;simp [wpOpsS, go_sem, recoverD, hu, Tryz.ntmps100, Exit.thenS];refine wpS_of_wp ?_;simp only [Array.replicate_succ, Array.replicate_zero, List.push_toArray, List.nil_append, List.cons_append];go_wp2
 simp [bodyPostS, results, Tryz.results100];exact ⟨_, rfl⟩
def NdsB2 (w : World) (r : Ending) (w' : World) (xs : List Nd) (k : Int) : Prop :=
 ∃ A c, r = .returned (.tuple #[.slice A xs.length c, errV k]) ∧ xs.length ≤ c ∧ c ≤ 9223372036854775807 ∧ NdSl w' w'.heap.size A xs ∧ Below w.heap.size w w' ∧ ∀ b o, A = some ⟨b, o, none⟩ → w.heap.size ≤ b
theorem NdsB2.none {w w' : World} {k : Int} (h : Below w.heap.size w w') : NdsB2 w (.returned (.tuple #[.slice none 0 0, errV k])) w' [] k :=
 ⟨Option.none, 0, rfl, Nat.le_refl _, by omega, NdSl.nil _ _ _, h, by simp⟩
set_option maxHeartbeats 1600000 in
theorem mover_all (m : Mv) (vals : Bool) (e : List Nd) (hp : PartM m vals e.length e) (A : Option Addr) (c : Nat) (w : World) (hc : e.length ≤ c) (hcm : c ≤ 9223372036854775807) (hsl : NdSl w w.heap.size A e) :
 Calls Tryz.prog 70 #[.agg #[.int .i64 m.what, .string m.fr, .string m.to_, .bool vals], .slice A e.length c] w fun r w' => NdsB2 w r w' ((movGo m vals e.length e).getD []) (if (movGo m vals e.length e).isSome = true then 0 else 6) := by
 have hmf : ∀ (fn : Fn) (first cap : Array Value) (w : World), (Instr.makeFunc fn first cap).run Tryz.prog w = .ok (.func fn first cap) w := fun _ _ _ _ => rfl;obtain ⟨w1, hw1⟩ : ∃ w1, ((w.alloc (.cells #[.int .i64 m.what, .string m.fr, .string m.to_, .bool vals] 128)).alloc (.cells #[.slice none 0 0] 22)).alloc (.cells #[.nilIface] 27) = w1 := ⟨_, rfl⟩;have hb1 : Below w.heap.size w w1 := by rw [← hw1]; (repeat (first | assumption | exact Below.refl _ _ | apply Below.drew | apply below_drewN | (refine Below.alloc ?_ (by first | exact Nat.le_refl _ | omega | (simp; done) | (simp; omega)) _)))
 have hsz : w.heap.size + 3 = w1.heap.size := by rw [← hw1]; simp
 have hc1 : w1.cell? ⟨w.heap.size + 1, 0, none⟩ = some (.slice none 0 0) := by rw [← hw1]; simp [go_sem]
 have hz1 : w1.frozen? ⟨w.heap.size + 1, 0, none⟩ = false := by rw [← hw1]; simp [go_sem]
 have hc2 : w1.cell? ⟨w.heap.size + 1 + 1, 0, none⟩ = some .nilIface := by rw [← hw1]; simp [go_sem]
 have hz2 : w1.frozen? ⟨w.heap.size + 1 + 1, 0, none⟩ = false := by rw [← hw1]; simp [go_sem]
 have HP := Lib.hid (hp w1 A c hc hcm ((hsl.below hb1).more hb1.size));have HSZ := Lib.hid hsz;have hlt : w.heap.size + 1 + 1 < w1.heap.size := by omega
 have HW1 := Lib.hid hw1;clear hsl hsz hp hw1;generalize movGo m vals e.length e = o at HP ⊢;go_enter_defers Tryz.func70, Tryz.ntmps70
 go_wp2_with fail
 rw [HW1.out];cases o with
 | none =>
  refine HP.out.mono ?_;rintro r w2 hpost;obtain ⟨rfl, hb2⟩ := hpost.2 rfl;clear hpost;have d1 := (hb2.cell (p := ⟨w.heap.size + 1, 0, none⟩) (by show w.heap.size + 1 < _; omega)).trans hc1;have d2 := (hb2.cell (p := ⟨w.heap.size + 1 + 1, 0, none⟩) hlt).trans hc2;have y1 := (hb2.frozen (p := ⟨w.heap.size + 1, 0, none⟩) (by show w.heap.size + 1 < _; omega)).trans hz1;have y2 := (hb2.frozen (p := ⟨w.heap.size + 1 + 1, 0, none⟩) hlt).trans hz2;have hbw := hb1.trans (hb2.mono hb1.size);clear hc1 hc2 hz1 hz2;go_wp2_with fail
  refine leaves_cons (f := 100) (args := #[.pointer (some ⟨w.heap.size + 1, 0, none⟩), .pointer (some ⟨w.heap.size + 1 + 1, 0, none⟩)]) (by simp) (by simp [go_sem]) ?_;refine (all_catch (w.heap.size + 1) _ _ [] _ d1 y1 d2 y2).mono ?_;rintro e' u' w'' ⟨rfl, rfl, o, rfl⟩;have hlw2 : w.heap.size + 1 + 1 < w2.heap.size := by have := hb2.size; omega
  have e1 : (((w2.alloc o).setCell ⟨w.heap.size + 1, 0, none⟩ (.slice none 0 0)).setCell ⟨w.heap.size + 1 + 1, 0, none⟩ (.iface 96 (.int .i64 6))).cell? ⟨w.heap.size + 1 + 1, 0, none⟩ = some (.iface 96 (.int .i64 6)) := by
   have g1 : (w2.alloc o).cell? ⟨w.heap.size + 1 + 1, 0, none⟩ = some .nilIface := (World.cell?_alloc_lt w2 _ _ hlw2).trans d2;exact World.cell?_setCell_same _ _ _ ((World.cell?_setCell_other _ _ _ _ (by simp)).trans g1)
  have e2 : (((w2.alloc o).setCell ⟨w.heap.size + 1, 0, none⟩ (.slice none 0 0)).setCell ⟨w.heap.size + 1 + 1, 0, none⟩ (.iface 96 (.int .i64 6))).cell? ⟨w.heap.size + 1, 0, none⟩ = some (.slice none 0 0) := by
   rw [World.cell?_setCell_other _ _ _ _ (by simp)];exact World.cell?_setCell_same _ _ _ ((World.cell?_alloc_lt w2 _ _ (by show w.heap.size + 1 < _; omega)).trans d1)
  simp [Leaves, settle, results, Tryz.results70, go_sem, e1, e2];have hfin := NdsB2.none (k := 6) (w := w) (w' := ((w2.alloc o).setCell ⟨w.heap.size + 1, 0, none⟩ (.slice none 0 0)).setCell ⟨w.heap.size + 1 + 1, 0, none⟩ (.iface 96 (.int .i64 6))) (((hbw.alloc hbw.size _).setCell (by show w.heap.size ≤ w.heap.size + 1; omega) _).setCell (by show w.heap.size ≤ w.heap.size + 1 + 1; omega) _);rw [errV_pos (k := 6) (by omega)] at hfin;exact hfin
 | some ys =>
  refine HP.out.mono ?_;rintro r w2 hpost;obtain ⟨A2, c2, rfl, h1, h2, h3, hb2, h4⟩ := hpost.1 ys rfl;clear hpost;have d1 := (hb2.cell (p := ⟨w.heap.size + 1, 0, none⟩) (by show w.heap.size + 1 < _; omega)).trans hc1;have d2 := (hb2.cell (p := ⟨w.heap.size + 1 + 1, 0, none⟩) hlt).trans hc2;have y1 := (hb2.frozen (p := ⟨w.heap.size + 1, 0, none⟩) (by show w.heap.size + 1 < _; omega)).trans hz1;have y2 := (hb2.frozen (p := ⟨w.heap.size + 1 + 1, 0, none⟩) hlt).trans hz2;have hbw := hb1.trans (hb2.mono hb1.size);have H3 : Hid (NdSl w2 w2.heap.size A2 ys) := h3;have H4 := Lib.hid h4;have H1 := Lib.hid h1;clear hc1 hc2 hz1 hz2 h3 h4 h1;go_wp2_with fail
  refine leaves_cons (f := 100) (args := #[.pointer (some ⟨w.heap.size + 1, 0, none⟩), .pointer (some ⟨w.heap.size + 1 + 1, 0, none⟩)]) (by simp) (by simp [go_sem]) ?_;refine (all_idle ⟨w.heap.size + 1, 0, none⟩ ⟨w.heap.size + 1 + 1, 0, none⟩ _).mono ?_;rintro e' u' w'' ⟨rfl, rfl, rfl⟩;simp [Leaves, settle, results, Tryz.results70, go_sem, d1, d2];have hoff : NdOff (fun b => b < w1.heap.size) w2 w2.heap.size A2 ys := fun hne => by
   obtain ⟨b, o, e, g1, g2⟩ := H3.out hne;exact ⟨b, o, e, g1, by have := H4.out b o e; omega, g2⟩
  refine ⟨A2, c2, rfl, H1.out, h2, ?_, ((hbw.setCell (by show w.heap.size ≤ w.heap.size + 1; omega) _).setCell (by show w.heap.size ≤ w.heap.size + 1 + 1; omega) _), fun b o e => by have := H4.out b o e; have := HSZ.out; omega⟩;refine (hoff.keep (fun p hp hg => ?_) (by simp)).sl;have hg' : ¬ p.block < w1.heap.size := hg;rw [World.cell?_setCell_other _ _ _ _ (by intro h; apply hg'; rw [← h]; exact hlt), World.cell?_setCell_other _ _ _ _ (by intro h; apply hg'; rw [← h]; show w.heap.size + 1 < _; omega)]
end Go.Proofs.YtpheiojmcafolaaGreatDoor
namespace Go.Proofs.YtpheiojmcafolaaGreatDoor
open Go.RowKit
def exprM (m : Mv) (e : List Nd) : List Nd × Int :=
 if mvErr m ≠ 0 then ([], mvErr m) else if treeErr e ≠ 0 then ([], treeErr e) else ((movE m e).getD [], if (movE m e).isSome = true then 0 else 6)
set_option maxRecDepth 100000 in
set_option maxHeartbeats 1600000 in
theorem move_Expr (m : Mv) (e : List Nd) (A : Option Addr) (c : Nat) (w : World) (hz : MvZ m) (hc : e.length ≤ c) (hcm : c ≤ 9223372036854775807) (hok : NdOk e) (hsl : NdSl w w.heap.size A e) :
 Calls Tryz.prog 31 #[.agg #[.int .i64 m.what, .string m.fr, .string m.to_], .slice A e.length c] w fun r w' => NdsBack w r w' (exprM m e).1 (exprM m e).2 := by
 have HC := Lib.hid (fun W => move_Check m W hz);have HT := Lib.hid (fun W (hW : Below w.heap.size w W) => tree_Check e A c W hc hcm hok ((hsl.below hW).more hW.size));by_cases hm : mvErr m = 0
 · have tm : (mvErr m != 0) = false := by simp [hm]
   by_cases he : treeErr e = 0
   · have te : (treeErr e != 0) = false := (by simp [he]);have HV : Hid (exprM m e = ((movE m e).getD [], if (movE m e).isSome = true then 0 else 6)) := (by show _ = _; unfold exprM; rw [if_neg (by simp [hm]), if_neg (by simp [he])]);have hex := (tree_iff e).1 he;have HA := Lib.hid (fun W (hW : Below w.heap.size w W) => mover_all m false e (mpart_all hm (fun h => by cases h) e.length e (.inl ⟨rfl, _, hex.2⟩) hex.1 (Nat.le_refl _)) A c W hc hcm ((hsl.below hW).more hW.size));clear hm he hex hsl hok;go_enter Tryz.func31, Tryz.ntmps31
     go_wp2_with fail
     refine (HC.out _).mono ?_;rintro r w1 ⟨rfl, hb1⟩;have hw1 : Below w.heap.size w w1 := Below.trans (by (repeat (first | assumption | exact Below.refl _ _ | apply Below.drew | apply below_drewN | (refine Below.alloc ?_ (by first | exact Nat.le_refl _ | omega | (simp; done) | (simp; omega)) _)))) (hb1.mono (by simp));obtain ⟨hcc, -⟩ := bcell hb1;have hs1 : w.heap.size < w1.heap.size := (by have := hb1.size; simp at this; omega);clear hb1;go_wp2_with fail
     refine (HT.out _ hw1).mono ?_;rintro r w2 ⟨rfl, hb2⟩;have hw2 := hw1.trans (hb2.mono hw1.size);obtain ⟨hcc2, -⟩ := bcell hb2;clear hb2;go_wp2_with fail
     refine (HA.out _ hw2).mono ?_;rintro r w3 ⟨A3, c3, rfl, h31, h32, h33, hb3, -⟩;have H33 := Lib.hid h33;have H31 := Lib.hid h31;have HVV : Hid ((exprM m e).1 = (movGo m false e.length e).getD [] ∧ (exprM m e).2 = if (movGo m false e.length e).isSome = true then 0 else 6) := (by rw [HV.out]; exact ⟨rfl, rfl⟩);clear h33 h31 HA HV hcc hcc2;generalize (movGo m false e.length e).getD [] = ys at *;generalize (if (movGo m false e.length e).isSome = true then (0 : Int) else 6) = kk at *;go_wp2_with fail
     go_ret2
     rw [HVV.out.1, HVV.out.2];exact ⟨A3, c3, rfl, H31.out, h32, H33.out, hw2.trans (hb3.mono hw2.size)⟩
   · have te : (treeErr e != 0) = true := (by simp [he]);have HV : Hid (exprM m e = ([], treeErr e)) := (by show _ = _; unfold exprM; rw [if_neg (by simp [hm]), if_pos he]);clear hm he hsl hok;generalize treeErr e = k at HT te HV;go_enter Tryz.func31, Tryz.ntmps31
     go_wp2_with fail
     refine (HC.out _).mono ?_;rintro r w1 ⟨rfl, hb1⟩;have hw1 : Below w.heap.size w w1 := Below.trans (by (repeat (first | assumption | exact Below.refl _ _ | apply Below.drew | apply below_drewN | (refine Below.alloc ?_ (by first | exact Nat.le_refl _ | omega | (simp; done) | (simp; omega)) _)))) (hb1.mono (by simp));clear hb1;go_wp2_with fail
     refine (HT.out _ hw1).mono ?_;rintro r w2 ⟨rfl, hb2⟩;have hw2 := hw1.trans (hb2.mono hw1.size);clear hb2;go_wp2_with fail
     go_ret2
     rw [HV.out];exact NdsBack.none hw2
 · have tm : (mvErr m != 0) = true := by simp [hm]
   have HV : Hid (exprM m e = ([], mvErr m)) := by show _ = _; unfold exprM; rw [if_pos hm]
   clear hm hsl hok;generalize mvErr m = k at HC tm HV;go_enter Tryz.func31, Tryz.ntmps31
   go_wp2_with fail
   refine (HC.out _).mono ?_;rintro r w1 ⟨rfl, hb1⟩;have hw1 : Below w.heap.size w w1 := Below.trans (by (repeat (first | assumption | exact Below.refl _ _ | apply Below.drew | apply below_drewN | (refine Below.alloc ?_ (by first | exact Nat.le_refl _ | omega | (simp; done) | (simp; omega)) _)))) (hb1.mono (by simp));clear hb1;go_wp2_with fail
   go_ret2
   rw [HV.out];exact NdsBack.none hw1
end Go.Proofs.YtpheiojmcafolaaGreatDoor
namespace Go.Proofs.YtpheiojmcafolaaGreatDoor
open Go.RowKit
structure MCap (m : Mv) (b : Nat) (W : World) : Prop where
 c0 : W.cell? ⟨b, 0, none⟩ = some (.int .i64 m.what)
 c1 : W.cell? ⟨b, 1, none⟩ = some (.string m.fr)
 c2 : W.cell? ⟨b, 2, none⟩ = some (.string m.to_)
 lt : b < W.heap.size
theorem MCap.later {m : Mv} {b : Nat} {W W' : World} (h : MCap m b W) (hb : Below W.heap.size W W') : MCap m b W' :=
 ⟨(hb.cell (p := ⟨b, 0, none⟩) h.lt).trans h.c0, (hb.cell (p := ⟨b, 1, none⟩) h.lt).trans h.c1, (hb.cell (p := ⟨b, 2, none⟩) h.lt).trans h.c2, Nat.lt_of_lt_of_le h.lt hb.size⟩
def hitB (m : Mv) (x : Nd) : Bool := looksB m x && x.s.toList == m.to_.toList
set_option maxRecDepth 100000 in
set_option maxHeartbeats 1600000 in
theorem fresh_clo (m : Mv) (x : Nd) (b : Nat) (w : World) (h : MCap m b w) :
 Calls Tryz.prog 67 #[.agg #[.int .i64 x.op, .int .i64 x.n, .string x.s, .string x.t], .pointer (some ⟨b, 0, none⟩)] w fun r w' => r = .returned (.bool (hitB m x)) ∧ Below w.heap.size w w' := by
 have HL := Lib.hid (fun W => move_looks m x W);have HM := Lib.hid h;obtain ⟨c0, c1, c2, hlt⟩ := h;obtain ⟨v, hv⟩ : ∃ v, hitB m x = v := ⟨_, rfl⟩;rw [hv];have HV := Lib.hid hv;clear hv;cases hl : looksB m x with
 | true =>
  have HV2 : Hid (v = (x.s.toList == m.to_.toList)) := by show _ = _; rw [← HV.out]; unfold hitB; rw [hl]; rfl
  rw [hl] at HL;clear hl;go_enter Tryz.func67, Tryz.ntmps67
  go_wp2_with fail
  refine (HL.out _).mono ?_;rintro r w1 ⟨rfl, hb1⟩;have hw1 : Below w.heap.size w w1 := Below.trans (by (repeat (first | assumption | exact Below.refl _ _ | apply Below.drew | apply below_drewN | (refine Below.alloc ?_ (by first | exact Nat.le_refl _ | omega | (simp; done) | (simp; omega)) _)))) (hb1.mono (by simp));have e2 := (HM.out.later hw1).c2;obtain ⟨hcc, -⟩ := bcell hb1;have hs1 : w.heap.size < w1.heap.size := by have := hb1.size; simp at this; omega
  clear hb1 c0 c1 c2;go_wp2_with fail
  all_goals (go_ret; rw [HV2.out]; exact ⟨rfl, hw1⟩)
 | false =>
  have HV2 : Hid (v = false) := by show _ = _; rw [← HV.out]; unfold hitB; rw [hl]; rfl
  rw [hl] at HL;clear hl;go_enter Tryz.func67, Tryz.ntmps67
  go_wp2_with fail
  refine (HL.out _).mono ?_;rintro r w1 ⟨rfl, hb1⟩;have hw1 : Below w.heap.size w w1 := Below.trans (by (repeat (first | assumption | exact Below.refl _ _ | apply Below.drew | apply below_drewN | (refine Below.alloc ?_ (by first | exact Nat.le_refl _ | omega | (simp; done) | (simp; omega)) _)))) (hb1.mono (by simp));clear hb1 c0 c1 c2;go_wp2_with fail
  go_ret
  rw [HV2.out];exact ⟨rfl, hw1⟩
theorem any_take {m : Mv} {e : List Nd} {k : Nat} {x : Nd} (hx : e[k]? = some x) (h : (e.take k).any (hitB m) = false) (hh : hitB m x = false) : (e.take (k + 1)).any (hitB m) = false := by
 rw [List.take_add_one, hx, List.any_append, h];simp [hh]
theorem any_hit {m : Mv} {e : List Nd} {k : Nat} {x : Nd} (hx : e[k]? = some x) (hh : hitB m x = true) : e.any (hitB m) = true := List.any_eq_true.2 ⟨x, List.mem_of_getElem? hx, hh⟩
set_option maxRecDepth 100000 in
set_option maxHeartbeats 1600000 in
theorem fresh_index (m : Mv) (e : List Nd) (A : Option Addr) (c b : Nat) (w : World) (h : MCap m b w) (hl : e.length ≤ 9223372036854775807) (hsl : NdSl w w.heap.size A e) :
 Calls Tryz.prog 99 #[.slice A e.length c, .func (.func 67) #[] #[.pointer (some ⟨b, 0, none⟩)]] w fun r w' => (∃ k : Int, r = .returned (.int .i64 k) ∧ decide (0 ≤ k) = e.any (hitB m)) ∧ Below w.heap.size w w' := by
 have HM := Lib.hid h;have HS := Lib.hid hsl;clear h hsl;go_enter Tryz.func99, Tryz.ntmps99
 go_wp2_with fail
 go_loopw [8] (fun kk wr => ∃ k : Nat, kk = .int .i64 k ∧ k ≤ e.length ∧ Hid ((e.take k).any (hitB m) = false) ∧ Below w.heap.size w wr) (fun kk _ => e.length - (intOf kk).toNat)
 case atStart => exact ⟨0, rfl, by omega, by simp [Hid], Below.refl _ _⟩
 case round =>
  obtain ⟨k, rfl, hk, HK, hbr⟩ := hrel;have hzr := hbr.size;by_cases hlt : k < e.length
  · obtain ⟨b1, o1, rfl, hb1, hcs⟩ := (HS.out.below hbr).at_ hlt;obtain ⟨x, hx⟩ : ∃ x, e[k]? = some x := ⟨_, List.getElem?_eq_getElem hlt⟩;obtain ⟨d0, d1, d2, d3⟩ := hcs k x hx;have HX := Lib.hid hx;have HC := Lib.hid (fresh_clo m x b wr (HM.out.later hbr));clear hcs hx;cases hh : hitB m x with
    | true =>
     have HH := Lib.hid hh;rw [hh] at HC;clear hh;go_wp2_with fail
     refine HC.out.mono ?_;rintro r w1 ⟨rfl, hb2⟩;have hw1 := hbr.trans (hb2.mono hbr.size);clear hb2 d0 d1 d2 d3;go_wp2_with fail
     go_ret
     refine ⟨⟨k, rfl, ?_⟩, hw1⟩;rw [any_hit HX.out HH.out];simp
    | false =>
     have HH := Lib.hid hh;rw [hh] at HC;clear hh;go_wp2_with fail
     refine HC.out.mono ?_;rintro r w1 ⟨rfl, hb2⟩;have hw1 := hbr.trans (hb2.mono hbr.size);clear hb2 d0 d1 d2 d3;go_wp2_with fail
     exact ⟨⟨k + 1, by go_num, by omega, any_take HX.out HK.out HH.out, hw1⟩, by simp [intOf]; omega⟩
  · have HE : Hid (e.any (hitB m) = false) := by
     have := HK.out;rw [List.take_of_length_le (by omega)] at this;exact this
    go_wp2_with fail
    go_ret
    refine ⟨⟨-1, rfl, ?_⟩, hbr⟩;rw [HE.out]; rfl
set_option maxRecDepth 100000 in
set_option maxHeartbeats 1600000 in
theorem fresh_contains (m : Mv) (e : List Nd) (A : Option Addr) (c b : Nat) (w : World) (h : MCap m b w) (hl : e.length ≤ 9223372036854775807) (hsl : NdSl w w.heap.size A e) :
 Calls Tryz.prog 66 #[.slice A e.length c, .func (.func 67) #[] #[.pointer (some ⟨b, 0, none⟩)]] w fun r w' => r = .returned (.bool (e.any (hitB m))) ∧ Below w.heap.size w w' := by
 have HI := Lib.hid (fresh_index m e A c b w h hl hsl);clear h hsl;generalize e.any (hitB m) = v at HI ⊢;go_enter Tryz.func66, Tryz.ntmps66
 go_wp2_with fail
 refine HI.out.mono ?_;rintro r w1 ⟨⟨k, rfl, hk⟩, hb1⟩;have HK := Lib.hid hk;clear hk;go_wp2_with fail
 go_ret
 exact ⟨ret_bool HK.out, hb1⟩
def freshV (m : Mv) (e : List Nd) : Bool × Int := if mvErr m ≠ 0 then (false, mvErr m) else if treeErr e ≠ 0 then (false, treeErr e) else (freshB m e, 0)
set_option maxRecDepth 100000 in
set_option maxHeartbeats 1600000 in
theorem move_Fresh (m : Mv) (e : List Nd) (A : Option Addr) (c : Nat) (w : World) (hz : MvZ m) (hc : e.length ≤ c) (hcm : c ≤ 9223372036854775807) (hok : NdOk e) (hsl : NdSl w w.heap.size A e) :
 Calls Tryz.prog 27 #[.agg #[.int .i64 m.what, .string m.fr, .string m.to_], .slice A e.length c] w fun r w' => r = .returned (.tuple #[.bool (freshV m e).1, errV (freshV m e).2]) ∧ Below w.heap.size w w' := by
 have HC := Lib.hid (fun W => move_Check m W hz);have HT := Lib.hid (fun W (hW : Below w.heap.size w W) => tree_Check e A c W hc hcm hok ((hsl.below hW).more hW.size));by_cases hm : mvErr m = 0
 · have tm : (mvErr m != 0) = false := by simp [hm]
   by_cases he : treeErr e = 0
   · have te : (treeErr e != 0) = false := (by simp [he]);have HV : Hid (freshV m e = (!e.any (hitB m), 0)) := (by show _ = _; unfold freshV; rw [if_neg (by simp [hm]), if_neg (by simp [he])]; rfl);have HA := Lib.hid (fun b W (hW : Below w.heap.size w W) (hM : MCap m b W) => fresh_contains m e A c b W hM (by omega) ((hsl.below hW).more hW.size));clear hm he hsl hok;generalize e.any (hitB m) = v at HA HV;have HB : Hid (MCap m w.heap.size (w.alloc (.cells #[.int .i64 m.what, .string m.fr, .string m.to_] 56))) := by
      have h := Blk.new w 56 #[.int .i64 m.what, .string m.fr, .string m.to_];exact ⟨h.cell 0, h.cell 1, h.cell 2, by simp⟩
     have hmf : ∀ (fn : Fn) (first cap : Array Value) (w : World), (Instr.makeFunc fn first cap).run Tryz.prog w = .ok (.func fn first cap) w := fun _ _ _ _ => rfl;go_enter Tryz.func27, Tryz.ntmps27
     go_wp2_with fail
     refine (HC.out _).mono ?_;rintro r w1 ⟨rfl, hb1⟩;have hw1 : Below w.heap.size w w1 := Below.trans (by (repeat (first | assumption | exact Below.refl _ _ | apply Below.drew | apply below_drewN | (refine Below.alloc ?_ (by first | exact Nat.le_refl _ | omega | (simp; done) | (simp; omega)) _)))) (hb1.mono (by simp));have HB1 := Lib.hid (HB.out.later hb1);clear hb1;go_wp2_with fail
     refine (HT.out _ hw1).mono ?_;rintro r w2 ⟨rfl, hb2⟩;have hw2 := hw1.trans (hb2.mono hw1.size);have HB2 := Lib.hid (HB1.out.later hb2);clear hb2;go_wp2_with fail
     refine (HA.out _ _ hw2 HB2.out).mono ?_;rintro r w3 ⟨rfl, hb3⟩;go_wp2_with fail
     go_ret2
     rw [HV.out];exact ⟨rfl, hw2.trans (hb3.mono hw2.size)⟩
   · have te : (treeErr e != 0) = true := (by simp [he]);have HV : Hid (freshV m e = (false, treeErr e)) := (by show _ = _; unfold freshV; rw [if_neg (by simp [hm]), if_pos he]);clear hm he hsl hok;generalize treeErr e = k at HT te HV;go_enter Tryz.func27, Tryz.ntmps27
     go_wp2_with fail
     refine (HC.out _).mono ?_;rintro r w1 ⟨rfl, hb1⟩;have hw1 : Below w.heap.size w w1 := Below.trans (by (repeat (first | assumption | exact Below.refl _ _ | apply Below.drew | apply below_drewN | (refine Below.alloc ?_ (by first | exact Nat.le_refl _ | omega | (simp; done) | (simp; omega)) _)))) (hb1.mono (by simp));clear hb1;go_wp2_with fail
     refine (HT.out _ hw1).mono ?_;rintro r w2 ⟨rfl, hb2⟩;have hw2 := hw1.trans (hb2.mono hw1.size);clear hb2;go_wp2_with fail
     go_ret2
     rw [HV.out];exact ⟨rfl, hw2⟩
 · have tm : (mvErr m != 0) = true := by simp [hm]
   have HV : Hid (freshV m e = (false, mvErr m)) := by show _ = _; unfold freshV; rw [if_pos hm]
   clear hm hsl hok;generalize mvErr m = k at HC tm HV;go_enter Tryz.func27, Tryz.ntmps27
   go_wp2_with fail
   refine (HC.out _).mono ?_;rintro r w1 ⟨rfl, hb1⟩;have hw1 : Below w.heap.size w w1 := Below.trans (by (repeat (first | assumption | exact Below.refl _ _ | apply Below.drew | apply below_drewN | (refine Below.alloc ?_ (by first | exact Nat.le_refl _ | omega | (simp; done) | (simp; omega)) _)))) (hb1.mono (by simp));clear hb1;go_wp2_with fail
   go_ret2
   rw [HV.out];exact ⟨rfl, hw1⟩
end Go.Proofs.YtpheiojmcafolaaGreatDoor
namespace Go.Proofs.YtpheiojmcafolaaGreatDoor
open Go.RowKit Go.Sort
def ddA : NsM → List NsM → List NsM
 | _, [] => []
 | a, b :: r => if ndsCmp b.e a.e = 0 then ddA b r else b :: ddA b r
def ddP : List NsM → List NsM
 | [] => []
 | a :: l => a :: ddA a l
theorem dedupA_e : ∀ (l : List NsM) (a : NsM), (ddA a l).map NsM.e = dedupA a.e (l.map NsM.e)
 | [], a => rfl
 | b :: r, a => by
  rw [ddA, List.map_cons, dedupA];by_cases h : ndsCmp b.e a.e = 0
  · have e := cm_nds.eq _ _ h;have h' : ndsCmp a.e b.e = 0 := (by rw [e, cm_nds.self]);rw [if_pos h, if_pos h', dedupA_e r b, e]
  · have h' : ¬ ndsCmp a.e b.e = 0 := fun hh => h (by rw [cm_nds.eq _ _ hh, cm_nds.self]);rw [if_neg h, if_neg h', List.map_cons, dedupA_e r b]
theorem ddP_e (l : List NsM) : (ddP l).map NsM.e = dedupP (l.map NsM.e) := by
 cases l with
 | nil => rfl
 | cons a l => rw [ddP, List.map_cons, dedupA_e, List.map_cons, dedupP]
theorem ddA_sub : ∀ (l : List NsM) (a : NsM), (ddA a l).Sublist l
 | [], a => by simp [ddA]
 | b :: r, a => by
  rw [ddA];split
  · exact (ddA_sub r b).cons _
  · exact (ddA_sub r b).cons_cons _
theorem ddP_sub : ∀ (l : List NsM), (ddP l).Sublist l
 | [] => .slnil
 | a :: l => (ddA_sub l a).cons_cons _
theorem ddA_snoc : ∀ (l : List NsM) (a x b : NsM), (a :: l).getLast? = some x → ddA a (l ++ [b]) = ddA a l ++ (if ndsCmp b.e x.e = 0 then [] else [b])
 | [], a, x, b, h => by
  simp at h;subst h;simp only [List.nil_append, ddA]
 | c :: r, a, x, b, h => by
  have h' : (c :: r).getLast? = some x := by rw [← h]; rfl
  have ih := ddA_snoc r c x b h';rw [List.cons_append, ddA, ddA];split
  · exact ih
  · rw [ih]; rfl
theorem ddP_step {ms : List NsM} {j : Nat} {a b : NsM} (ha : ms[j]? = some a) (hb : ms[j + 1]? = some b) : ddP (ms.take (j + 1 + 1)) = ddP (ms.take (j + 1)) ++ (if ndsCmp b.e a.e = 0 then [] else [b]) := by
 have e1 : ms.take (j + 1 + 1) = ms.take (j + 1) ++ [b] := by rw [List.take_add_one, hb]; rfl
 have e2 : ms.take (j + 1) = ms.take j ++ [a] := by rw [List.take_add_one, ha]; rfl
 have hl : (ms.take (j + 1)).getLast? = some a := by rw [e2]; simp
 rw [e1];cases h : ms.take (j + 1) with
 | nil => rw [h] at hl; simp at hl
 | cons c r =>
  rw [h] at hl;rw [List.cons_append, ddP, ddP, ddA_snoc r c a b hl]; rfl
theorem gb_below {w w' : World} {q : Option Nat} (h : RowKit.Below w.heap.size w w') : w.grownBy w' q := ⟨h.os, h.tape, h.output, h.size, fun k hk _ => h.block k hk⟩
theorem own_setCells {base g n cap : Nat} {e : TypeId} : ∀ (vs : List Value) (o : Nat) (w : World) (xs : List Value) (kk : Nat), w.ownsRow base e 1 (.slice (some ⟨g, 0, none⟩) n cap) n xs → kk ≤ o →
 ∃ xs', (w.setCells g o vs).ownsRow base e 1 (.slice (some ⟨g, 0, none⟩) n cap) n xs' ∧ xs'.take kk = xs.take kk ∧ w.grownBy (w.setCells g o vs) (some g)
 | [], o, w, xs, kk, h, _ => ⟨xs, h, rfl, ⟨rfl, rfl, rfl, Nat.le_refl _, fun _ _ _ => rfl⟩⟩
 | v :: vs, o, w, xs, kk, h, hk => by
  obtain ⟨h1, h2⟩ := h.stored o v;obtain ⟨xs', a, b, c⟩ := own_setCells vs (o + 1) _ _ kk h1 (by omega);refine ⟨xs', a, ?_, h2.trans c⟩;rw [b, List.take_set_of_le hk]
theorem own_shrink {w : World} {base g n cap kk : Nat} {e : TypeId} {xs : List Value} (h : w.ownsRow base e 1 (.slice (some ⟨g, 0, none⟩) n cap) n xs) (hk : kk ≤ n) : w.ownsRow base e 1 (.slice (some ⟨g, 0, none⟩) kk cap) kk (xs.take kk) := by
 have hl := h.1;rcases h.2 with ⟨h', _⟩ | ⟨g', cap', cur, h', hb, hg, hnc, hcm, hcs, htake⟩
 · simp at h'
 · simp only [Value.slice.injEq, Option.some.injEq, Addr.mk.injEq, and_true, true_and] at h';obtain ⟨rfl, rfl⟩ := h';refine ⟨by rw [List.length_take]; omega, .inr ⟨g, cap, cur, rfl, hb, hg, by omega, hcm, hcs, ?_⟩⟩;rw [← htake, List.take_take];congr 1
   omega
theorem own_enc {w : World} {base g n cap : Nat} {ms : List NsM} (h : w.ownsRow base 22 1 (.slice (some ⟨g, 0, none⟩) n cap) n (flatG NsM.cells ms)) {i : Nat} {x : NsM} (hx : ms[i]? = some x) : w.cell? ⟨g, i, none⟩ = some (.slice x.A x.e.length x.c) ∧ w.frozen? ⟨g, i, none⟩ = false ∧ i < n := by
 have hi := (List.getElem?_eq_some_iff.1 hx).1;have hl := h.1;rw [flat_encN, List.length_map] at hl;refine ⟨?_, ?_, by omega⟩
 · rw [h.cellAt i (by omega), flat_encN, List.getElem?_map, hx]; rfl
 · rcases h.2 with ⟨h', _⟩ | ⟨g', cap', cur, h', hb, hg, _⟩
   · simp at h'
   · simp only [Value.slice.injEq, Option.some.injEq, Addr.mk.injEq, and_true, true_and] at h';obtain ⟨rfl, rfl⟩ := h';simp [World.frozen?, hg]
theorem run_at_ns (b o n c k : Nat) (hk : k < n) (W : World) : (Instr.indexAt 152 (.slice (some ⟨b, o, none⟩) n c) (.int .i64 (k : Int))).run Tryz.prog W = .ok (.pointer (some ⟨b, o + k, none⟩)) W := by
 go_simp
theorem run_at_ns1 (b o n c k : Nat) (hk : k + 1 < n) (W : World) : (Instr.indexAt 152 (.slice (some ⟨b, o, none⟩) n c) (.int .i64 ((k : Int) + 1))).run Tryz.prog W = .ok (.pointer (some ⟨b, o + (k + 1), none⟩)) W := by
 have := run_at_ns b o n c (k + 1) hk W;rwa [Int.natCast_add, Int.natCast_one] at this
set_option maxHeartbeats 400000 in
theorem set_eq (x y : NsM) (W : World) (gx : NsGood W W.heap.size x) (gy : NsGood W W.heap.size y) :
 Calls Tryz.prog 166 #[.slice x.A x.e.length x.c, .slice y.A y.e.length y.c] W fun r w' => r = .returned (.bool (ndsCmp x.e y.e == 0)) ∧ RowKit.Below W.heap.size W w' := by
 have HO := Lib.hid (val_order x.A y.A x.c y.c x.e y.e W gx.sl gy.sl (Nat.le_trans gx.le gx.max) (Nat.le_trans gy.le gy.max));clear gx gy;generalize ndsCmp x.e y.e = k at HO ⊢;go_enter Tryz.func166, Tryz.ntmps166
 go_wp2_with fail
 refine HO.out.mono ?_;rintro r w1 ⟨rfl, hb1⟩;go_wp2_with fail
 go_ret
 exact ⟨rfl, hb1⟩
theorem set_cur {cur : List NsM} {kk : Nat} {b : NsM} (h : kk < cur.length) : (cur.set kk b).take (kk + 1) = cur.take kk ++ [b] := by
 rw [List.take_add_one, List.take_set_of_le (Nat.le_refl _), List.getElem?_set_self h]; rfl
theorem flatG_set (cur : List NsM) (kk : Nat) (b : NsM) : (flatG NsM.cells cur).set kk (.slice b.A b.e.length b.c) = flatG NsM.cells (cur.set kk b) := by
 rw [flat_encN, flat_encN, List.map_set]; rfl
end Go.Proofs.YtpheiojmcafolaaGreatDoor
namespace Go.Proofs.YtpheiojmcafolaaGreatDoor
open Go.RowKit Go.Sort
set_option maxRecDepth 100000 in
set_option maxHeartbeats 4000000 in
theorem compact_lists (base g cap : Nat) (ms : List NsM) (w : World) (hown : w.ownsRow base 22 1 (.slice (some ⟨g, 0, none⟩) ms.length cap) ms.length (flatG NsM.cells ms)) (hof : ∀ y ∈ ms, NsOff w (some g) y) (hl : ms.length ≤ 1000) (hcap : ms.length ≤ cap) (hcm : cap ≤ 9223372036854775807) :
 Calls Tryz.prog 165 #[.slice (some ⟨g, 0, none⟩) ms.length cap, .func (.func 166) #[] #[]] w fun r w' => r = .returned (.slice (some ⟨g, 0, none⟩) (ddP ms).length cap) ∧
  w'.ownsRow base 22 1 (.slice (some ⟨g, 0, none⟩) (ddP ms).length cap) (ddP ms).length (flatG NsM.cells (ddP ms)) ∧ w.grownBy w' (some g) := by
 have HO := Lib.hid hown;have HN := Lib.hid hof;have hgl : base ≤ g ∧ g < w.heap.size := own_lt hown rfl;have HD : Hid (ms.length < 2 → ddP ms = ms) := by
  intro h;match ms, h with
  | [], _ => rfl
  | [a], _ => rfl
  | a :: b :: r, h => simp at h; omega
 clear hown hof;by_cases h2 : ms.length < 2
 · have HE : Hid (ddP ms = ms) := HD.out h2;clear HD;go_enter Tryz.func165, Tryz.ntmps165
   go_wp2_with fail
   go_ret
   rw [HE.out];exact ⟨rfl, HO.out, ⟨rfl, rfl, rfl, Nat.le_refl _, fun _ _ _ => rfl⟩⟩
 · clear HD;have hd2 : decide ((ms.length : Int) < 2) = false := by simp; omega
   go_enter Tryz.func165, Tryz.ntmps165
   go_wp2_with fail
   go_loopw [5] (fun iv wr => ∃ i : Nat, iv = .int .i64 i ∧ 1 ≤ i ∧ i ≤ ms.length ∧ Hid (ddP (ms.take i) = ms.take i) ∧ Hid (wr.ownsRow base 22 1 (.slice (some ⟨g, 0, none⟩) ms.length cap) ms.length (flatG NsM.cells ms)) ∧ Hid (w.grownBy wr (some g))) (fun iv _ => ms.length - (intOf iv).toNat)
   case atStart =>
    refine ⟨1, rfl, Nat.le_refl _, by omega, ?_, HO.out, ⟨rfl, rfl, rfl, Nat.le_refl _, fun _ _ _ => rfl⟩⟩;show _ = _;match ms, h2 with
    | [], h => simp at h
    | a :: r, _ => rfl
   case round =>
    obtain ⟨i, rfl, hi1, hin, HDD, HOr, HGr⟩ := hrel;have hgr : g < wr.heap.size := (own_lt HOr.out rfl).2;by_cases hlt : i < ms.length
    · obtain ⟨t, rfl⟩ : ∃ t, i = t + 1 := ⟨i - 1, by omega⟩;obtain ⟨a, ha⟩ : ∃ a, ms[t]? = some a := ⟨_, List.getElem?_eq_getElem (by omega)⟩;obtain ⟨b, hb⟩ : ∃ b, ms[t + 1]? = some b := ⟨_, List.getElem?_eq_getElem hlt⟩;have c0 := (own_enc HOr.out ha).1;have c1 := (own_enc HOr.out hb).1;have HST := Lib.hid (ddP_step ha hb);have HEQ := Lib.hid (fun W (hW : RowKit.Below wr.heap.size wr W) => set_eq b a W ((((HN.out b (List.mem_of_getElem? hb)).grown HGr.out (.inl rfl)).later hW).good) ((((HN.out a (List.mem_of_getElem? ha)).grown HGr.out (.inl rfl)).later hW).good));have HA := Lib.hid ha;have HB := Lib.hid hb;clear ha hb;have q1 := run_at_ns1 g 0 ms.length cap t hlt;have q0 := run_at_ns g 0 ms.length cap t (by omega);rw [Nat.zero_add] at q0 q1;have j0 : IntKind.i64.wrap (t : Int) = (t : Int) := (by rw [IntKind.wrap_i64]; omega);by_cases hq : ndsCmp b.e a.e = 0
      · have tq : (ndsCmp b.e a.e == 0) = true := (by simp [hq]);have HDD2 : Hid (ddP (ms.take (t + 1 + 1)) = ms.take (t + 1)) := by
         show _ = _;rw [HST.out, HDD.out, if_pos hq, List.append_nil]
        clear hq HST HDD;go_wp2_with fail
        refine wp_region_hd (S := fun W' => W'.cell? ⟨g, t + 1, none⟩ = some (.slice b.A b.e.length b.c) ∧ W'.cell? ⟨g, t, none⟩ = some (.slice a.A a.e.length a.c)) [false, false, false, false, false, false, false, false, false, false, true] (by kernel_rfl) (by kernel_rfl) (fun _ _ _ _ _ h => h) ⟨c1, c0⟩ (fun hW' => ?_);simp only [List.zip_cons_cons, List.zip_nil_left];(repeat (first | (refine hd_take (v := ?_) (by rfl) ?_ ?_; rotate_left; (focus (intro W hW; obtain ⟨s0', s1'⟩ := hW; go_simp; try with_reducible rfl)); simp only [Act.put, List.setIfInBounds_toArray, List.set_cons_zero, List.set_cons_succ]) | (refine hd_skip (by rfl) ?_; simp only [Act.put, List.setIfInBounds_toArray, List.set_cons_zero, List.set_cons_succ])))
        refine hd_call (fun K hK => ?_);go_simp
        refine (HEQ.out _ (by (repeat (first | assumption | exact Below.refl _ _ | apply Below.drew | apply below_drewN | (refine Below.alloc ?_ (by first | exact Nat.le_refl _ | omega | (simp; done) | (simp; omega)) _))))).mono ?_;rintro r w1 ⟨rfl, hb1'⟩;have hb1 := below_of_drew hb1';refine hK _ _ ⟨(hb1.cell (p := ⟨g, t + 1, none⟩) hgr).trans c1, (hb1.cell (p := ⟨g, t, none⟩) hgr).trans c0⟩ ?_;clear hK K;refine hd_nil ?_;have HO1 := Lib.hid (own_keep HOr.out hb1);have HG1 : Hid (w.grownBy w1 (some g)) := HGr.out.trans (gb_below hb1);have qs : ∀ W : World, (Instr.slice 152 (.slice (some ⟨g, 0, none⟩) ms.length cap) (some (.int .i64 ((t : Int) + 1))) none none).run Tryz.prog W = .ok (.slice (some ⟨g, t + 1, none⟩) (ms.length - (t + 1)) (cap - (t + 1))) W := by
         intro W;go_simp
         rw [if_neg (show ¬ cap = t + 1 by omega), if_pos (by omega)]
        clear hb1 hb1' q0 q1 c0 c1 HOr HGr HEQ hgr;go_wp2_with fail
        obtain ⟨wo, hwo⟩ : ∃ wo : World, wo = wr := ⟨_, rfl⟩;clear hwo;try simp only [tq]
        go_loopw [5, 7] (fun iv kv wr => ∃ (kk k : Nat) (cur : List NsM), iv = .int .i64 kk ∧ kv = .int .i64 k ∧ 1 ≤ k ∧ t + 1 + k ≤ ms.length ∧ kk < t + 1 + k ∧ Hid (cur.length = ms.length) ∧ Hid (cur.take kk = ddP (ms.take (t + 1 + k))) ∧ Hid (∀ j, t + k ≤ j → cur[j]? = ms[j]?) ∧
         Hid (wr.ownsRow base 22 1 (.slice (some ⟨g, 0, none⟩) ms.length cap) ms.length (flatG NsM.cells cur)) ∧ Hid (w.grownBy wr (some g))) (fun _ kv _ => ms.length - (intOf kv).toNat)
        case atStart => exact ⟨t + 1, 1, ms, by go_num, rfl, Nat.le_refl _, by omega, by omega, rfl, HDD2.out.symm, fun _ _ => rfl, HO1.out, HG1.out⟩
        case round =>
         obtain ⟨kk, k, cur, rfl, rfl, hk1, hkn, hkk, HCL, HCT, HCD, HOr, HGr⟩ := hrel;have hgr : g < wr.heap.size := (own_lt HOr.out rfl).2;by_cases hlt2 : t + 1 + k < ms.length
         · obtain ⟨k', rfl⟩ : ∃ k', k = k' + 1 := ⟨k - 1, by omega⟩;obtain ⟨y, hy⟩ : ∃ y, ms[t + 1 + k']? = some y := ⟨_, List.getElem?_eq_getElem (by omega)⟩;obtain ⟨x, hx⟩ : ∃ x, ms[t + 1 + k' + 1]? = some x := ⟨_, List.getElem?_eq_getElem (by omega)⟩;have hcy : cur[t + 1 + k']? = some y := (by rw [HCD.out _ (by omega)]; exact hy);have hcx : cur[t + 1 + k' + 1]? = some x := (by rw [HCD.out _ (by omega)]; exact hx);have d0 := (own_enc HOr.out hcy).1;have d1 := (own_enc HOr.out hcx).1;have HST2 := Lib.hid (ddP_step hy hx);have HEQ2 := Lib.hid (fun W (hW : RowKit.Below wr.heap.size wr W) => set_eq x y W ((((HN.out x (List.mem_of_getElem? hx)).grown HGr.out (.inl rfl)).later hW).good) ((((HN.out y (List.mem_of_getElem? hy)).grown HGr.out (.inl rfl)).later hW).good));have HX := Lib.hid hx;clear hx hy hcx hcy;have q1 := run_at_ns1 g (t + 1) (ms.length - (t + 1)) (cap - (t + 1)) k' (by omega);have q0 := run_at_ns g (t + 1) (ms.length - (t + 1)) (cap - (t + 1)) k' (by omega);rw [show t + 1 + (k' + 1) = t + 1 + k' + 1 from by omega] at q1;have j2 : IntKind.i64.wrap (k' : Int) = (k' : Int) := (by rw [IntKind.wrap_i64]; omega);have hlt3 : k' + 1 < ms.length - (t + 1) := (by omega);have hcc : kk < cur.length := (by rw [HCL.out]; omega);by_cases hq2 : ndsCmp x.e y.e = 0
           · have tq2 : (ndsCmp x.e y.e == 0) = true := (by simp [hq2]);have HCT2 : Hid (cur.take kk = ddP (ms.take (t + 1 + (k' + 1 + 1)))) := by
              show _ = _;rw [HCT.out, show t + 1 + (k' + 1 + 1) = t + 1 + k' + 1 + 1 from by omega, HST2.out, if_pos hq2, List.append_nil, show t + 1 + (k' + 1) = t + 1 + k' + 1 from by omega]
             clear hq2 HST2 HCT;go_wp2_with fail
             refine wp_region_hd (S := fun W' => W'.cell? ⟨g, t + 1 + k' + 1, none⟩ = some (.slice x.A x.e.length x.c) ∧ W'.cell? ⟨g, t + 1 + k', none⟩ = some (.slice y.A y.e.length y.c)) [false, false, false, false, false, false, false, false, false, false, true, false] (by kernel_rfl) (by kernel_rfl) (fun _ _ _ _ _ h => h) ⟨d1, d0⟩ (fun hW' => ?_);simp only [List.zip_cons_cons, List.zip_nil_left];(repeat (first | (refine hd_take (v := ?_) (by rfl) ?_ ?_; rotate_left; (focus (intro W hW; obtain ⟨s0', s1'⟩ := hW; go_simp; try with_reducible rfl)); simp only [Act.put, List.setIfInBounds_toArray, List.set_cons_zero, List.set_cons_succ]) | (refine hd_skip (by rfl) ?_; simp only [Act.put, List.setIfInBounds_toArray, List.set_cons_zero, List.set_cons_succ])))
             refine hd_call (fun K hK => ?_);go_simp
             refine (HEQ2.out _ (by (repeat (first | assumption | exact Below.refl _ _ | apply Below.drew | apply below_drewN | (refine Below.alloc ?_ (by first | exact Nat.le_refl _ | omega | (simp; done) | (simp; omega)) _))))).mono ?_;rintro r w2 ⟨rfl, hb2'⟩;have hb2 := below_of_drew hb2';refine hK _ _ ⟨(hb2.cell (p := ⟨g, t + 1 + k' + 1, none⟩) hgr).trans d1, (hb2.cell (p := ⟨g, t + 1 + k', none⟩) hgr).trans d0⟩ ?_;clear hK K;(repeat (first | (refine hd_take (v := ?_) (by rfl) ?_ ?_; rotate_left; (focus (intro W hW; obtain ⟨s0', s1'⟩ := hW; go_simp; try with_reducible rfl)); simp only [Act.put, List.setIfInBounds_toArray, List.set_cons_zero, List.set_cons_succ]) | (refine hd_skip (by rfl) ?_; simp only [Act.put, List.setIfInBounds_toArray, List.set_cons_zero, List.set_cons_succ])))
             refine hd_nil ?_;have HO2 := Lib.hid (own_keep HOr.out hb2);have HG2 : Hid (w.grownBy w2 (some g)) := HGr.out.trans (gb_below hb2);clear hb2 hb2' q0 q1 d0 d1 HOr HGr HEQ2 hgr;go_wp2_with fail
             exact ⟨⟨kk, k' + 1 + 1, cur, rfl, by go_num, by omega, by omega, by omega, HCL, HCT2, fun j hj => HCD.out j (by omega), HO2, HG2⟩, by simp [intOf]; omega⟩
           · have tq2 : (ndsCmp x.e y.e == 0) = false := (by simp [hq2]);have HCT2 : Hid ((cur.set kk x).take (kk + 1) = ddP (ms.take (t + 1 + (k' + 1 + 1)))) := by
              show _ = _;rw [set_cur hcc, HCT.out, show t + 1 + (k' + 1 + 1) = t + 1 + k' + 1 + 1 from by omega, HST2.out, if_neg hq2, show t + 1 + (k' + 1) = t + 1 + k' + 1 from by omega]
             clear hq2 HST2 HCT;go_wp2_with fail
             refine wp_region_hd (S := fun W' => W'.cell? ⟨g, t + 1 + k' + 1, none⟩ = some (.slice x.A x.e.length x.c) ∧ W'.cell? ⟨g, t + 1 + k', none⟩ = some (.slice y.A y.e.length y.c)) [false, false, false, false, false, false, false, false, false, false, true, false] (by kernel_rfl) (by kernel_rfl) (fun _ _ _ _ _ h => h) ⟨d1, d0⟩ (fun hW' => ?_);simp only [List.zip_cons_cons, List.zip_nil_left];(repeat (first | (refine hd_take (v := ?_) (by rfl) ?_ ?_; rotate_left; (focus (intro W hW; obtain ⟨s0', s1'⟩ := hW; go_simp; try with_reducible rfl)); simp only [Act.put, List.setIfInBounds_toArray, List.set_cons_zero, List.set_cons_succ]) | (refine hd_skip (by rfl) ?_; simp only [Act.put, List.setIfInBounds_toArray, List.set_cons_zero, List.set_cons_succ])))
             refine hd_call (fun K hK => ?_);go_simp
             refine (HEQ2.out _ (by (repeat (first | assumption | exact Below.refl _ _ | apply Below.drew | apply below_drewN | (refine Below.alloc ?_ (by first | exact Nat.le_refl _ | omega | (simp; done) | (simp; omega)) _))))).mono ?_;rintro r w2 ⟨rfl, hb2'⟩;have hb2 := below_of_drew hb2';refine hK _ _ ⟨(hb2.cell (p := ⟨g, t + 1 + k' + 1, none⟩) hgr).trans d1, (hb2.cell (p := ⟨g, t + 1 + k', none⟩) hgr).trans d0⟩ ?_;clear hK K;(repeat (first | (refine hd_take (v := ?_) (by rfl) ?_ ?_; rotate_left; (focus (intro W hW; obtain ⟨s0', s1'⟩ := hW; go_simp; try with_reducible rfl)); simp only [Act.put, List.setIfInBounds_toArray, List.set_cons_zero, List.set_cons_succ]) | (refine hd_skip (by rfl) ?_; simp only [Act.put, List.setIfInBounds_toArray, List.set_cons_zero, List.set_cons_succ])))
             refine hd_nil ?_;have HO2 := Lib.hid (own_keep HOr.out hb2);have HG2 : Hid (w.grownBy w2 (some g)) := HGr.out.trans (gb_below hb2);have e1 : w2.cell? ⟨g, t + 1 + k' + 1, none⟩ = some (.slice x.A x.e.length x.c) := (hb2.cell (p := ⟨g, t + 1 + k' + 1, none⟩) hgr).trans d1;obtain ⟨old, hold⟩ : ∃ old, cur[kk]? = some old := ⟨_, List.getElem?_eq_getElem hcc⟩;obtain ⟨e2, e3, -⟩ := own_enc HO2.out hold;have HS2 : Hid ((w2.setCell ⟨g, kk, none⟩ (.slice x.A x.e.length x.c)).ownsRow base 22 1 (.slice (some ⟨g, 0, none⟩) ms.length cap) ms.length (flatG NsM.cells (cur.set kk x)) ∧ w2.grownBy (w2.setCell ⟨g, kk, none⟩ (.slice x.A x.e.length x.c)) (some g)) := by
              have := HO2.out.stored kk (.slice x.A x.e.length x.c);rw [flatG_set] at this;exact this
             have HCL2 : Hid ((cur.set kk x).length = ms.length) := (by show _ = _; rw [List.length_set, HCL.out]);have HCD2 : Hid (∀ j, t + (k' + 1 + 1) ≤ j → (cur.set kk x)[j]? = ms[j]?) := fun j hj => by
              rw [List.getElem?_set_ne (by omega)];exact HCD.out j (by omega)
             have hkn2 : kk < ms.length := (by omega);clear hb2 hb2' d0 d1 HOr HGr HEQ2 hgr hold;go_wp2_with fail
             exact ⟨⟨kk + 1, k' + 1 + 1, cur.set kk x, by go_num, by go_num, by omega, by omega, by omega, HCL2, HCT2, HCD2, HS2.out.1, HG2.out.trans HS2.out.2⟩, by simp [intOf]; omega⟩
         · have hend : t + 1 + k = ms.length := (by omega);have HCT2 : Hid (cur.take kk = ddP ms) := by
            show _ = _;rw [HCT.out, hend, List.take_of_length_le (Nat.le_refl _)]
           have hkk2 : kk < ms.length := (by omega);have HKL : Hid ((ddP ms).length = kk) := by
            show _ = _;rw [← HCT2.out, List.length_take, HCL.out]; omega
           have hnl : ¬ k < ms.length - (t + 1) := (by omega);have hcl : ∀ ty, (Builtin.clear_ #[152] ty #[.slice (some ⟨g, kk, none⟩) (ms.length - kk) (cap - kk)]).run Tryz.prog wr = .ok (.tuple #[]) (wr.setCells g kk (List.replicate (ms.length - kk) (.slice none 0 0))) :=
            fun ty => Lib.run_clear_slice wr _ _ ty _ Tryz.underlying152 Tryz.zeroValue22 rfl rfl g kk _ _ (by omega)
             (fun j hj => by
              obtain ⟨z, hz⟩ : ∃ z, cur[kk + j]? = some z := ⟨_, List.getElem?_eq_getElem (by rw [HCL.out]; omega)⟩;rw [(own_enc HOr.out hz).1]; rfl)
             (fun j hj => by
              obtain ⟨z, hz⟩ : ∃ z, cur[kk + j]? = some z := ⟨_, List.getElem?_eq_getElem (by rw [HCL.out]; omega)⟩;exact (own_enc HOr.out hz).2.1)
           have q2 : ∀ W : World, (Instr.slice 152 (.slice (some ⟨g, 0, none⟩) ms.length cap) (some (.int .i64 (kk : Int))) none none).run Tryz.prog W = .ok (.slice (some ⟨g, kk, none⟩) (ms.length - kk) (cap - kk)) W := by
            intro W;go_simp
            rw [if_neg (show ¬ cap = kk by omega), if_pos (by omega)]
           have HFIN : Hid (∃ xs', (wr.setCells g kk (List.replicate (ms.length - kk) (.slice none 0 0))).ownsRow base 22 1 (.slice (some ⟨g, 0, none⟩) ms.length cap) ms.length xs' ∧ xs'.take kk = (flatG NsM.cells cur).take kk ∧ wr.grownBy (wr.setCells g kk (List.replicate (ms.length - kk) (.slice none 0 0))) (some g)) := own_setCells _ kk wr _ kk HOr.out (Nat.le_refl _);have hkc : kk ≤ cap := (by omega);clear HOr hgr HCT;go_wp2_with fail
           go_ret
           obtain ⟨xs', f1, f2, f3⟩ := HFIN.out;refine ⟨by rw [HKL.out]; rfl, ?_, HGr.out.trans f3⟩;have f4 := own_shrink f1 (show kk ≤ ms.length by omega);rw [f2, flat_encN, ← List.map_take, HCT2.out, ← flat_encN] at f4;rw [HKL.out];exact f4
      · have tq : (ndsCmp b.e a.e == 0) = false := (by simp [hq]);have HDD2 : Hid (ddP (ms.take (t + 1 + 1)) = ms.take (t + 1 + 1)) := by
         show _ = _;rw [HST.out, HDD.out, if_neg hq, show ms.take (t + 1 + 1) = ms.take (t + 1) ++ [b] from by rw [List.take_add_one, HB.out]; rfl]
        clear hq HST HDD;go_wp2_with fail
        refine wp_region_hd (S := fun W' => W'.cell? ⟨g, t + 1, none⟩ = some (.slice b.A b.e.length b.c) ∧ W'.cell? ⟨g, t, none⟩ = some (.slice a.A a.e.length a.c)) [false, false, false, false, false, false, false, false, false, false, true] (by kernel_rfl) (by kernel_rfl) (fun _ _ _ _ _ h => h) ⟨c1, c0⟩ (fun hW' => ?_);simp only [List.zip_cons_cons, List.zip_nil_left];(repeat (first | (refine hd_take (v := ?_) (by rfl) ?_ ?_; rotate_left; (focus (intro W hW; obtain ⟨s0', s1'⟩ := hW; go_simp; try with_reducible rfl)); simp only [Act.put, List.setIfInBounds_toArray, List.set_cons_zero, List.set_cons_succ]) | (refine hd_skip (by rfl) ?_; simp only [Act.put, List.setIfInBounds_toArray, List.set_cons_zero, List.set_cons_succ])))
        refine hd_call (fun K hK => ?_);go_simp
        refine (HEQ.out _ (by (repeat (first | assumption | exact Below.refl _ _ | apply Below.drew | apply below_drewN | (refine Below.alloc ?_ (by first | exact Nat.le_refl _ | omega | (simp; done) | (simp; omega)) _))))).mono ?_;rintro r w1 ⟨rfl, hb1'⟩;have hb1 := below_of_drew hb1';refine hK _ _ ⟨(hb1.cell (p := ⟨g, t + 1, none⟩) hgr).trans c1, (hb1.cell (p := ⟨g, t, none⟩) hgr).trans c0⟩ ?_;clear hK K;refine hd_nil ?_;have HO1 := Lib.hid (own_keep HOr.out hb1);have HG1 : Hid (w.grownBy w1 (some g)) := HGr.out.trans (gb_below hb1);clear hb1 hb1' q0 q1 c0 c1 HOr HGr HEQ hgr;go_wp2_with fail
        exact ⟨⟨t + 1 + 1, by go_num, by omega, by omega, HDD2, HO1, HG1⟩, by simp [intOf]; omega⟩
    · have hin2 : i = ms.length := (by omega);have HE : Hid (ddP ms = ms) := by
       have := HDD.out;rw [hin2, List.take_of_length_le (Nat.le_refl _)] at this;exact this
      clear hin2 HDD;go_wp2_with fail
      go_ret
      rw [HE.out];exact ⟨rfl, HOr.out, HGr.out⟩
end Go.Proofs.YtpheiojmcafolaaGreatDoor
namespace Go.Proofs.YtpheiojmcafolaaGreatDoor
open Go.RowKit Go.Sort
theorem swo_inj {α β : Type} {c : β → β → Int} (h : SWO (ltOf c)) (f : α → β) : SWO (ltOf fun x y : α => c (f x) (f y)) :=
 ⟨fun x => h.irrefl (f x), fun x y z => h.trans (f x) (f y) (f z), fun x y z => h.ntrans (f x) (f y) (f z)⟩
set_option maxRecDepth 100000 in
set_option maxHeartbeats 3200000 in
theorem clone_ns (ms : List NsM) (A : Option Addr) (c : Nat) (w : World) (hs : NsSl w w.heap.size A ms) (hl : ms.length ≤ 1000) :
 Calls Tryz.prog 164 #[.slice A ms.length c] w fun r w' => ∃ v, r = .returned v ∧ w'.ownsRow w.heap.size 22 1 v ms.length (flatG NsM.cells ms) ∧ RowKit.Below w.heap.size w w' := by
 have q : ∀ (w : World) (a : Option Addr) (n c n' c' : Nat), (binOp .eql 152 (.slice a n c) (.slice none n' c')).run Tryz.prog w = .ok (.bool a.isNone) w := fun w a n c n' c' => Lib.run_eql_slice_nil w _ _ a n c n' c' Tryz.underlying152;obtain ⟨i0, hi, hz0, hz1, hz2⟩ := info_parts ns_info;cases A with
 | none =>
  have he : ms = [] := by
   cases ms with
   | nil => rfl
   | cons x r => obtain ⟨b, o, h, _⟩ := hs (List.cons_ne_nil _ _); cases h
  subst he;go_enter Tryz.func164, Tryz.ntmps164
  go_wp2_with fail
  go_ret
  exact ⟨_, rfl, World.ownsRow_nil _ _ _ _, RowKit.Below.refl _ _⟩
 | some a =>
  have hcells : ∀ j u, (flatG NsM.cells ms)[j]? = some u → (w.alloc (.cells #[] 22)).cell? (a.add j) = some u := by
   intro j u hu;have hne : ms ≠ [] := (by rintro rfl; simp [flatG] at hu);obtain ⟨b, o, h1, h2, _⟩ := hs hne;injection h1 with h1
   subst h1;exact SlG.flat_alloc ns_ok hs h2 _ j u hu
  have HC := Lib.hid hcells;clear hcells hs;go_enter Tryz.func164, Tryz.ntmps164
  go_wp2_with (at_builtin; refine wpList_append_own _ rfl (.tmp 5) (.tmp 6) 152 rfl w.heap.size 22 i0 _ 1 24 Tryz.underlying152 hi hz0 hz1 hz2 rfl (by omega) _ _ _ rfl (World.ownsRow_made w #[] 0 (Nat.le_refl _) (Nat.zero_le _) (by simp)) a ms.length c (flatG NsM.cells ms) rfl (flatG_len ns_ok ms) HC.out (flatG_cell ns_ok ms) (by unfold maxLen; omega) (by omega) (by simp) ?_)
  intro v' w1 hown hgrow hnil;go_wp2_with fail
  go_ret
  refine ⟨v', rfl, by simpa using hown, ((RowKit.Below.refl _ w).alloc (Nat.le_refl _) _).grown hgrow (by simp) (by intro k hk; simp [Value.ownBlock] at hk; omega)⟩
theorem le_eq : ∀ {ps qs : List (List Nd)}, ps.Pairwise (fun a b => ndsCmp a b ≤ 0) → qs.Pairwise (fun a b => ndsCmp a b ≤ 0) → ps.Perm qs → ps = qs
 | [], qs, _, _, h => (List.Perm.nil_eq h)
 | p :: ps, [], _, _, h => absurd h.symm (fun h => by have := List.Perm.nil_eq h; cases this)
 | p :: ps, q :: qs, hp, hq, h => by
  have hp' := List.pairwise_cons.1 hp;have hq' := List.pairwise_cons.1 hq;have e : p = q := by
   rcases List.mem_cons.1 (h.mem_iff.1 (List.mem_cons_self)) with e | h1
   · exact e
   · rcases List.mem_cons.1 (h.mem_iff.2 (List.mem_cons_self (a := q))) with e | h2
     · exact e.symm
     · have a1 := hp'.1 _ h2;have a2 := hq'.1 _ h1;by_cases h0 : ndsCmp p q = 0
       · exact cm_nds.eq _ _ h0
       · have := (cm_nds.flip q p).2 (by omega);omega
  subst e;rw [le_eq hp'.2 hq'.2 (List.Perm.cons_inv h)]
theorem sorted_parts {ds qs : List (List Nd)} (hp : ds.Perm qs) (hs : ∀ (i j : Nat) (a b : List Nd), ds[i]? = some a → ds[j]? = some b → i < j → ¬ ndsCmp b a < 0) : dedupP ds = setParts qs := by
 have h1 : ds.Pairwise fun a b => ndsCmp a b ≤ 0 := by
  rw [List.pairwise_iff_getElem];intro i j hi hj hij;have := hs i j _ _ (List.getElem?_eq_getElem hi) (List.getElem?_eq_getElem hj) hij;have f := cm_nds.flip ds[i] ds[j];omega
 rw [setParts, le_eq h1 (le_sorted qs) (hp.trans (List.mergeSort_perm _ _).symm)]
theorem sort_order {w : World} {base : Nat} {v : Value} {ms : List NsM} (h : w.ownsRow base 22 1 v ms.length (flatG NsM.cells ms)) (hl : ms.length < 4611686018427387904) (hof : ∀ y ∈ ms, NsOff w v.ownBlock y) :
 Calls Tryz.prog 132 #[v, .func (.func 130) #[] #[]] w fun r w' => r = .returned (.tuple #[]) ∧ ∃ ds : List NsM, ds.Perm ms ∧ dedupP (ds.map NsM.e) = setParts (ms.map NsM.e) ∧
  w'.ownsRow base 22 1 v ms.length (flatG NsM.cells ds) ∧ (∀ y ∈ ds, NsOff w' v.ownBlock y) ∧ w.grownBy w' v.ownBlock := by
 refine (sort_lists Tryz.sortL rfl (enters_of Tryz.func130 (by kernel_rfl) rfl) ndsCmp h hl (fun _ => True) (fun _ _ => trivial) hof (swo_inj cm_nds.swo (fun x : {x : NsM // True} => x.1.e))
  (fun x y W _ _ gx gy => (val_orderD x.A y.A x.c y.c x.e y.e W gx.sl gy.sl (Nat.le_trans gx.le gx.max) (Nat.le_trans gy.le gy.max)).mono (by rintro r w' ⟨h1, h2, h3⟩; exact ⟨h1, grown_of_below h2 h3⟩))).mono ?_
 rintro r w' ⟨rfl, ds, h1, h2, h3, h4, h5⟩;refine ⟨rfl, ds, h1, sorted_parts (h1.map NsM.e) ?_, h3, h4, h5⟩;intro i j a b ha hb hij;rw [List.getElem?_map] at ha hb;obtain ⟨a', ha', rfl⟩ := Option.map_eq_some_iff.1 ha;obtain ⟨b', hb', rfl⟩ := Option.map_eq_some_iff.1 hb;exact h2 i j a' b' ha' hb' hij
set_option maxRecDepth 100000 in
theorem compact_any (base : Nat) (ms : List NsM) (v : Value) (w : World) (hown : w.ownsRow base 22 1 v ms.length (flatG NsM.cells ms)) (hof : ∀ y ∈ ms, NsOff w v.ownBlock y) (hl : ms.length ≤ 1000) :
 Calls Tryz.prog 165 #[v, .func (.func 166) #[] #[]] w fun r w' => ∃ v', r = .returned v' ∧
  w'.ownsRow base 22 1 v' (ddP ms).length (flatG NsM.cells (ddP ms)) ∧ (∀ y ∈ ddP ms, NsOff w' v'.ownBlock y) ∧ w.grownBy w' v.ownBlock := by
 rcases hown.2 with ⟨hv, h0⟩ | ⟨g, cap, cur, hv, hbase, hb, h1, h2, h3, h4⟩
 · subst hv;obtain rfl : ms = [] := List.eq_nil_of_length_eq_zero h0;clear hown hof;go_enter Tryz.func165, Tryz.ntmps165
   go_wp2_with fail
   go_ret
   exact ⟨_, rfl, World.ownsRow_nil _ _ _ _, by simp [ddP], ⟨rfl, rfl, rfl, Nat.le_refl _, fun _ _ _ => rfl⟩⟩
 · subst hv;unfold maxLen at h2;refine (compact_lists base g cap ms w hown hof hl h1 h2).mono ?_;rintro r w' ⟨rfl, a1, a2⟩;exact ⟨_, rfl, a1, fun y hy => (hof y ((ddP_sub ms).subset hy)).grown a2 (.inl rfl), a2⟩
end Go.Proofs.YtpheiojmcafolaaGreatDoor
namespace Go.Proofs.YtpheiojmcafolaaGreatDoor
open Go.RowKit Go.Sort
def NdsNewE (w : World) (r : Ending) (w' : World) (xs : List Nd) (k : Int) : Prop :=
 ∃ A c, r = .returned (.tuple #[.slice A xs.length c, errV k]) ∧ xs.length ≤ c ∧ c ≤ 9223372036854775807 ∧ NdSl w' w'.heap.size A xs ∧ RowKit.Below w.heap.size w w' ∧ ∀ b o, A = some ⟨b, o, none⟩ → w.heap.size ≤ b
theorem NdsNewE.none {w w' : World} {k : Int} (h : RowKit.Below w.heap.size w w') : NdsNewE w (.returned (.tuple #[.slice none 0 0, errV k])) w' [] k :=
 ⟨Option.none, 0, rfl, Nat.le_refl _, by omega, NdSl.nil _ _ _, h, by simp⟩
theorem own_nodes' {w : World} {base : Nat} {e : TypeId} {v : Value} {n : Nat} {xs : List Value} (h : w.ownsRow base e 4 v n xs) : ∃ A c, v = .slice A n c ∧ n ≤ c := by
 rcases h.2 with ⟨hv, h0⟩ | ⟨g, cap, cur, hv, _, _, h1, _⟩
 · exact ⟨none, 0, by rw [hv, h0], by omega⟩
 · exact ⟨some ⟨g, 0, none⟩, cap, hv, h1⟩
def setV (ps : List (List Nd)) : List Nd × Int := if 200 < (setNodes ps).length then ([], 4) else (setNodes ps, 0)
theorem setV_of {ps : List (List Nd)} (h : valsErr ps = 0) : setOfP ps = setV ps := by unfold setOfP setV; rw [if_neg (by simp [h])]
set_option maxRecDepth 100000 in
set_option maxHeartbeats 6400000 in
theorem val_SetOf (ms : List NsM) (A : Option Addr) (c : Nat) (w : World) (hs : NssAt w A ms) (hv : ∀ y ∈ ms, valErr y.e = 0) (hok : ∀ y ∈ ms, NdOk y.e) (hl : ms.length ≤ 1000) :
 Calls Tryz.prog 135 #[.slice A ms.length c] w fun r w' => NdsNewE w r w' (setV (ms.map NsM.e)).1 (setV (ms.map NsM.e)).2 := by
 obtain ⟨j0, hj, hy0, hy1, hy2⟩ := info_parts nd_info;have HS := Lib.hid hs;have HC := Lib.hid (fun W (hW : RowKit.Below w.heap.size w W) y (hy : y ∈ ms) => by
  have g := (hs.later hW).good y hy;have h := val_Check y.e y.A y.c W g.le g.max (hok y hy) g.sl;rw [hv y hy] at h;exact h)
 have HV := Lib.hid hv;clear hs hv hok;have t0 := errV_zero;go_enter Tryz.func135, Tryz.ntmps135
 go_wp2_with fail
 go_loopw [13] (fun kk wr => ∃ k : Nat, kk = .int .i64 k ∧ k ≤ ms.length ∧ RowKit.Below w.heap.size w wr) (fun kk _ => ms.length - (intOf kk).toNat)
 case atStart => exact ⟨0, rfl, by omega, RowKit.Below.refl _ _⟩
 case round =>
  obtain ⟨k, rfl, hk, hbr⟩ := hrel;have hzr := hbr.size;by_cases hlt : k < ms.length
  · obtain ⟨⟨Ay, cy, ey⟩, hy⟩ : ∃ y, ms[k]? = some y := ⟨_, List.getElem?_eq_getElem hlt⟩;obtain ⟨b, o, hA, hb, hc0⟩ := nsSl_at (HS.out.later hbr).sl hy;simp only at hc0;have HCy := Lib.hid (HC.out wr hbr _ (List.mem_of_getElem? hy));simp only at HCy;subst hA;clear hy;go_wp2_with fail
    refine HCy.out.mono ?_;rintro r w1 ⟨rfl, hb1⟩;have hw1 := hbr.trans (hb1.mono hbr.size);clear hb1;go_wp2_with fail
    exact ⟨⟨k + 1, by go_num, by omega, hw1⟩, by simp [intOf]; omega⟩
  · have HSr := Lib.hid (HS.out.later hbr);have HCL := Lib.hid (clone_ns ms A c wr HSr.out.sl hl);clear HC;go_wp2_with fail
    refine HCL.out.mono ?_;rintro r w1 ⟨v, rfl, hown1, hb1⟩;have hw1 := hbr.trans (hb1.mono hbr.size);have hof1 : ∀ y ∈ ms, NsOff w1 v.ownBlock y := fun y hy => (((HSr.out.good y hy).away (q := v.ownBlock) (Nat.le_refl _) (fun b hb => (own_lt hown1 hb).1)).later hb1);have HSO := Lib.hid (sort_order hown1 (by omega) hof1);have HL1 : Hid (∀ b, v.ownBlock = some b → wr.heap.size ≤ b) := fun b hb => (own_lt hown1 hb).1;clear hown1 hof1 hb1;go_wp2_with fail
    refine HSO.out.mono ?_;rintro r w2 ⟨rfl, ds, hp2, hd2, hown2, hof2, hg2⟩;have hw2 : RowKit.Below w.heap.size w w2 := hw1.grown hg2 hw1.size (fun q hq => by have := HL1.out q hq; omega);have hdl : ds.length = ms.length := hp2.length_eq;rw [← hdl] at hown2;have HCO := Lib.hid (compact_any _ ds v w2 hown2 hof2 (by omega));have HD2 := Lib.hid hd2;have HP2 := Lib.hid hp2;clear hown2 hof2 hg2 hd2 hp2;go_wp2_with fail
    refine HCO.out.mono ?_;rintro r w3 ⟨v3, rfl, hown3, hof3, hg3⟩;have hw3 : RowKit.Below w.heap.size w w3 := hw2.grown hg3 hw2.size (fun q hq => by have := HL1.out q hq; omega);have HSP : Hid ((ddP ds).map NsM.e = setParts (ms.map NsM.e)) := by
     show _ = _;rw [ddP_e]; exact HD2.out
    have hql : (ddP ds).length ≤ 1000 := (by have := (ddP_sub ds).length_le; omega);have HVQ : Hid (∀ y ∈ ddP ds, y.e.length ≤ 200 ∧ y.e ≠ []) := fun y hy => by
     have hm := HP2.out.mem_iff.1 ((ddP_sub ds).subset hy);have h1 := (val_iff y.e).1 (HV.out y hm);obtain ⟨x, r, e, _⟩ := h1.2.ne;exact ⟨h1.1, by rw [e]; simp⟩
    generalize ddP ds = qs at hown3 hof3 HSP hql HVQ;obtain ⟨-, A3, c3, hv3, hc3, hcm3, hs3⟩ := own_formG ns_ok hown3;subst hv3;have HS3 : Hid (NssAt w3 A3 qs) := ⟨hs3, fun y hy => (hof3 y hy).good⟩;have HSV : Hid (setV (ms.map NsM.e) = if 200 < (⟨5, qs.length, ⟨#[]⟩, ⟨#[]⟩⟩ :: catN qs : List Nd).length then ([], 4) else (⟨5, qs.length, ⟨#[]⟩, ⟨#[]⟩⟩ :: catN qs, 0)) := by
     show _ = _;unfold setV setNodes;rw [← HSP.out, nss_map' (ms := qs) rfl, List.length_map]
    clear hown3 hof3 hg3 hs3 hdl HSP HD2 HP2;go_wp2_with fail
    obtain ⟨x0, hx0⟩ : ∃ x0 : Nd, x0 = ⟨5, qs.length, ⟨#[]⟩, ⟨#[]⟩⟩ := ⟨_, rfl⟩;have HOL := Lib.hid (World.ownsRow_lit (base := w3.heap.size) (e := 37) (size := 4) w3 #[.int .i64 5, .int .i64 qs.length, .string ⟨#[]⟩, .string ⟨#[]⟩] 1 (Nat.le_refl _) (by decide) (by simp));have HO0 : Hid ((w3.alloc (.cells #[.int .i64 5, .int .i64 qs.length, .string ⟨#[]⟩, .string ⟨#[]⟩] 37)).ownsRow w3.heap.size 37 4 (.slice (some ⟨w3.heap.size, 0, none⟩) 1 1) 1 (flat [x0])) := by
     have := HOL.out;rw [hx0];simpa [flat, Nd.cells, Hid] using this
    have HX0 := Lib.hid hx0;rw [← hx0] at HSV;have hz3 := hw3.size;clear hx0 HOL;obtain ⟨wo, hwo⟩ : ∃ wo : World, wo = wr := ⟨_, rfl⟩;clear hwo;go_loopw [8, 35] (fun ov kk wr => ∃ (k l : Nat), kk = .int .i64 k ∧ k ≤ qs.length ∧ l ≤ 200 ∧ Hid (l = (x0 :: catN (qs.take k)).length) ∧ Hid (wr.ownsRow w3.heap.size 37 4 ov l (flat (x0 :: catN (qs.take k)))) ∧ RowKit.Below w3.heap.size w3 wr) (fun _ kk _ => qs.length - (intOf kk).toNat)
    case atStart => exact ⟨0, 1, rfl, by omega, by omega, by simp [catN, Hid], by simpa [catN, Hid] using HO0.out, by (repeat (first | assumption | exact Below.refl _ _ | apply Below.drew | apply below_drewN | (refine Below.alloc ?_ (by first | exact Nat.le_refl _ | omega | (simp; done) | (simp; omega)) _)))⟩
    case round =>
     obtain ⟨j, l, rfl, hj1, hl2, HLL, HOr, hbr3⟩ := hrel;have hzr3 := hbr3.size;by_cases hlt3 : j < qs.length
     · obtain ⟨⟨Ay, cy, ey⟩, hy⟩ : ∃ y, qs[j]? = some y := ⟨_, List.getElem?_eq_getElem hlt3⟩;have HST := Lib.hid (catN_step hy);have h2 := catN_le (ps := qs) (j + 1);obtain ⟨he1, hee⟩ := HVQ.out _ (List.mem_of_getElem? hy);have hg := (HS3.out.good _ (List.mem_of_getElem? hy)).later hbr3;obtain ⟨b, o, rfl, hb, hc0⟩ := nsSl_at (HS3.out.later hbr3).sl hy;simp only at hc0 hee he1;obtain ⟨bn, on, rfl, hbn, -⟩ := hg.sl hee;have HCE := Lib.hid (fun j u hu => NdSl.flat hg.sl j u hu);have HL2 : Hid (l + ey.length = (x0 :: catN (qs.take (j + 1))).length) := by
        show _ = _;rw [HLL.out, HST.out]; simp; omega
       have HT2 : Hid ((x0 :: catN (qs.take (j + 1))).length ≤ (x0 :: catN qs).length) := by
        show _ ≤ _;simp only [List.length_cons]; omega
       clear hg hy hee h2;by_cases h200 : 200 < l + ey.length
       · go_wp2_with (at_builtin; refine wpList_append_own _ rfl (.tmp 39) (.tmp 40) 22 rfl w3.heap.size 37 j0 _ 4 48 Tryz.underlying22 hj hy0 hy1 hy2 rfl (by omega) _ l (flat (x0 :: catN (qs.take j))) rfl HOr.out ⟨bn, on, none⟩ ey.length cy (flat ey) rfl (flat_len ey) HCE.out (flat_one_cell ey) (by unfold maxLen; omega) (by omega) (by omega) ?_; intro v1 w5 hown5 hgrow5 _; obtain ⟨A5, c5, hv5, -⟩ := own_nodes' hown5; subst hv5)
         have hb5 : RowKit.Below w3.heap.size w3 w5 := hbr3.grown hgrow5 hbr3.size (fun q hq => (HOr.out.lt q hq).1);clear hown5 hgrow5 hbn;go_ret2
         rw [HSV.out, if_pos (by have := HL2.out; have := HT2.out; rw [HX0.out] at *; omega)];exact NdsNewE.none (k := 4) (hw3.trans (hb5.mono hw3.size))
       · go_wp2_with (at_builtin; refine wpList_append_own _ rfl (.tmp 39) (.tmp 40) 22 rfl w3.heap.size 37 j0 _ 4 48 Tryz.underlying22 hj hy0 hy1 hy2 rfl (by omega) _ l (flat (x0 :: catN (qs.take j))) rfl HOr.out ⟨bn, on, none⟩ ey.length cy (flat ey) rfl (flat_len ey) HCE.out (flat_one_cell ey) (by unfold maxLen; omega) (by omega) (by omega) ?_; intro v1 w5 hown5 hgrow5 _; obtain ⟨A5, c5, hv5, -⟩ := own_nodes' hown5; subst hv5)
         have hb5 : RowKit.Below w3.heap.size w3 w5 := hbr3.grown hgrow5 hbr3.size (fun q hq => (HOr.out.lt q hq).1);have HO5 : Hid (w5.ownsRow w3.heap.size 37 4 (.slice A5 (l + ey.length) c5) (l + ey.length) (flat (x0 :: catN (qs.take (j + 1))))) := by
          show World.ownsRow _ _ _ _ _ _ _;rw [HST.out, ← List.cons_append, flat_append]; exact hown5
         clear hown5 hgrow5 hbn;exact ⟨⟨j + 1, l + ey.length, by go_num, by omega, by omega, HL2, HO5, hb5⟩, by simp [intOf]; omega⟩
     · have HT : Hid (qs.take j = qs) := (by show _ = _; rw [List.take_of_length_le (by omega)]);rw [HT.out] at HOr HLL;obtain ⟨Ao, co, hv, hco, hcm4, hso, hnew⟩ := own_form_new HOr.out;subst hv;have HSO2 := Lib.hid hso;have HNW := Lib.hid hnew;clear hso HOr hnew;go_wp2_with fail
       go_ret2
       rw [HSV.out, if_neg (by have := HLL.out; omega)];have hll := HLL.out;subst hll;exact ⟨Ao, co, rfl, hco, hcm4, HSO2.out, hw3.trans (hbr3.mono hw3.size), fun b o h => by have := HNW.out b o h; omega⟩
end Go.Proofs.YtpheiojmcafolaaGreatDoor
namespace Go.Proofs.YtpheiojmcafolaaGreatDoor
set_option maxRecDepth 100000
open Go.RowKit Go.Sort
def rsL {α : Type} (r : Rs (List α)) : List α := match r with | .ok v => v | .bad _ => []
def PartsBack (w : World) (r : Ending) (w' : World) (q : Rs (List (List Nd))) : Prop :=
 ∃ (Ap : Option Addr) (cp : Nat) (ms : List NsM), r = .returned (.tuple #[.slice Ap ms.length cp, errV (rsE q)]) ∧ ms.map NsM.e = rsL q ∧ ms.length ≤ cp ∧ cp ≤ 9223372036854775807 ∧ NssAt w' Ap ms ∧ RowKit.Below w.heap.size w w' ∧
  (∀ y ∈ ms, ∀ b o, y.A = some ⟨b, o, none⟩ → y.e ≠ [] → w.heap.size ≤ b) ∧ (∀ b o, Ap = some ⟨b, o, none⟩ → w.heap.size ≤ b)
theorem PartsBack.bad {w w' : World} {k : Int} (h : RowKit.Below w.heap.size w w') : PartsBack w (.returned (.tuple #[.slice none 0 0, errV k])) w' (.bad k) :=
 ⟨none, 0, [], rfl, rfl, Nat.le_refl _, by omega, ⟨SlG.nil _ _ _, by simp⟩, h, by simp, by simp⟩
theorem val_cut {v : List Nd} (h : valErr v = 0) (ho : opH v = 5 ∨ opH v = 6) : ∃ (x : Nd) (ps : List (List Nd)), v = x :: ps.flatten ∧ v.length ≤ 200 ∧ x.n = ps.length ∧ (x.op = 5 → ∀ p ∈ ps, Vx p) ∧ (x.op = 6 → ∀ p ∈ ps, ∃ f u, p = f :: u ∧ Vx u) ∧ (x.op = 5 ∨ x.op = 6) ∧ partsV v = ps ∧ opH v = x.op := by
 obtain ⟨hl, hv⟩ := (val_iff v).1 h;cases hv with
 | leaf n hs h5 h6 h7 => rcases ho with ho | ho; exact absurd ho h5; exact absurd ho h6
 | set n ps hs h5 hn hp hc =>
  exact ⟨n, ps, rfl, hl, hn, fun _ => hp, fun h6 => by omega, .inl h5, kids_any ps (fun p hp' => ⟨false, vx_ex (hp p hp')⟩) _ (Nat.le_refl _), rfl⟩
 | rcd n ps hs h6 hn h1 h2 h3 hc =>
  refine ⟨n, ps, rfl, hl, hn, fun h5 => by omega, fun _ p hp => ?_, .inr h6, kids_any ps (fun p hp => ?_) _ (Nat.le_refl _), rfl⟩
  · obtain ⟨f, u, rfl⟩ := h1 p hp;exact ⟨f, u, rfl, h3 f u hp⟩
  · obtain ⟨f, u, rfl⟩ := h1 p hp;exact ⟨true, fx_ex (h2 f u hp).1 (h2 f u hp).2 (vx_ex (h3 f u hp))⟩
theorem partsR_cut {v : List Nd} {x : Nd} {ps : List (List Nd)} (h : valErr v = 0) (hx : x.op = 5 ∨ x.op = 6) (hp : partsV v = ps) (ho : opH v = x.op) : partsR v = .ok (ps.map (cont x)) := by
 unfold partsR;rw [if_neg (by simp [h]), ho, hp];rcases hx with h5 | h6
 · rw [if_pos h5];congr 1
   rw [show cont x = id from by funext p; unfold cont; rw [if_neg (by omega)]; rfl, List.map_id]
 · rw [if_neg (by omega), if_pos h6];congr 2
   funext p; unfold cont; rw [if_pos h6]
set_option maxHeartbeats 3200000 in
theorem val_Parts (v : List Nd) (A : Option Addr) (c : Nat) (w : World) (hc : v.length ≤ c) (hcm : c ≤ 9223372036854775807) (hok : NdOk v) (hsl : NdSl w w.heap.size A v) :
 Calls Tryz.prog 148 #[.slice A v.length c] w fun r w' => PartsBack w r w' (partsR v) := by
 have HV := Lib.hid (val_Check v A c w hc hcm hok hsl);obtain ⟨q, hq⟩ : ∃ q, partsR v = q := ⟨_, rfl⟩;rw [hq];have HQ := Lib.hid hq;clear hq;by_cases h0 : valErr v = 0
 · have t0 : (valErr v != 0) = false := by simp [h0]
   obtain ⟨y, r, hvy, -, -⟩ := ((val_iff v).1 h0).2.ne;have hne : v ≠ [] := by rw [hvy]; simp
   obtain ⟨b, o, rfl, hb, hcs⟩ := hsl hne;have d0 := (hcs 0 y (by rw [hvy]; rfl)).c0;rw [Nat.zero_mul, Nat.add_zero] at d0;have hl0 : (0 : Int) < (v.length : Int) := by rw [hvy]; simp
   have hoy : opH v = y.op := by rw [hvy]; rfl
   by_cases ho : opH v = 5 ∨ opH v = 6
   · obtain ⟨x, ps, hx, hl, hn, h5, h6, hxo, hpv, hox⟩ := val_cut h0 ho;have HR : Hid (q = .ok (ps.map (cont x))) := (by show _ = _; rw [← HQ.out]; exact partsR_cut h0 hxo hpv hox);have HSP := Lib.hid (fun W (hW : RowKit.Below w.heap.size w W) => val_split x ps (some ⟨b, o, none⟩) c W (by rw [← hx]; exact hl) hn h5 h6 hxo (by rw [← hx]; exact hc) hcm (by rw [← hx]; exact hok) (by rw [← hx]; exact (hsl.below hW).more hW.size));rw [← hx] at HSP;generalize (if x.op = 6 then namesOf ps else []) = NS at HSP;have hyo : (y.op != 5) = false ∨ ((y.op != 5) = true ∧ (y.op != 6) = false) := by
      rw [hoy] at ho;rcases ho with h | h
      · left; simp [h]
      · right; simp [h]
     clear h0 hvy hne hcs hoy ho hx hl hn h5 h6 hxo hpv hox hok hsl hc;rcases hyo with t5 | ⟨t5, t6⟩
     all_goals (
      go_enter Tryz.func148, Tryz.ntmps148
      go_wp2_with fail
      refine HV.out.mono ?_;rintro r w1 ⟨rfl, hb1⟩;have e0 := (hb1.cell (p := ⟨b, o, none⟩) hb).trans d0;have HS1 := Lib.hid (HSP.out w1 hb1);have HB1 := Lib.hid hb1;clear hb1 d0;go_wp2_with fail
      refine HS1.out.mono ?_;rintro r w2 ⟨Ap, cp, An, cn, ms, rfl, h1, h2, h3, h4, -, h5, h6, h7⟩;have H1 := Lib.hid h1;have H4 := Lib.hid h4;have H6 := Lib.hid h6;have H7 := Lib.hid h7;have H2 := Lib.hid h2;have hw2 := HB1.out.trans (h5.mono HB1.out.size);have hz1 := HB1.out.size;clear h1 h2 h4 h5 h6 h7;go_wp2_with fail
      go_ret2
      rw [HR.out];exact ⟨Ap, cp, ms, rfl, H1.out, H2.out, h3, H4.out, hw2, fun y hy b o e1 e2 => by have := H6.out y hy b o e1 e2; omega, fun b o e1 => by have := H7.out b o e1; omega⟩)
   · have HR : Hid (q = .bad 2) := by
      show _ = _;rw [← HQ.out]; unfold partsR;rw [if_neg (by simp [h0]), if_neg (fun h => ho (.inl h)), if_neg (fun h => ho (.inr h))]
     rw [hoy] at ho;have t5 : (y.op != 5) = true := (by simp; exact fun h => ho (.inl h));have t6 : (y.op != 6) = true := (by simp; exact fun h => ho (.inr h));clear h0 hvy hne hcs hoy ho hok hsl hc;go_enter Tryz.func148, Tryz.ntmps148
     go_wp2_with fail
     refine HV.out.mono ?_;rintro r w1 ⟨rfl, hb1⟩;have e0 := (hb1.cell (p := ⟨b, o, none⟩) hb).trans d0;have HB1 := Lib.hid hb1;clear hb1 d0;go_wp2_with fail
     go_ret2
     rw [HR.out];have hfin := PartsBack.bad (k := 2) HB1.out;rw [errV_pos (by omega)] at hfin;exact hfin
 · have t0 : (valErr v != 0) = true := by simp [h0]
   have HR : Hid (q = .bad (valErr v)) := by show _ = _; rw [← HQ.out]; unfold partsR; rw [if_pos h0]
   clear h0 hok hsl hc;go_enter Tryz.func148, Tryz.ntmps148
   go_wp2_with fail
   refine HV.out.mono ?_;rintro r w1 ⟨rfl, hb1⟩;have HB1 := Lib.hid hb1;clear hb1;go_wp2_with fail
   go_ret2
   rw [HR.out];exact PartsBack.bad HB1.out
theorem sH_head (p : List Nd) : sH p = headS p := by cases p <;> rfl
theorem find_name (ps : List (List Nd)) (s : ByteArray) : (s.toList ∈ namesOf ps → ∃ p, ps[(namesOf ps).idxOf s.toList]? = some p ∧ ps.find? (fun p => decide (sH p = s)) = some p) ∧ (s.toList ∉ namesOf ps → ps.find? (fun p => decide (sH p = s)) = none) := by
 induction ps with
 | nil => exact ⟨fun h => by simp [namesOf] at h, fun _ => rfl⟩
 | cons p ps ih =>
  have hc : namesOf (p :: ps) = (headS p).toList :: namesOf ps := rfl;by_cases he : sH p = s
  · have h1 : (headS p).toList = s.toList := (by rw [← sH_head, he]);refine ⟨fun _ => ⟨p, by rw [hc, h1]; simp, by simp [he]⟩, fun h => ?_⟩;rw [hc, h1] at h; simp at h
  · have h1 : ¬ (headS p).toList = s.toList := fun h => he (by rw [sH_head]; exact (bs_same _ _).1 h);refine ⟨fun h => ?_, fun h => ?_⟩
    · rw [hc] at h;rcases List.mem_cons.1 h with h | h
      · exact absurd h.symm h1
      · obtain ⟨q, e1, e2⟩ := ih.1 h;refine ⟨q, ?_, by simp [he, e2]⟩;have h2 : ((headS p).toList == s.toList) = false := (by simpa using h1);rw [hc, List.idxOf_cons, h2]; simpa using e1
    · rw [hc] at h;have h2 : s.toList ∉ namesOf ps := fun hh => h (List.mem_cons_of_mem _ hh);simp [he, ih.2 h2]
set_option maxHeartbeats 3200000 in
theorem val_Get (v : List Nd) (s : ByteArray) (A : Option Addr) (c : Nat) (w : World) (hc : v.length ≤ c) (hcm : c ≤ 9223372036854775807) (hok : NdOk v) (hsl : NdSl w w.heap.size A v) :
 Calls Tryz.prog 117 #[.slice A v.length c, .string s] w fun r w' => NdsNewE w r w' (rsL (getR v s)) (rsE (getR v s)) := by
 have HV := Lib.hid (val_Check v A c w hc hcm hok hsl);obtain ⟨q, hq⟩ : ∃ q, getR v s = q := ⟨_, rfl⟩;rw [hq];have HQ := Lib.hid hq;clear hq;by_cases h0 : valErr v = 0
 · have t0 : (valErr v != 0) = false := by simp [h0]
   obtain ⟨y, r, hvy, -, -⟩ := ((val_iff v).1 h0).2.ne;have hne : v ≠ [] := by rw [hvy]; simp
   obtain ⟨b, o, rfl, hb, hcs⟩ := hsl hne;have d0 := (hcs 0 y (by rw [hvy]; rfl)).c0;rw [Nat.zero_mul, Nat.add_zero] at d0;have hl0 : (0 : Int) < (v.length : Int) := by rw [hvy]; simp
   have hoy : opH v = y.op := by rw [hvy]; rfl
   by_cases ho : opH v = 6
   · obtain ⟨x, ps, hx, hl, hn, h5, h6, hxo, hpv, hox⟩ := val_cut h0 (.inr ho);have hx6 : x.op = 6 := (by rw [← hox]; exact ho);have HR : Hid (q = match ps.find? (fun p => decide (sH p = s)) with | some p => .ok p.tail | none => .bad 3) := by
      show _ = _; rw [← HQ.out]; unfold getR; rw [if_neg (by simp [h0]), if_pos ho, hpv]; rfl
     have HSP := Lib.hid (fun W (hW : RowKit.Below w.heap.size w W) => val_split x ps (some ⟨b, o, none⟩) c W (by rw [← hx]; exact hl) hn h5 h6 hxo (by rw [← hx]; exact hc) hcm (by rw [← hx]; exact hok) (by rw [← hx]; exact (hsl.below hW).more hW.size));rw [← hx, if_pos hx6] at HSP;have HCX : Hid (cont x = List.tail) := (by show _ = _; funext p; unfold cont; rw [if_pos hx6]);rw [HCX.out] at HSP;have hpl : ps.length ≤ 200 := by
      have : ps.length ≤ ps.flatten.length := by
       have h1 : ∀ l : List (List Nd), (∀ p ∈ l, p ≠ []) → l.length ≤ l.flatten.length := by
        intro l;induction l with
        | nil => simp
        | cons p r ih =>
         intro h;have a1 := ih (fun q hq => h q (by simp [hq]));have a2 := List.length_pos_iff.2 (h p (by simp));rw [List.flatten_cons, List.length_append, List.length_cons]; omega
       exact h1 ps (fun p hp => by obtain ⟨f, u, e, _⟩ := h6 hx6 p hp; rw [e]; simp)
      rw [hx, List.length_cons] at hl; omega
     have t6 : (y.op != 6) = false := (by rw [hoy] at ho; simp [ho]);have hnl : (namesOf ps).length = ps.length := (by simp [namesOf]);have HNL := Lib.hid hnl;have HTN : Hid (∀ p ∈ ps, p.tail ≠ []) := fun p hp => by
      obtain ⟨f, u, e, hu⟩ := h6 hx6 p hp;obtain ⟨x', r', e', _⟩ := hu.ne;rw [e, e']; simp
     have HIX := Lib.hid (fun An cn W hS => str_Index (namesOf ps) An cn s W hS (by rw [hnl]; omega));have HFN := Lib.hid (find_name ps s);clear h0 hvy hne hcs hoy ho hx hl hn h5 h6 hxo hpv hox hok hsl hc hx6 hnl;by_cases hm : s.toList ∈ namesOf ps
     · obtain ⟨p, hp1, hp2⟩ := HFN.out.1 hm;have HR2 : Hid (q = .ok p.tail) := (by show _ = _; rw [HR.out, hp2]);have hid : idxL (namesOf ps) s.toList = (((namesOf ps).idxOf s.toList : Nat) : Int) := (by unfold idxL; rw [if_pos hm]);rw [hid] at HIX;have HP1 := Lib.hid hp1;have hk : (namesOf ps).idxOf s.toList < ps.length := (List.getElem?_eq_some_iff.1 hp1).1;generalize (namesOf ps).idxOf s.toList = k at HIX HP1 hk;have tk : decide ((0 : Int) ≤ (k : Int)) = true := (by simp);clear hm hp1 hp2 hid HFN HR;go_enter Tryz.func117, Tryz.ntmps117
       go_wp2_with fail
       refine HV.out.mono ?_;rintro r w1 ⟨rfl, hb1⟩;have e0 := (hb1.cell (p := ⟨b, o, none⟩) hb).trans d0;have HS1 := Lib.hid (HSP.out w1 hb1);have HB1 := Lib.hid hb1;clear hb1 d0;go_wp2_with fail
       refine HS1.out.mono ?_;rintro r w2 ⟨Ap, cp, An, cn, ms, rfl, h1, h2, h3, h4, hsn, h5, h6, h7⟩;have hml : ms.length = ps.length := (by have := congrArg List.length h1; simpa using this);have hkm : k < ms.length := (by omega);obtain ⟨⟨Ay, cy, ey⟩, hy⟩ : ∃ y, ms[k]? = some y := ⟨_, List.getElem?_eq_getElem hkm⟩;have HEY : Hid (ey = p.tail) := by
        have h8 := congrArg (fun l => l[k]?) h1;simp only [List.getElem?_map, hy, HP1.out, Option.map_some] at h8;injection h8
       obtain ⟨bm, om, rfl, hbm, hcm2⟩ := nsSl_at h4.sl hy;have HG := Lib.hid (h4.good _ (List.mem_of_getElem? hy));have HFR := Lib.hid (fun b o e1 e2 => h6 _ (List.mem_of_getElem? hy) b o e1 e2);have hw2 := HB1.out.trans (h5.mono HB1.out.size);have hz1 := HB1.out.size;have HIX2 := Lib.hid (HIX.out An cn w2 hsn);have HNN : Hid ((namesOf ps).length = ps.length) := HNL;simp only at hcm2;clear h1 h2 h4 h5 h6 h7 hsn hy hml e0;go_wp2_with fail
       refine HIX2.out.mono ?_;rintro r w3 ⟨rfl, rfl⟩;go_wp2_with fail
       go_ret2
       rw [HR2.out];have e1 := HEY.out;subst e1;exact ⟨Ay, cy, rfl, HG.out.le, HG.out.max, HG.out.sl, hw2, fun b o e1 => by have := HFR.out b o e1 (HTN.out p (List.mem_of_getElem? HP1.out)); omega⟩
     · have hnf := HFN.out.2 hm;have HR2 : Hid (q = .bad 3) := (by show _ = _; rw [HR.out, hnf]);have hid : idxL (namesOf ps) s.toList = -1 := (by unfold idxL; rw [if_neg hm]);rw [hid] at HIX;clear hm hnf hid HFN HR;go_enter Tryz.func117, Tryz.ntmps117
       go_wp2_with fail
       refine HV.out.mono ?_;rintro r w1 ⟨rfl, hb1⟩;have e0 := (hb1.cell (p := ⟨b, o, none⟩) hb).trans d0;have HS1 := Lib.hid (HSP.out w1 hb1);have HB1 := Lib.hid hb1;clear hb1 d0;go_wp2_with fail
       refine HS1.out.mono ?_;rintro r w2 ⟨Ap, cp, An, cn, ms, rfl, -, -, h3, -, hsn, h5, -, -⟩;have hw2 := HB1.out.trans (h5.mono HB1.out.size);have HIX2 := Lib.hid (HIX.out An cn w2 hsn);clear h5 hsn e0;go_wp2_with fail
       refine HIX2.out.mono ?_;rintro r w3 ⟨rfl, rfl⟩;go_wp2_with fail
       go_ret2
       rw [HR2.out];have hfin := NdsNewE.none (k := 3) hw2;rw [errV_pos (by omega)] at hfin;exact hfin
   · have HR : Hid (q = .bad 2) := by
      show _ = _;rw [← HQ.out]; unfold getR;rw [if_neg (by simp [h0]), if_neg ho]
     rw [hoy] at ho;have t6 : (y.op != 6) = true := (by simp [ho]);clear h0 hvy hne hcs hoy ho hok hsl hc;go_enter Tryz.func117, Tryz.ntmps117
     go_wp2_with fail
     refine HV.out.mono ?_;rintro r w1 ⟨rfl, hb1⟩;have e0 := (hb1.cell (p := ⟨b, o, none⟩) hb).trans d0;have HB1 := Lib.hid hb1;clear hb1 d0;go_wp2_with fail
     go_ret2
     rw [HR.out];have hfin := NdsNewE.none (k := 2) HB1.out;rw [errV_pos (by omega)] at hfin;exact hfin
 · have t0 : (valErr v != 0) = true := by simp [h0]
   have HR : Hid (q = .bad (valErr v)) := by show _ = _; rw [← HQ.out]; unfold getR; rw [if_pos h0]
   clear h0 hok hsl hc;go_enter Tryz.func117, Tryz.ntmps117
   go_wp2_with fail
   refine HV.out.mono ?_;rintro r w1 ⟨rfl, hb1⟩;have HB1 := Lib.hid hb1;clear hb1;go_wp2_with fail
   go_ret2
   rw [HR.out];exact NdsNewE.none HB1.out
end Go.Proofs.YtpheiojmcafolaaGreatDoor
