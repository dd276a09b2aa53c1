/-
  THE WALKS: val.compare, CompareFunc, val.order, and that the draws go on.
  THE WALKS: tree.Skip, tree.End.
  THE WALKS: slices.Clone and slices.CompactFunc of lists of nodes, by val.order. THE WALK: slices.CompactFunc of lists of nodes, by val.order. THE WALKS: slices.Clone of lists of nodes; the sort by val.order; val.SetOf. THE WALK: val.SetOf, of values.
  THE WALKS: val.Parts, val.Get.
  THE WALKS: slices.Equal of nodes; package bag: has, kept, both, Has, All, Any.
  THE WALKS: package bag: kept, both, Has, All, Any, of values.
  THE WALKS: bag.Has, bag.All, bag.Any, of values.
  PLAIN LAWS: the numbers of a value are numbers of 64 bits.
  ARGUMENTS that are entities, requests and policies, opened, with numbers that stay in 64 bits.
-/
import Derived.Test.YtpheiojmcafolaaGreatDoorSx01
import Derived.Sort.Grow
import Derived.Test.YtpheiojmcafolaaGreatDoorSx05
import Derived.Test.YtpheiojmcafolaaGreatDoorSx06
import Derived.Deep.QuietTactic
import Derived.BigQuiet
import Derived.Lib.Hide
import Derived.Test.YtpheiojmcafolaaGreatDoorSx03
import Derived.StillTailTactics
import Derived.Maps.RangeWalk
namespace Go.Proofs.YtpheiojmcafolaaGreatDoor
open Go.RowKit
theorem grown_of_below {w w' : World} (h : RowKit.Below w.heap.size w w') (hd : w.drawn ≤ w'.drawn) : ∃ q os', w' = Sort.grow (w.drewN q) os' := by
 refine ⟨w'.drawn - w.drawn, w'.heap.extract w.heap.size w'.heap.size, ?_⟩
 have e1 : w.heap ++ w'.heap.extract w.heap.size w'.heap.size = w'.heap := by
   apply Array.ext_getElem?
   intro k
   by_cases hk : k < w.heap.size
   · rw [Array.getElem?_append_left hk]; exact (h.block k hk).symm
   · rw [Array.getElem?_append_right (by omega)]
     by_cases hk2 : k < w'.heap.size
     · rw [Array.getElem?_extract]
       rw [if_pos (by omega)]
       congr 1; omega
     · rw [Array.getElem?_eq_none (by simp; omega), Array.getElem?_eq_none (by omega)]
 have e2 : (w.drewN (w'.drawn - w.drawn)).drawn = w'.drawn := by show w.drawn + (w'.drawn - w.drawn) = _; omega
 cases w' with
 | mk heap tape drawn os output =>
   have := h.os
   have := h.tape
   have := h.output
   simp only at *
   unfold Sort.grow
   rw [show (w.drewN (drawn - w.drawn)).heap = w.heap from rfl, e1]
   congr
   · exact e2.symm
set_option maxHeartbeats 800000 in
theorem val_compareD (x y : Nd) (w : World) :
   Calls Tryz.prog 160 #[.agg #[.int .i64 x.op, .int .i64 x.n, .string x.s, .string x.t], .agg #[.int .i64 y.op, .int .i64 y.n, .string y.s, .string y.t]] w fun e w' => e = .returned (.int .i64 (ndCmp x y)) ∧ Below w.heap.size w w' ∧ w.drawn ≤ w'.drawn := by
 go_enter Tryz.func160, Tryz.ntmps160
 go_wp2_with fail
 go_region_held3 (fun w' => w'.cell? ⟨w.heap.size, 0, none⟩ = some (.int .i64 x.op) ∧ w'.cell? ⟨w.heap.size, 1, none⟩ = some (.int .i64 x.n) ∧ w'.cell? ⟨w.heap.size, 2, none⟩ = some (.string x.s) ∧ w'.cell? ⟨w.heap.size, 3, none⟩ = some (.string x.t) ∧ w'.cell? ⟨w.heap.size + 1, 0, none⟩ = some (.int .i64 y.op) ∧ w'.cell? ⟨w.heap.size + 1, 1, none⟩ = some (.int .i64 y.n) ∧ w'.cell? ⟨w.heap.size + 1, 2, none⟩ = some (.string y.s) ∧ w'.cell? ⟨w.heap.size + 1, 3, none⟩ = some (.string y.t)) (simp [go_sem, World.cell?_alloc_past])
   (first
     | (go_at_call 183; refine (cmp_Compare _ _ _).mono ?_; rintro e w' ⟨rfl, rfl⟩)
     | (go_at_call 134; refine (Tryz.strings_Compare _ _ _).mono ?_; rintro e w' ⟨rfl, rfl⟩)
     | (go_at_call 182; refine (cmp_Or4 _ _ (cmpI x.op y.op) (cmpI x.n y.n) (Lib.compareBytes x.s.data.toList y.s.data.toList) (Lib.compareBytes x.t.data.toList y.t.data.toList) _ (by simp [go_sem]) (by simp [go_sem]) (by simp [go_sem]) (by simp [go_sem])).mono ?_; rintro e w' ⟨rfl, rfl⟩))
 all_goals go_wp2
 all_goals go_ret
 all_goals exact ⟨rfl, by (repeat (first | assumption | exact Below.refl _ _ | apply Below.drew | apply below_drewN | (refine Below.alloc ?_ (by first | exact Nat.le_refl _ | omega | (simp; done) | (simp; omega)) _))), by simp; try omega⟩
end Go.Proofs.YtpheiojmcafolaaGreatDoor
namespace Go.Proofs.YtpheiojmcafolaaGreatDoor
open Go.RowKit
set_option maxHeartbeats 800000 in
theorem CompareFuncD (A1 A2 : Option Addr) (c1 c2 : Nat) (xs ys : List Nd) (w : World) (h1 : NdSl w w.heap.size A1 xs) (h2 : NdSl w w.heap.size A2 ys) (l1 : xs.length ≤ 9223372036854775807) (l2 : ys.length ≤ 9223372036854775807) :
   Calls Tryz.prog 159 #[.slice A1 xs.length c1, .slice A2 ys.length c2, .func (.func 160) #[] #[]] w fun e w' => e = .returned (.int .i64 (ndsCmp xs ys)) ∧ Below w.heap.size w w' ∧ w.drawn ≤ w'.drawn := by
 have H1 := Lib.hid h1
 have H2 := Lib.hid h2
 clear h1 h2
 go_enter Tryz.func159, Tryz.ntmps159
 go_wp2_with fail
 go_loopw [13] (fun i wr => ∃ k : Nat, k ≤ xs.length ∧ k ≤ ys.length ∧ i = .int .i64 k ∧ Hid (ndsCmp xs ys = ndsCmp (xs.drop k) (ys.drop k)) ∧ Below w.heap.size w wr ∧ w.drawn ≤ wr.drawn) (fun i _ => xs.length - (intOf i).toNat)
 case atStart => exact ⟨0, by omega, by omega, rfl, rfl, Below.refl _ _, Nat.le_refl _⟩
 case round =>
   obtain ⟨k, hk, hk2, rfl, HK, hbel, hdr⟩ := hrel
   have hwr := hbel.size
   by_cases hlt : k < xs.length
   · obtain ⟨b, o, rfl, hbl, hc⟩ := (H1.out.below hbel).at_ hlt
     obtain ⟨x, hx⟩ : ∃ x, xs[k]? = some x := ⟨_, List.getElem?_eq_getElem hlt⟩
     obtain ⟨d0, d1, d2, d3⟩ := hc k x hx
     have HX : Hid (xs.drop k = x :: xs.drop (k + 1)) := by
       show _ = _
       rw [List.drop_eq_getElem_cons hlt]; rw [List.getElem?_eq_getElem hlt] at hx; injection hx with hx; rw [hx]
     clear hc hx
     by_cases hlt2 : k < ys.length
     · obtain ⟨b2, o2, rfl, hbl2, hc⟩ := (H2.out.below hbel).at_ hlt2
       obtain ⟨y, hy⟩ : ∃ y, ys[k]? = some y := ⟨_, List.getElem?_eq_getElem hlt2⟩
       obtain ⟨e0, e1, e2, e3⟩ := hc k y hy
       have HY : Hid (ys.drop k = y :: ys.drop (k + 1)) := by
         show _ = _
         rw [List.drop_eq_getElem_cons hlt2]; rw [List.getElem?_eq_getElem hlt2] at hy; injection hy with hy; rw [hy]
       clear hc hy
       have hwr := hbel.size
       have g1 : b < wr.heap.size := by omega
       have g2 : b2 < wr.heap.size := by omega
       go_wp2_with (go_at_call 160; refine (val_compareD x y _).mono ?_; rintro e w1 ⟨rfl, hb1, hd1⟩)
       · go_ret
         have hne : (ndCmp x y != 0) = true := by assumption
         have hne' : ¬ ndCmp x y = 0 := by simpa using hne
         exact ⟨ret_int (by rw [HK.out, HX.out, HY.out, ndsCmp, if_neg hne']), hbel.trans ((by (repeat (first | assumption | exact Below.refl _ _ | apply Below.drew | apply below_drewN | (refine Below.alloc ?_ (by first | exact Nat.le_refl _ | omega | (simp; done) | (simp; omega)) _))) : Below w.heap.size wr _).trans (hb1.mono (by simp; omega))), by simp at hd1; omega⟩
       · have hne : (ndCmp x y != 0) = false := by assumption
         have hne' : ndCmp x y = 0 := by simpa using hne
         go_roundw
         case rel => exact ⟨k + 1, by omega, by omega, by go_num, by rw [Hid, HK.out, HX.out, HY.out, ndsCmp, if_pos hne'], hbel.trans ((by (repeat (first | assumption | exact Below.refl _ _ | apply Below.drew | apply below_drewN | (refine Below.alloc ?_ (by first | exact Nat.le_refl _ | omega | (simp; done) | (simp; omega)) _))) : Below w.heap.size wr _).trans (hb1.mono (by simp; omega))), by simp at hd1; omega⟩
         case measure => simp [intOf]; omega
     · have HY : Hid (ys.drop k = []) := List.drop_eq_nil_of_le (by omega)
       go_wp2_with fail
       go_ret
       exact ⟨ret_int (by rw [HK.out, HX.out, HY.out]; rfl), hbel.trans (by (repeat (first | assumption | exact Below.refl _ _ | apply Below.drew | apply below_drewN | (refine Below.alloc ?_ (by first | exact Nat.le_refl _ | omega | (simp; done) | (simp; omega)) _)))), by simpa using hdr⟩
   · have HX : Hid (xs.drop k = []) := List.drop_eq_nil_of_le (by omega)
     by_cases hl : xs.length < ys.length
     · have HY : Hid (∃ y l, ys.drop k = y :: l) := ⟨_, _, List.drop_eq_getElem_cons (by omega)⟩
       go_wp2_with fail
       go_ret
       obtain ⟨y, l, hyl⟩ := HY.out
       exact ⟨ret_int (by rw [HK.out, HX.out, hyl]; rfl), hbel, hdr⟩
     · have HY : Hid (ys.drop k = []) := List.drop_eq_nil_of_le (by omega)
       go_wp2_with fail
       go_ret
       exact ⟨ret_int (by rw [HK.out, HX.out, HY.out]; rfl), hbel, hdr⟩
set_option maxHeartbeats 400000 in
theorem val_orderD (A1 A2 : Option Addr) (c1 c2 : Nat) (xs ys : List Nd) (w : World) (h1 : NdSl w w.heap.size A1 xs) (h2 : NdSl w w.heap.size A2 ys) (l1 : xs.length ≤ 9223372036854775807) (l2 : ys.length ≤ 9223372036854775807) :
   Calls Tryz.prog 130 #[.slice A1 xs.length c1, .slice A2 ys.length c2] w fun e w' => e = .returned (.int .i64 (ndsCmp xs ys)) ∧ Below w.heap.size w w' ∧ w.drawn ≤ w'.drawn := by
 have H1 := Lib.hid h1
 have H2 := Lib.hid h2
 clear h1 h2
 go_enter Tryz.func130, Tryz.ntmps130
 go_wp2_with (go_at_call 159; refine (CompareFuncD A1 A2 c1 c2 xs ys _ H1.out H2.out l1 l2).mono ?_; rintro e w1 ⟨rfl, hb1, hd1⟩)
 go_ret
 exact ⟨rfl, hb1, hd1⟩
end Go.Proofs.YtpheiojmcafolaaGreatDoor
namespace Go.Proofs.YtpheiojmcafolaaGreatDoor
open Go.RowKit
set_option maxHeartbeats 1600000 in
theorem tree_Skip (e : List Nd) (A : Option Addr) (c i r : Nat) (w : World) (hlen : e.length ≤ 200) (hsl : NdSl w w.heap.size A e) (hpar : ∀ x ∈ e, 0 ≤ ndParts x ∧ ndParts x ≤ 200) (hsk : skP (e.drop i) 1 i = some r) (hi : i ≤ e.length) :
   Calls Tryz.prog 131 #[.slice A e.length c, .int .i64 i] w fun q w' => q = .returned (.int .i64 r) ∧ Below w.heap.size w w' := by
 have HS := Lib.hid hsl
 have HP := Lib.hid hpar
 have HK := Lib.hid hsk
 clear hsl hpar hsk
 go_enter Tryz.func131, Tryz.ntmps131
 go_wp2_with fail
 go_loopw [1, 5] (fun at_ left wr => ∃ (a : Nat) (lf : Int), at_ = .int .i64 a ∧ left = .int .i64 lf ∧ i ≤ a ∧ a ≤ e.length ∧ 0 ≤ lf ∧ lf ≤ 1 + 200 * (a : Int) ∧ Hid (skP (e.drop a) lf a = some r) ∧ Below w.heap.size w wr)
   (fun at_ _ _ => e.length - (intOf at_).toNat)
 case atStart => exact ⟨i, 1, rfl, rfl, by omega, hi, by omega, by omega, HK, Below.refl _ _⟩
 case round =>
   obtain ⟨a, lf, rfl, rfl, hia, hal, hlf, hlb, HQ, hbr⟩ := hrel
   have hzr := hbr.size
   by_cases hpos : 0 < lf
   · have hal2 : a < e.length := by
       rcases Nat.lt_or_ge a e.length with h | h
       · exact h
       · have := HQ.out; rw [List.drop_eq_nil_of_le h] at this; simp [skP] at this; omega
     obtain ⟨b, o, rfl, hb, hcs⟩ := (HS.out.below hbr).at_ hal2
     obtain ⟨x, hx⟩ : ∃ x, e[a]? = some x := ⟨_, List.getElem?_eq_getElem hal2⟩
     obtain ⟨d0, d1, d2, d3⟩ := hcs a x hx
     obtain ⟨hp0, hp1⟩ := HP.out x (List.mem_of_getElem? hx)
     obtain ⟨p, hp⟩ : ∃ p, ndParts x = p := ⟨_, rfl⟩
     rw [hp] at hp0 hp1
     have HQ2 : Hid (skP (e.drop (a + 1)) (lf + p - 1) (a + 1) = some r) := by
       have := HQ.out; rw [skP_step hx hpos, hp] at this; exact this
     have htp : ∀ W, Calls Tryz.prog 106 #[.agg #[.int .i64 x.op, .int .i64 x.n, .string x.s, .string x.t]] W fun e w' => e = .returned (.int .i64 p) ∧ Below W.heap.size W w' := fun W => by
       rw [← hp]; exact tree_parts x.op x.n x.s x.t W
     have HTP := Lib.hid htp
     clear hcs hx htp hp
     go_wp2_with (go_at_call 106; refine (HTP.out _).mono ?_; rintro q w1 ⟨rfl, hb1⟩)
     go_roundw
     case rel => exact ⟨a + 1, lf + p - 1, by go_num, rfl, by omega, by omega, by omega, by omega, HQ2, hbr.trans (hb1.mono hbr.size)⟩
     case measure => simp [intOf]; omega
   · obtain rfl : lf = 0 := by omega
     have HE : Hid (a = r) := by have := HQ.out; rw [skP_done] at this; injection this
     go_wp2_with fail
     go_ret
     exact ⟨ret_int (by rw [HE.out]), hbr⟩
end Go.Proofs.YtpheiojmcafolaaGreatDoor
namespace Go.Proofs.YtpheiojmcafolaaGreatDoor
open Go.RowKit Go.Sort
def ddA : NsM → List NsM → List NsM
 | _, [] => []
 | a, b :: r => if ndsCmp b.e a.e = 0 then ddA b r else b :: ddA b r
def ddP : List NsM → List NsM
 | [] => []
 | a :: l => a :: ddA a l
theorem dedupA_e : ∀ (l : List NsM) (a : NsM), (ddA a l).map NsM.e = dedupA a.e (l.map NsM.e)
 | [], a => rfl
 | b :: r, a => by
   rw [ddA, List.map_cons, dedupA]
   by_cases h : ndsCmp b.e a.e = 0
   · have e := cm_nds.eq _ _ h
     have h' : ndsCmp a.e b.e = 0 := by rw [e, cm_nds.self]
     rw [if_pos h, if_pos h', dedupA_e r b, e]
   · have h' : ¬ ndsCmp a.e b.e = 0 := fun hh => h (by rw [cm_nds.eq _ _ hh, cm_nds.self])
     rw [if_neg h, if_neg h', List.map_cons, dedupA_e r b]
theorem ddP_e (l : List NsM) : (ddP l).map NsM.e = dedupP (l.map NsM.e) := by
 cases l with
 | nil => rfl
 | cons a l => rw [ddP, List.map_cons, dedupA_e, List.map_cons, dedupP]
theorem ddA_sub : ∀ (l : List NsM) (a : NsM), (ddA a l).Sublist l
 | [], a => by simp [ddA]
 | b :: r, a => by
   rw [ddA]
   split
   · exact (ddA_sub r b).cons _
   · exact (ddA_sub r b).cons_cons _
theorem ddP_sub : ∀ (l : List NsM), (ddP l).Sublist l
 | [] => .slnil
 | a :: l => (ddA_sub l a).cons_cons _
theorem ddA_snoc : ∀ (l : List NsM) (a x b : NsM), (a :: l).getLast? = some x → ddA a (l ++ [b]) = ddA a l ++ (if ndsCmp b.e x.e = 0 then [] else [b])
 | [], a, x, b, h => by
   simp at h
   subst h
   simp only [List.nil_append, ddA]
 | c :: r, a, x, b, h => by
   have h' : (c :: r).getLast? = some x := by rw [← h]; rfl
   have ih := ddA_snoc r c x b h'
   rw [List.cons_append, ddA, ddA]
   split
   · exact ih
   · rw [ih]; rfl
theorem ddP_step {ms : List NsM} {j : Nat} {a b : NsM} (ha : ms[j]? = some a) (hb : ms[j + 1]? = some b) : ddP (ms.take (j + 1 + 1)) = ddP (ms.take (j + 1)) ++ (if ndsCmp b.e a.e = 0 then [] else [b]) := by
 have e1 : ms.take (j + 1 + 1) = ms.take (j + 1) ++ [b] := by rw [List.take_add_one, hb]; rfl
 have e2 : ms.take (j + 1) = ms.take j ++ [a] := by rw [List.take_add_one, ha]; rfl
 have hl : (ms.take (j + 1)).getLast? = some a := by rw [e2]; simp
 rw [e1]
 cases h : ms.take (j + 1) with
 | nil => rw [h] at hl; simp at hl
 | cons c r =>
   rw [h] at hl
   rw [List.cons_append, ddP, ddP, ddA_snoc r c a b hl]; rfl
theorem gb_below {w w' : World} {q : Option Nat} (h : RowKit.Below w.heap.size w w') : w.grownBy w' q := ⟨h.os, h.tape, h.output, h.size, fun k hk _ => h.block k hk⟩
theorem own_setCells {base g n cap : Nat} {e : TypeId} : ∀ (vs : List Value) (o : Nat) (w : World) (xs : List Value) (kk : Nat), w.ownsRow base e 1 (.slice (some ⟨g, 0, none⟩) n cap) n xs → kk ≤ o →
   ∃ xs', (w.setCells g o vs).ownsRow base e 1 (.slice (some ⟨g, 0, none⟩) n cap) n xs' ∧ xs'.take kk = xs.take kk ∧ w.grownBy (w.setCells g o vs) (some g)
 | [], o, w, xs, kk, h, _ => ⟨xs, h, rfl, ⟨rfl, rfl, rfl, Nat.le_refl _, fun _ _ _ => rfl⟩⟩
 | v :: vs, o, w, xs, kk, h, hk => by
   obtain ⟨h1, h2⟩ := h.stored o v
   obtain ⟨xs', a, b, c⟩ := own_setCells vs (o + 1) _ _ kk h1 (by omega)
   refine ⟨xs', a, ?_, h2.trans c⟩
   rw [b, List.take_set_of_le hk]
theorem own_shrink {w : World} {base g n cap kk : Nat} {e : TypeId} {xs : List Value} (h : w.ownsRow base e 1 (.slice (some ⟨g, 0, none⟩) n cap) n xs) (hk : kk ≤ n) : w.ownsRow base e 1 (.slice (some ⟨g, 0, none⟩) kk cap) kk (xs.take kk) := by
 have hl := h.1
 rcases h.2 with ⟨h', _⟩ | ⟨g', cap', cur, h', hb, hg, hnc, hcm, hcs, htake⟩
 · simp at h'
 · simp only [Value.slice.injEq, Option.some.injEq, Addr.mk.injEq, and_true, true_and] at h'
   obtain ⟨rfl, rfl⟩ := h'
   refine ⟨by rw [List.length_take]; omega, .inr ⟨g, cap, cur, rfl, hb, hg, by omega, hcm, hcs, ?_⟩⟩
   rw [← htake, List.take_take]
   congr 1
   omega
theorem own_enc {w : World} {base g n cap : Nat} {ms : List NsM} (h : w.ownsRow base 22 1 (.slice (some ⟨g, 0, none⟩) n cap) n (flatG NsM.cells ms)) {i : Nat} {x : NsM} (hx : ms[i]? = some x) : w.cell? ⟨g, i, none⟩ = some (.slice x.A x.e.length x.c) ∧ w.frozen? ⟨g, i, none⟩ = false ∧ i < n := by
 have hi := (List.getElem?_eq_some_iff.1 hx).1
 have hl := h.1
 rw [flat_encN, List.length_map] at hl
 refine ⟨?_, ?_, by omega⟩
 · rw [h.cellAt i (by omega), flat_encN, List.getElem?_map, hx]; rfl
 · rcases h.2 with ⟨h', _⟩ | ⟨g', cap', cur, h', hb, hg, _⟩
   · simp at h'
   · simp only [Value.slice.injEq, Option.some.injEq, Addr.mk.injEq, and_true, true_and] at h'
     obtain ⟨rfl, rfl⟩ := h'
     simp [World.frozen?, hg]
theorem run_at_ns (b o n c k : Nat) (hk : k < n) (W : World) : (Instr.indexAt 152 (.slice (some ⟨b, o, none⟩) n c) (.int .i64 (k : Int))).run Tryz.prog W = .ok (.pointer (some ⟨b, o + k, none⟩)) W := by
 go_simp
theorem run_at_ns1 (b o n c k : Nat) (hk : k + 1 < n) (W : World) : (Instr.indexAt 152 (.slice (some ⟨b, o, none⟩) n c) (.int .i64 ((k : Int) + 1))).run Tryz.prog W = .ok (.pointer (some ⟨b, o + (k + 1), none⟩)) W := by
 have := run_at_ns b o n c (k + 1) hk W
 rwa [Int.natCast_add, Int.natCast_one] at this
set_option maxHeartbeats 400000 in
theorem set_eq (x y : NsM) (W : World) (gx : NsGood W W.heap.size x) (gy : NsGood W W.heap.size y) :
   Calls Tryz.prog 166 #[.slice x.A x.e.length x.c, .slice y.A y.e.length y.c] W fun r w' => r = .returned (.bool (ndsCmp x.e y.e == 0)) ∧ RowKit.Below W.heap.size W w' := by
 have HO := Lib.hid (val_order x.A y.A x.c y.c x.e y.e W gx.sl gy.sl (Nat.le_trans gx.le gx.max) (Nat.le_trans gy.le gy.max))
 clear gx gy
 generalize ndsCmp x.e y.e = k at HO ⊢
 go_enter Tryz.func166, Tryz.ntmps166
 go_wp2_with fail
 refine HO.out.mono ?_
 rintro r w1 ⟨rfl, hb1⟩
 go_wp2_with fail
 go_ret
 exact ⟨rfl, hb1⟩
theorem set_cur {cur : List NsM} {kk : Nat} {b : NsM} (h : kk < cur.length) : (cur.set kk b).take (kk + 1) = cur.take kk ++ [b] := by
 rw [List.take_add_one, List.take_set_of_le (Nat.le_refl _), List.getElem?_set_self h]; rfl
theorem flatG_set (cur : List NsM) (kk : Nat) (b : NsM) : (flatG NsM.cells cur).set kk (.slice b.A b.e.length b.c) = flatG NsM.cells (cur.set kk b) := by
 rw [flat_encN, flat_encN, List.map_set]; rfl
end Go.Proofs.YtpheiojmcafolaaGreatDoor
namespace Go.Proofs.YtpheiojmcafolaaGreatDoor
open Go.RowKit Go.Sort
set_option maxRecDepth 100000 in
set_option maxHeartbeats 4000000 in
theorem compact_lists (base g cap : Nat) (ms : List NsM) (w : World) (hown : w.ownsRow base 22 1 (.slice (some ⟨g, 0, none⟩) ms.length cap) ms.length (flatG NsM.cells ms)) (hof : ∀ y ∈ ms, NsOff w (some g) y) (hl : ms.length ≤ 1000) (hcap : ms.length ≤ cap) (hcm : cap ≤ 9223372036854775807) :
   Calls Tryz.prog 165 #[.slice (some ⟨g, 0, none⟩) ms.length cap, .func (.func 166) #[] #[]] w fun r w' => r = .returned (.slice (some ⟨g, 0, none⟩) (ddP ms).length cap) ∧
     w'.ownsRow base 22 1 (.slice (some ⟨g, 0, none⟩) (ddP ms).length cap) (ddP ms).length (flatG NsM.cells (ddP ms)) ∧ w.grownBy w' (some g) := by
 have HO := Lib.hid hown
 have HN := Lib.hid hof
 have hgl : base ≤ g ∧ g < w.heap.size := own_lt hown rfl
 have HD : Hid (ms.length < 2 → ddP ms = ms) := by
   intro h
   match ms, h with
   | [], _ => rfl
   | [a], _ => rfl
   | a :: b :: r, h => simp at h; omega
 clear hown hof
 by_cases h2 : ms.length < 2
 · have HE : Hid (ddP ms = ms) := HD.out h2
   clear HD
   go_enter Tryz.func165, Tryz.ntmps165
   go_wp2_with fail
   go_ret
   rw [HE.out]
   exact ⟨rfl, HO.out, ⟨rfl, rfl, rfl, Nat.le_refl _, fun _ _ _ => rfl⟩⟩
 · clear HD
   have hd2 : decide ((ms.length : Int) < 2) = false := by simp; omega
   go_enter Tryz.func165, Tryz.ntmps165
   go_wp2_with fail
   go_loopw [5] (fun iv wr => ∃ i : Nat, iv = .int .i64 i ∧ 1 ≤ i ∧ i ≤ ms.length ∧ Hid (ddP (ms.take i) = ms.take i) ∧ Hid (wr.ownsRow base 22 1 (.slice (some ⟨g, 0, none⟩) ms.length cap) ms.length (flatG NsM.cells ms)) ∧ Hid (w.grownBy wr (some g))) (fun iv _ => ms.length - (intOf iv).toNat)
   case atStart =>
     refine ⟨1, rfl, Nat.le_refl _, by omega, ?_, HO.out, ⟨rfl, rfl, rfl, Nat.le_refl _, fun _ _ _ => rfl⟩⟩
     show _ = _
     match ms, h2 with
     | [], h => simp at h
     | a :: r, _ => rfl
   case round =>
     obtain ⟨i, rfl, hi1, hin, HDD, HOr, HGr⟩ := hrel
     have hgr : g < wr.heap.size := (own_lt HOr.out rfl).2
     by_cases hlt : i < ms.length
     · obtain ⟨t, rfl⟩ : ∃ t, i = t + 1 := ⟨i - 1, by omega⟩
       obtain ⟨a, ha⟩ : ∃ a, ms[t]? = some a := ⟨_, List.getElem?_eq_getElem (by omega)⟩
       obtain ⟨b, hb⟩ : ∃ b, ms[t + 1]? = some b := ⟨_, List.getElem?_eq_getElem hlt⟩
       have c0 := (own_enc HOr.out ha).1
       have c1 := (own_enc HOr.out hb).1
       have HST := Lib.hid (ddP_step ha hb)
       have HEQ := Lib.hid (fun W (hW : RowKit.Below wr.heap.size wr W) => set_eq b a W ((((HN.out b (List.mem_of_getElem? hb)).grown HGr.out (.inl rfl)).later hW).good) ((((HN.out a (List.mem_of_getElem? ha)).grown HGr.out (.inl rfl)).later hW).good))
       have HA := Lib.hid ha
       have HB := Lib.hid hb
       clear ha hb
       have q1 := run_at_ns1 g 0 ms.length cap t hlt
       have q0 := run_at_ns g 0 ms.length cap t (by omega)
       rw [Nat.zero_add] at q0 q1
       have j0 : IntKind.i64.wrap (t : Int) = (t : Int) := by rw [IntKind.wrap_i64]; omega
       by_cases hq : ndsCmp b.e a.e = 0
       · have tq : (ndsCmp b.e a.e == 0) = true := by simp [hq]
         have HDD2 : Hid (ddP (ms.take (t + 1 + 1)) = ms.take (t + 1)) := by
           show _ = _
           rw [HST.out, HDD.out, if_pos hq, List.append_nil]
         clear hq HST HDD
         go_wp2_with fail
         refine wp_region_hd (S := fun W' => W'.cell? ⟨g, t + 1, none⟩ = some (.slice b.A b.e.length b.c) ∧ W'.cell? ⟨g, t, none⟩ = some (.slice a.A a.e.length a.c)) [false, false, false, false, false, false, false, false, false, false, true] (by kernel_rfl) (by kernel_rfl) (fun _ _ _ _ _ h => h) ⟨c1, c0⟩ (fun hW' => ?_)
         simp only [List.zip_cons_cons, List.zip_nil_left]
         (repeat (first | (refine hd_take (v := ?_) (by rfl) ?_ ?_; rotate_left; (focus (intro W hW; obtain ⟨s0', s1'⟩ := hW; go_simp; try with_reducible rfl)); simp only [Act.put, List.setIfInBounds_toArray, List.set_cons_zero, List.set_cons_succ]) | (refine hd_skip (by rfl) ?_; simp only [Act.put, List.setIfInBounds_toArray, List.set_cons_zero, List.set_cons_succ])))
         refine hd_call (fun K hK => ?_)
         go_simp
         refine (HEQ.out _ (by (repeat (first | assumption | exact Below.refl _ _ | apply Below.drew | apply below_drewN | (refine Below.alloc ?_ (by first | exact Nat.le_refl _ | omega | (simp; done) | (simp; omega)) _))))).mono ?_
         rintro r w1 ⟨rfl, hb1'⟩
         have hb1 := below_of_drew hb1'
         refine hK _ _ ⟨(hb1.cell (p := ⟨g, t + 1, none⟩) hgr).trans c1, (hb1.cell (p := ⟨g, t, none⟩) hgr).trans c0⟩ ?_
         clear hK K
         refine hd_nil ?_
         have HO1 := Lib.hid (own_keep HOr.out hb1)
         have HG1 : Hid (w.grownBy w1 (some g)) := HGr.out.trans (gb_below hb1)
         have qs : ∀ W : World, (Instr.slice 152 (.slice (some ⟨g, 0, none⟩) ms.length cap) (some (.int .i64 ((t : Int) + 1))) none none).run Tryz.prog W = .ok (.slice (some ⟨g, t + 1, none⟩) (ms.length - (t + 1)) (cap - (t + 1))) W := by
           intro W
           go_simp
           rw [if_neg (show ¬ cap = t + 1 by omega), if_pos (by omega)]
         clear hb1 hb1' q0 q1 c0 c1 HOr HGr HEQ hgr
         go_wp2_with fail
         obtain ⟨wo, hwo⟩ : ∃ wo : World, wo = wr := ⟨_, rfl⟩
         clear hwo
         try simp only [tq]
         go_loopw [5, 7] (fun iv kv wr => ∃ (kk k : Nat) (cur : List NsM), iv = .int .i64 kk ∧ kv = .int .i64 k ∧ 1 ≤ k ∧ t + 1 + k ≤ ms.length ∧ kk < t + 1 + k ∧ Hid (cur.length = ms.length) ∧ Hid (cur.take kk = ddP (ms.take (t + 1 + k))) ∧ Hid (∀ j, t + k ≤ j → cur[j]? = ms[j]?) ∧
           Hid (wr.ownsRow base 22 1 (.slice (some ⟨g, 0, none⟩) ms.length cap) ms.length (flatG NsM.cells cur)) ∧ Hid (w.grownBy wr (some g))) (fun _ kv _ => ms.length - (intOf kv).toNat)
         case atStart => exact ⟨t + 1, 1, ms, by go_num, rfl, Nat.le_refl _, by omega, by omega, rfl, HDD2.out.symm, fun _ _ => rfl, HO1.out, HG1.out⟩
         case round =>
           obtain ⟨kk, k, cur, rfl, rfl, hk1, hkn, hkk, HCL, HCT, HCD, HOr, HGr⟩ := hrel
           have hgr : g < wr.heap.size := (own_lt HOr.out rfl).2
           by_cases hlt2 : t + 1 + k < ms.length
           · obtain ⟨k', rfl⟩ : ∃ k', k = k' + 1 := ⟨k - 1, by omega⟩
             obtain ⟨y, hy⟩ : ∃ y, ms[t + 1 + k']? = some y := ⟨_, List.getElem?_eq_getElem (by omega)⟩
             obtain ⟨x, hx⟩ : ∃ x, ms[t + 1 + k' + 1]? = some x := ⟨_, List.getElem?_eq_getElem (by omega)⟩
             have hcy : cur[t + 1 + k']? = some y := by rw [HCD.out _ (by omega)]; exact hy
             have hcx : cur[t + 1 + k' + 1]? = some x := by rw [HCD.out _ (by omega)]; exact hx
             have d0 := (own_enc HOr.out hcy).1
             have d1 := (own_enc HOr.out hcx).1
             have HST2 := Lib.hid (ddP_step hy hx)
             have HEQ2 := Lib.hid (fun W (hW : RowKit.Below wr.heap.size wr W) => set_eq x y W ((((HN.out x (List.mem_of_getElem? hx)).grown HGr.out (.inl rfl)).later hW).good) ((((HN.out y (List.mem_of_getElem? hy)).grown HGr.out (.inl rfl)).later hW).good))
             have HX := Lib.hid hx
             clear hx hy hcx hcy
             have q1 := run_at_ns1 g (t + 1) (ms.length - (t + 1)) (cap - (t + 1)) k' (by omega)
             have q0 := run_at_ns g (t + 1) (ms.length - (t + 1)) (cap - (t + 1)) k' (by omega)
             rw [show t + 1 + (k' + 1) = t + 1 + k' + 1 from by omega] at q1
             have j2 : IntKind.i64.wrap (k' : Int) = (k' : Int) := by rw [IntKind.wrap_i64]; omega
             have hlt3 : k' + 1 < ms.length - (t + 1) := by omega
             have hcc : kk < cur.length := by rw [HCL.out]; omega
             by_cases hq2 : ndsCmp x.e y.e = 0
             · have tq2 : (ndsCmp x.e y.e == 0) = true := by simp [hq2]
               have HCT2 : Hid (cur.take kk = ddP (ms.take (t + 1 + (k' + 1 + 1)))) := by
                 show _ = _
                 rw [HCT.out, show t + 1 + (k' + 1 + 1) = t + 1 + k' + 1 + 1 from by omega, HST2.out, if_pos hq2, List.append_nil, show t + 1 + (k' + 1) = t + 1 + k' + 1 from by omega]
               clear hq2 HST2 HCT
               go_wp2_with fail
               refine wp_region_hd (S := fun W' => W'.cell? ⟨g, t + 1 + k' + 1, none⟩ = some (.slice x.A x.e.length x.c) ∧ W'.cell? ⟨g, t + 1 + k', none⟩ = some (.slice y.A y.e.length y.c)) [false, false, false, false, false, false, false, false, false, false, true, false] (by kernel_rfl) (by kernel_rfl) (fun _ _ _ _ _ h => h) ⟨d1, d0⟩ (fun hW' => ?_)
               simp only [List.zip_cons_cons, List.zip_nil_left]
               (repeat (first | (refine hd_take (v := ?_) (by rfl) ?_ ?_; rotate_left; (focus (intro W hW; obtain ⟨s0', s1'⟩ := hW; go_simp; try with_reducible rfl)); simp only [Act.put, List.setIfInBounds_toArray, List.set_cons_zero, List.set_cons_succ]) | (refine hd_skip (by rfl) ?_; simp only [Act.put, List.setIfInBounds_toArray, List.set_cons_zero, List.set_cons_succ])))
               refine hd_call (fun K hK => ?_)
               go_simp
               refine (HEQ2.out _ (by (repeat (first | assumption | exact Below.refl _ _ | apply Below.drew | apply below_drewN | (refine Below.alloc ?_ (by first | exact Nat.le_refl _ | omega | (simp; done) | (simp; omega)) _))))).mono ?_
               rintro r w2 ⟨rfl, hb2'⟩
               have hb2 := below_of_drew hb2'
               refine hK _ _ ⟨(hb2.cell (p := ⟨g, t + 1 + k' + 1, none⟩) hgr).trans d1, (hb2.cell (p := ⟨g, t + 1 + k', none⟩) hgr).trans d0⟩ ?_
               clear hK K
               (repeat (first | (refine hd_take (v := ?_) (by rfl) ?_ ?_; rotate_left; (focus (intro W hW; obtain ⟨s0', s1'⟩ := hW; go_simp; try with_reducible rfl)); simp only [Act.put, List.setIfInBounds_toArray, List.set_cons_zero, List.set_cons_succ]) | (refine hd_skip (by rfl) ?_; simp only [Act.put, List.setIfInBounds_toArray, List.set_cons_zero, List.set_cons_succ])))
               refine hd_nil ?_
               have HO2 := Lib.hid (own_keep HOr.out hb2)
               have HG2 : Hid (w.grownBy w2 (some g)) := HGr.out.trans (gb_below hb2)
               clear hb2 hb2' q0 q1 d0 d1 HOr HGr HEQ2 hgr
               go_wp2_with fail
               exact ⟨⟨kk, k' + 1 + 1, cur, rfl, by go_num, by omega, by omega, by omega, HCL, HCT2, fun j hj => HCD.out j (by omega), HO2, HG2⟩, by simp [intOf]; omega⟩
             · have tq2 : (ndsCmp x.e y.e == 0) = false := by simp [hq2]
               have HCT2 : Hid ((cur.set kk x).take (kk + 1) = ddP (ms.take (t + 1 + (k' + 1 + 1)))) := by
                 show _ = _
                 rw [set_cur hcc, HCT.out, show t + 1 + (k' + 1 + 1) = t + 1 + k' + 1 + 1 from by omega, HST2.out, if_neg hq2, show t + 1 + (k' + 1) = t + 1 + k' + 1 from by omega]
               clear hq2 HST2 HCT
               go_wp2_with fail
               refine wp_region_hd (S := fun W' => W'.cell? ⟨g, t + 1 + k' + 1, none⟩ = some (.slice x.A x.e.length x.c) ∧ W'.cell? ⟨g, t + 1 + k', none⟩ = some (.slice y.A y.e.length y.c)) [false, false, false, false, false, false, false, false, false, false, true, false] (by kernel_rfl) (by kernel_rfl) (fun _ _ _ _ _ h => h) ⟨d1, d0⟩ (fun hW' => ?_)
               simp only [List.zip_cons_cons, List.zip_nil_left]
               (repeat (first | (refine hd_take (v := ?_) (by rfl) ?_ ?_; rotate_left; (focus (intro W hW; obtain ⟨s0', s1'⟩ := hW; go_simp; try with_reducible rfl)); simp only [Act.put, List.setIfInBounds_toArray, List.set_cons_zero, List.set_cons_succ]) | (refine hd_skip (by rfl) ?_; simp only [Act.put, List.setIfInBounds_toArray, List.set_cons_zero, List.set_cons_succ])))
               refine hd_call (fun K hK => ?_)
               go_simp
               refine (HEQ2.out _ (by (repeat (first | assumption | exact Below.refl _ _ | apply Below.drew | apply below_drewN | (refine Below.alloc ?_ (by first | exact Nat.le_refl _ | omega | (simp; done) | (simp; omega)) _))))).mono ?_
               rintro r w2 ⟨rfl, hb2'⟩
               have hb2 := below_of_drew hb2'
               refine hK _ _ ⟨(hb2.cell (p := ⟨g, t + 1 + k' + 1, none⟩) hgr).trans d1, (hb2.cell (p := ⟨g, t + 1 + k', none⟩) hgr).trans d0⟩ ?_
               clear hK K
               (repeat (first | (refine hd_take (v := ?_) (by rfl) ?_ ?_; rotate_left; (focus (intro W hW; obtain ⟨s0', s1'⟩ := hW; go_simp; try with_reducible rfl)); simp only [Act.put, List.setIfInBounds_toArray, List.set_cons_zero, List.set_cons_succ]) | (refine hd_skip (by rfl) ?_; simp only [Act.put, List.setIfInBounds_toArray, List.set_cons_zero, List.set_cons_succ])))
               refine hd_nil ?_
               have HO2 := Lib.hid (own_keep HOr.out hb2)
               have HG2 : Hid (w.grownBy w2 (some g)) := HGr.out.trans (gb_below hb2)
               have e1 : w2.cell? ⟨g, t + 1 + k' + 1, none⟩ = some (.slice x.A x.e.length x.c) := (hb2.cell (p := ⟨g, t + 1 + k' + 1, none⟩) hgr).trans d1
               obtain ⟨old, hold⟩ : ∃ old, cur[kk]? = some old := ⟨_, List.getElem?_eq_getElem hcc⟩
               obtain ⟨e2, e3, -⟩ := own_enc HO2.out hold
               have HS2 : Hid ((w2.setCell ⟨g, kk, none⟩ (.slice x.A x.e.length x.c)).ownsRow base 22 1 (.slice (some ⟨g, 0, none⟩) ms.length cap) ms.length (flatG NsM.cells (cur.set kk x)) ∧ w2.grownBy (w2.setCell ⟨g, kk, none⟩ (.slice x.A x.e.length x.c)) (some g)) := by
                 have := HO2.out.stored kk (.slice x.A x.e.length x.c)
                 rw [flatG_set] at this
                 exact this
               have HCL2 : Hid ((cur.set kk x).length = ms.length) := by show _ = _; rw [List.length_set, HCL.out]
               have HCD2 : Hid (∀ j, t + (k' + 1 + 1) ≤ j → (cur.set kk x)[j]? = ms[j]?) := fun j hj => by
                 rw [List.getElem?_set_ne (by omega)]
                 exact HCD.out j (by omega)
               have hkn2 : kk < ms.length := by omega
               clear hb2 hb2' d0 d1 HOr HGr HEQ2 hgr hold
               go_wp2_with fail
               exact ⟨⟨kk + 1, k' + 1 + 1, cur.set kk x, by go_num, by go_num, by omega, by omega, by omega, HCL2, HCT2, HCD2, HS2.out.1, HG2.out.trans HS2.out.2⟩, by simp [intOf]; omega⟩
           · have hend : t + 1 + k = ms.length := by omega
             have HCT2 : Hid (cur.take kk = ddP ms) := by
               show _ = _
               rw [HCT.out, hend, List.take_of_length_le (Nat.le_refl _)]
             have hkk2 : kk < ms.length := by omega
             have HKL : Hid ((ddP ms).length = kk) := by
               show _ = _
               rw [← HCT2.out, List.length_take, HCL.out]; omega
             have hnl : ¬ k < ms.length - (t + 1) := by omega
             have hcl : ∀ ty, (Builtin.clear_ #[152] ty #[.slice (some ⟨g, kk, none⟩) (ms.length - kk) (cap - kk)]).run Tryz.prog wr = .ok (.tuple #[]) (wr.setCells g kk (List.replicate (ms.length - kk) (.slice none 0 0))) :=
               fun ty => Lib.run_clear_slice wr _ _ ty _ Tryz.underlying152 Tryz.zeroValue22 rfl rfl g kk _ _ (by omega)
                 (fun j hj => by
                   obtain ⟨z, hz⟩ : ∃ z, cur[kk + j]? = some z := ⟨_, List.getElem?_eq_getElem (by rw [HCL.out]; omega)⟩
                   rw [(own_enc HOr.out hz).1]; rfl)
                 (fun j hj => by
                   obtain ⟨z, hz⟩ : ∃ z, cur[kk + j]? = some z := ⟨_, List.getElem?_eq_getElem (by rw [HCL.out]; omega)⟩
                   exact (own_enc HOr.out hz).2.1)
             have q2 : ∀ W : World, (Instr.slice 152 (.slice (some ⟨g, 0, none⟩) ms.length cap) (some (.int .i64 (kk : Int))) none none).run Tryz.prog W = .ok (.slice (some ⟨g, kk, none⟩) (ms.length - kk) (cap - kk)) W := by
               intro W
               go_simp
               rw [if_neg (show ¬ cap = kk by omega), if_pos (by omega)]
             have HFIN : Hid (∃ xs', (wr.setCells g kk (List.replicate (ms.length - kk) (.slice none 0 0))).ownsRow base 22 1 (.slice (some ⟨g, 0, none⟩) ms.length cap) ms.length xs' ∧ xs'.take kk = (flatG NsM.cells cur).take kk ∧ wr.grownBy (wr.setCells g kk (List.replicate (ms.length - kk) (.slice none 0 0))) (some g)) := own_setCells _ kk wr _ kk HOr.out (Nat.le_refl _)
             have hkc : kk ≤ cap := by omega
             clear HOr hgr HCT
             go_wp2_with fail
             go_ret
             obtain ⟨xs', f1, f2, f3⟩ := HFIN.out
             refine ⟨by rw [HKL.out]; rfl, ?_, HGr.out.trans f3⟩
             have f4 := own_shrink f1 (show kk ≤ ms.length by omega)
             rw [f2, flat_encN, ← List.map_take, HCT2.out, ← flat_encN] at f4
             rw [HKL.out]
             exact f4
       · have tq : (ndsCmp b.e a.e == 0) = false := by simp [hq]
         have HDD2 : Hid (ddP (ms.take (t + 1 + 1)) = ms.take (t + 1 + 1)) := by
           show _ = _
           rw [HST.out, HDD.out, if_neg hq, show ms.take (t + 1 + 1) = ms.take (t + 1) ++ [b] from by rw [List.take_add_one, HB.out]; rfl]
         clear hq HST HDD
         go_wp2_with fail
         refine wp_region_hd (S := fun W' => W'.cell? ⟨g, t + 1, none⟩ = some (.slice b.A b.e.length b.c) ∧ W'.cell? ⟨g, t, none⟩ = some (.slice a.A a.e.length a.c)) [false, false, false, false, false, false, false, false, false, false, true] (by kernel_rfl) (by kernel_rfl) (fun _ _ _ _ _ h => h) ⟨c1, c0⟩ (fun hW' => ?_)
         simp only [List.zip_cons_cons, List.zip_nil_left]
         (repeat (first | (refine hd_take (v := ?_) (by rfl) ?_ ?_; rotate_left; (focus (intro W hW; obtain ⟨s0', s1'⟩ := hW; go_simp; try with_reducible rfl)); simp only [Act.put, List.setIfInBounds_toArray, List.set_cons_zero, List.set_cons_succ]) | (refine hd_skip (by rfl) ?_; simp only [Act.put, List.setIfInBounds_toArray, List.set_cons_zero, List.set_cons_succ])))
         refine hd_call (fun K hK => ?_)
         go_simp
         refine (HEQ.out _ (by (repeat (first | assumption | exact Below.refl _ _ | apply Below.drew | apply below_drewN | (refine Below.alloc ?_ (by first | exact Nat.le_refl _ | omega | (simp; done) | (simp; omega)) _))))).mono ?_
         rintro r w1 ⟨rfl, hb1'⟩
         have hb1 := below_of_drew hb1'
         refine hK _ _ ⟨(hb1.cell (p := ⟨g, t + 1, none⟩) hgr).trans c1, (hb1.cell (p := ⟨g, t, none⟩) hgr).trans c0⟩ ?_
         clear hK K
         refine hd_nil ?_
         have HO1 := Lib.hid (own_keep HOr.out hb1)
         have HG1 : Hid (w.grownBy w1 (some g)) := HGr.out.trans (gb_below hb1)
         clear hb1 hb1' q0 q1 c0 c1 HOr HGr HEQ hgr
         go_wp2_with fail
         exact ⟨⟨t + 1 + 1, by go_num, by omega, by omega, HDD2, HO1, HG1⟩, by simp [intOf]; omega⟩
     · have hin2 : i = ms.length := by omega
       have HE : Hid (ddP ms = ms) := by
         have := HDD.out
         rw [hin2, List.take_of_length_le (Nat.le_refl _)] at this
         exact this
       clear hin2 HDD
       go_wp2_with fail
       go_ret
       rw [HE.out]
       exact ⟨rfl, HOr.out, HGr.out⟩
end Go.Proofs.YtpheiojmcafolaaGreatDoor
namespace Go.Proofs.YtpheiojmcafolaaGreatDoor
open Go.RowKit Go.Sort
theorem swo_inj {α β : Type} {c : β → β → Int} (h : SWO (ltOf c)) (f : α → β) : SWO (ltOf fun x y : α => c (f x) (f y)) :=
 ⟨fun x => h.irrefl (f x), fun x y z => h.trans (f x) (f y) (f z), fun x y z => h.ntrans (f x) (f y) (f z)⟩
set_option maxRecDepth 100000 in
set_option maxHeartbeats 3200000 in
theorem clone_ns (ms : List NsM) (A : Option Addr) (c : Nat) (w : World) (hs : NsSl w w.heap.size A ms) (hl : ms.length ≤ 1000) :
   Calls Tryz.prog 164 #[.slice A ms.length c] w fun r w' => ∃ v, r = .returned v ∧ w'.ownsRow w.heap.size 22 1 v ms.length (flatG NsM.cells ms) ∧ RowKit.Below w.heap.size w w' := by
 have q : ∀ (w : World) (a : Option Addr) (n c n' c' : Nat), (binOp .eql 152 (.slice a n c) (.slice none n' c')).run Tryz.prog w = .ok (.bool a.isNone) w := fun w a n c n' c' => Lib.run_eql_slice_nil w _ _ a n c n' c' Tryz.underlying152
 obtain ⟨i0, hi, hz0, hz1, hz2⟩ := info_parts ns_info
 cases A with
 | none =>
   have he : ms = [] := by
     cases ms with
     | nil => rfl
     | cons x r => obtain ⟨b, o, h, _⟩ := hs (List.cons_ne_nil _ _); cases h
   subst he
   go_enter Tryz.func164, Tryz.ntmps164
   go_wp2_with fail
   go_ret
   exact ⟨_, rfl, World.ownsRow_nil _ _ _ _, RowKit.Below.refl _ _⟩
 | some a =>
   have hcells : ∀ j u, (flatG NsM.cells ms)[j]? = some u → (w.alloc (.cells #[] 22)).cell? (a.add j) = some u := by
     intro j u hu
     have hne : ms ≠ [] := by rintro rfl; simp [flatG] at hu
     obtain ⟨b, o, h1, h2, _⟩ := hs hne
     injection h1 with h1
     subst h1
     exact SlG.flat_alloc ns_ok hs h2 _ j u hu
   have HC := Lib.hid hcells
   clear hcells hs
   go_enter Tryz.func164, Tryz.ntmps164
   go_wp2_with (at_builtin; refine wpList_append_own _ rfl (.tmp 5) (.tmp 6) 152 rfl w.heap.size 22 i0 _ 1 24 Tryz.underlying152 hi hz0 hz1 hz2 rfl (by omega) _ _ _ rfl (World.ownsRow_made w #[] 0 (Nat.le_refl _) (Nat.zero_le _) (by simp)) a ms.length c (flatG NsM.cells ms) rfl (flatG_len ns_ok ms) HC.out (flatG_cell ns_ok ms) (by unfold maxLen; omega) (by omega) (by simp) ?_)
   intro v' w1 hown hgrow hnil
   go_wp2_with fail
   go_ret
   refine ⟨v', rfl, by simpa using hown, ((RowKit.Below.refl _ w).alloc (Nat.le_refl _) _).grown hgrow (by simp) (by intro k hk; simp [Value.ownBlock] at hk; omega)⟩
theorem le_eq : ∀ {ps qs : List (List Nd)}, ps.Pairwise (fun a b => ndsCmp a b ≤ 0) → qs.Pairwise (fun a b => ndsCmp a b ≤ 0) → ps.Perm qs → ps = qs
 | [], qs, _, _, h => (List.Perm.nil_eq h)
 | p :: ps, [], _, _, h => absurd h.symm (fun h => by have := List.Perm.nil_eq h; cases this)
 | p :: ps, q :: qs, hp, hq, h => by
   have hp' := List.pairwise_cons.1 hp
   have hq' := List.pairwise_cons.1 hq
   have e : p = q := by
     rcases List.mem_cons.1 (h.mem_iff.1 (List.mem_cons_self)) with e | h1
     · exact e
     · rcases List.mem_cons.1 (h.mem_iff.2 (List.mem_cons_self (a := q))) with e | h2
       · exact e.symm
       · have a1 := hp'.1 _ h2
         have a2 := hq'.1 _ h1
         by_cases h0 : ndsCmp p q = 0
         · exact cm_nds.eq _ _ h0
         · have := (cm_nds.flip q p).2 (by omega)
           omega
   subst e
   rw [le_eq hp'.2 hq'.2 (List.Perm.cons_inv h)]
theorem sorted_parts {ds qs : List (List Nd)} (hp : ds.Perm qs) (hs : ∀ (i j : Nat) (a b : List Nd), ds[i]? = some a → ds[j]? = some b → i < j → ¬ ndsCmp b a < 0) : dedupP ds = setParts qs := by
 have h1 : ds.Pairwise fun a b => ndsCmp a b ≤ 0 := by
   rw [List.pairwise_iff_getElem]
   intro i j hi hj hij
   have := hs i j _ _ (List.getElem?_eq_getElem hi) (List.getElem?_eq_getElem hj) hij
   have f := cm_nds.flip ds[i] ds[j]
   omega
 rw [setParts, le_eq h1 (le_sorted qs) (hp.trans (List.mergeSort_perm _ _).symm)]
theorem sort_order {w : World} {base : Nat} {v : Value} {ms : List NsM} (h : w.ownsRow base 22 1 v ms.length (flatG NsM.cells ms)) (hl : ms.length < 4611686018427387904) (hof : ∀ y ∈ ms, NsOff w v.ownBlock y) :
   Calls Tryz.prog 132 #[v, .func (.func 130) #[] #[]] w fun r w' => r = .returned (.tuple #[]) ∧ ∃ ds : List NsM, ds.Perm ms ∧ dedupP (ds.map NsM.e) = setParts (ms.map NsM.e) ∧
     w'.ownsRow base 22 1 v ms.length (flatG NsM.cells ds) ∧ (∀ y ∈ ds, NsOff w' v.ownBlock y) ∧ w.grownBy w' v.ownBlock := by
 refine (sort_lists Tryz.sortL rfl (enters_of Tryz.func130 (by kernel_rfl) rfl) ndsCmp h hl (fun _ => True) (fun _ _ => trivial) hof (swo_inj cm_nds.swo (fun x : {x : NsM // True} => x.1.e))
   (fun x y W _ _ gx gy => (val_orderD x.A y.A x.c y.c x.e y.e W gx.sl gy.sl (Nat.le_trans gx.le gx.max) (Nat.le_trans gy.le gy.max)).mono (by rintro r w' ⟨h1, h2, h3⟩; exact ⟨h1, grown_of_below h2 h3⟩))).mono ?_
 rintro r w' ⟨rfl, ds, h1, h2, h3, h4, h5⟩
 refine ⟨rfl, ds, h1, sorted_parts (h1.map NsM.e) ?_, h3, h4, h5⟩
 intro i j a b ha hb hij
 rw [List.getElem?_map] at ha hb
 obtain ⟨a', ha', rfl⟩ := Option.map_eq_some_iff.1 ha
 obtain ⟨b', hb', rfl⟩ := Option.map_eq_some_iff.1 hb
 exact h2 i j a' b' ha' hb' hij
set_option maxRecDepth 100000 in
theorem compact_any (base : Nat) (ms : List NsM) (v : Value) (w : World) (hown : w.ownsRow base 22 1 v ms.length (flatG NsM.cells ms)) (hof : ∀ y ∈ ms, NsOff w v.ownBlock y) (hl : ms.length ≤ 1000) :
   Calls Tryz.prog 165 #[v, .func (.func 166) #[] #[]] w fun r w' => ∃ v', r = .returned v' ∧
     w'.ownsRow base 22 1 v' (ddP ms).length (flatG NsM.cells (ddP ms)) ∧ (∀ y ∈ ddP ms, NsOff w' v'.ownBlock y) ∧ w.grownBy w' v.ownBlock := by
 rcases hown.2 with ⟨hv, h0⟩ | ⟨g, cap, cur, hv, hbase, hb, h1, h2, h3, h4⟩
 · subst hv
   obtain rfl : ms = [] := List.eq_nil_of_length_eq_zero h0
   clear hown hof
   go_enter Tryz.func165, Tryz.ntmps165
   go_wp2_with fail
   go_ret
   exact ⟨_, rfl, World.ownsRow_nil _ _ _ _, by simp [ddP], ⟨rfl, rfl, rfl, Nat.le_refl _, fun _ _ _ => rfl⟩⟩
 · subst hv
   unfold maxLen at h2
   refine (compact_lists base g cap ms w hown hof hl h1 h2).mono ?_
   rintro r w' ⟨rfl, a1, a2⟩
   exact ⟨_, rfl, a1, fun y hy => (hof y ((ddP_sub ms).subset hy)).grown a2 (.inl rfl), a2⟩
end Go.Proofs.YtpheiojmcafolaaGreatDoor
namespace Go.Proofs.YtpheiojmcafolaaGreatDoor
open Go.RowKit Go.Sort
def NdsNewE (w : World) (r : Ending) (w' : World) (xs : List Nd) (k : Int) : Prop :=
 ∃ A c, r = .returned (.tuple #[.slice A xs.length c, errV k]) ∧ xs.length ≤ c ∧ c ≤ 9223372036854775807 ∧ NdSl w' w'.heap.size A xs ∧ RowKit.Below w.heap.size w w' ∧ ∀ b o, A = some ⟨b, o, none⟩ → w.heap.size ≤ b
theorem NdsNewE.none {w w' : World} {k : Int} (h : RowKit.Below w.heap.size w w') : NdsNewE w (.returned (.tuple #[.slice none 0 0, errV k])) w' [] k :=
 ⟨Option.none, 0, rfl, Nat.le_refl _, by omega, NdSl.nil _ _ _, h, by simp⟩
theorem own_nodes' {w : World} {base : Nat} {e : TypeId} {v : Value} {n : Nat} {xs : List Value} (h : w.ownsRow base e 4 v n xs) : ∃ A c, v = .slice A n c ∧ n ≤ c := by
 rcases h.2 with ⟨hv, h0⟩ | ⟨g, cap, cur, hv, _, _, h1, _⟩
 · exact ⟨none, 0, by rw [hv, h0], by omega⟩
 · exact ⟨some ⟨g, 0, none⟩, cap, hv, h1⟩
def setV (ps : List (List Nd)) : List Nd × Int := if 200 < (setNodes ps).length then ([], 4) else (setNodes ps, 0)
theorem setV_of {ps : List (List Nd)} (h : valsErr ps = 0) : setOfP ps = setV ps := by unfold setOfP setV; rw [if_neg (by simp [h])]
set_option maxRecDepth 100000 in
set_option maxHeartbeats 6400000 in
theorem val_SetOf (ms : List NsM) (A : Option Addr) (c : Nat) (w : World) (hs : NssAt w A ms) (hv : ∀ y ∈ ms, valErr y.e = 0) (hok : ∀ y ∈ ms, NdOk y.e) (hl : ms.length ≤ 1000) :
   Calls Tryz.prog 135 #[.slice A ms.length c] w fun r w' => NdsNewE w r w' (setV (ms.map NsM.e)).1 (setV (ms.map NsM.e)).2 := by
 obtain ⟨j0, hj, hy0, hy1, hy2⟩ := info_parts nd_info
 have HS := Lib.hid hs
 have HC := Lib.hid (fun W (hW : RowKit.Below w.heap.size w W) y (hy : y ∈ ms) => by
   have g := (hs.later hW).good y hy
   have h := val_Check y.e y.A y.c W g.le g.max (hok y hy) g.sl
   rw [hv y hy] at h
   exact h)
 have HV := Lib.hid hv
 clear hs hv hok
 have t0 := errV_zero
 go_enter Tryz.func135, Tryz.ntmps135
 go_wp2_with fail
 go_loopw [13] (fun kk wr => ∃ k : Nat, kk = .int .i64 k ∧ k ≤ ms.length ∧ RowKit.Below w.heap.size w wr) (fun kk _ => ms.length - (intOf kk).toNat)
 case atStart => exact ⟨0, rfl, by omega, RowKit.Below.refl _ _⟩
 case round =>
   obtain ⟨k, rfl, hk, hbr⟩ := hrel
   have hzr := hbr.size
   by_cases hlt : k < ms.length
   · obtain ⟨⟨Ay, cy, ey⟩, hy⟩ : ∃ y, ms[k]? = some y := ⟨_, List.getElem?_eq_getElem hlt⟩
     obtain ⟨b, o, hA, hb, hc0⟩ := nsSl_at (HS.out.later hbr).sl hy
     simp only at hc0
     have HCy := Lib.hid (HC.out wr hbr _ (List.mem_of_getElem? hy))
     simp only at HCy
     subst hA
     clear hy
     go_wp2_with fail
     refine HCy.out.mono ?_
     rintro r w1 ⟨rfl, hb1⟩
     have hw1 := hbr.trans (hb1.mono hbr.size)
     clear hb1
     go_wp2_with fail
     exact ⟨⟨k + 1, by go_num, by omega, hw1⟩, by simp [intOf]; omega⟩
   · have HSr := Lib.hid (HS.out.later hbr)
     have HCL := Lib.hid (clone_ns ms A c wr HSr.out.sl hl)
     clear HC
     go_wp2_with fail
     refine HCL.out.mono ?_
     rintro r w1 ⟨v, rfl, hown1, hb1⟩
     have hw1 := hbr.trans (hb1.mono hbr.size)
     have hof1 : ∀ y ∈ ms, NsOff w1 v.ownBlock y := fun y hy => (((HSr.out.good y hy).away (q := v.ownBlock) (Nat.le_refl _) (fun b hb => (own_lt hown1 hb).1)).later hb1)
     have HSO := Lib.hid (sort_order hown1 (by omega) hof1)
     have HL1 : Hid (∀ b, v.ownBlock = some b → wr.heap.size ≤ b) := fun b hb => (own_lt hown1 hb).1
     clear hown1 hof1 hb1
     go_wp2_with fail
     refine HSO.out.mono ?_
     rintro r w2 ⟨rfl, ds, hp2, hd2, hown2, hof2, hg2⟩
     have hw2 : RowKit.Below w.heap.size w w2 := hw1.grown hg2 hw1.size (fun q hq => by have := HL1.out q hq; omega)
     have hdl : ds.length = ms.length := hp2.length_eq
     rw [← hdl] at hown2
     have HCO := Lib.hid (compact_any _ ds v w2 hown2 hof2 (by omega))
     have HD2 := Lib.hid hd2
     have HP2 := Lib.hid hp2
     clear hown2 hof2 hg2 hd2 hp2
     go_wp2_with fail
     refine HCO.out.mono ?_
     rintro r w3 ⟨v3, rfl, hown3, hof3, hg3⟩
     have hw3 : RowKit.Below w.heap.size w w3 := hw2.grown hg3 hw2.size (fun q hq => by have := HL1.out q hq; omega)
     have HSP : Hid ((ddP ds).map NsM.e = setParts (ms.map NsM.e)) := by
       show _ = _
       rw [ddP_e]; exact HD2.out
     have hql : (ddP ds).length ≤ 1000 := by have := (ddP_sub ds).length_le; omega
     have HVQ : Hid (∀ y ∈ ddP ds, y.e.length ≤ 200 ∧ y.e ≠ []) := fun y hy => by
       have hm := HP2.out.mem_iff.1 ((ddP_sub ds).subset hy)
       have h1 := (val_iff y.e).1 (HV.out y hm)
       obtain ⟨x, r, e, _⟩ := h1.2.ne
       exact ⟨h1.1, by rw [e]; simp⟩
     generalize ddP ds = qs at hown3 hof3 HSP hql HVQ
     obtain ⟨-, A3, c3, hv3, hc3, hcm3, hs3⟩ := own_formG ns_ok hown3
     subst hv3
     have HS3 : Hid (NssAt w3 A3 qs) := ⟨hs3, fun y hy => (hof3 y hy).good⟩
     have HSV : Hid (setV (ms.map NsM.e) = if 200 < (⟨5, qs.length, ⟨#[]⟩, ⟨#[]⟩⟩ :: catN qs : List Nd).length then ([], 4) else (⟨5, qs.length, ⟨#[]⟩, ⟨#[]⟩⟩ :: catN qs, 0)) := by
       show _ = _
       unfold setV setNodes
       rw [← HSP.out, nss_map' (ms := qs) rfl, List.length_map]
     clear hown3 hof3 hg3 hs3 hdl HSP HD2 HP2
     go_wp2_with fail
     obtain ⟨x0, hx0⟩ : ∃ x0 : Nd, x0 = ⟨5, qs.length, ⟨#[]⟩, ⟨#[]⟩⟩ := ⟨_, rfl⟩
     have HOL := Lib.hid (World.ownsRow_lit (base := w3.heap.size) (e := 37) (size := 4) w3 #[.int .i64 5, .int .i64 qs.length, .string ⟨#[]⟩, .string ⟨#[]⟩] 1 (Nat.le_refl _) (by decide) (by simp))
     have HO0 : Hid ((w3.alloc (.cells #[.int .i64 5, .int .i64 qs.length, .string ⟨#[]⟩, .string ⟨#[]⟩] 37)).ownsRow w3.heap.size 37 4 (.slice (some ⟨w3.heap.size, 0, none⟩) 1 1) 1 (flat [x0])) := by
       have := HOL.out
       rw [hx0]
       simpa [flat, Nd.cells, Hid] using this
     have HX0 := Lib.hid hx0
     rw [← hx0] at HSV
     have hz3 := hw3.size
     clear hx0 HOL
     obtain ⟨wo, hwo⟩ : ∃ wo : World, wo = wr := ⟨_, rfl⟩
     clear hwo
     go_loopw [8, 35] (fun ov kk wr => ∃ (k l : Nat), kk = .int .i64 k ∧ k ≤ qs.length ∧ l ≤ 200 ∧ Hid (l = (x0 :: catN (qs.take k)).length) ∧ Hid (wr.ownsRow w3.heap.size 37 4 ov l (flat (x0 :: catN (qs.take k)))) ∧ RowKit.Below w3.heap.size w3 wr) (fun _ kk _ => qs.length - (intOf kk).toNat)
     case atStart => exact ⟨0, 1, rfl, by omega, by omega, by simp [catN, Hid], by simpa [catN, Hid] using HO0.out, by (repeat (first | assumption | exact Below.refl _ _ | apply Below.drew | apply below_drewN | (refine Below.alloc ?_ (by first | exact Nat.le_refl _ | omega | (simp; done) | (simp; omega)) _)))⟩
     case round =>
       obtain ⟨j, l, rfl, hj1, hl2, HLL, HOr, hbr3⟩ := hrel
       have hzr3 := hbr3.size
       by_cases hlt3 : j < qs.length
       · obtain ⟨⟨Ay, cy, ey⟩, hy⟩ : ∃ y, qs[j]? = some y := ⟨_, List.getElem?_eq_getElem hlt3⟩
         have HST := Lib.hid (catN_step hy)
         have h2 := catN_le (ps := qs) (j + 1)
         obtain ⟨he1, hee⟩ := HVQ.out _ (List.mem_of_getElem? hy)
         have hg := (HS3.out.good _ (List.mem_of_getElem? hy)).later hbr3
         obtain ⟨b, o, rfl, hb, hc0⟩ := nsSl_at (HS3.out.later hbr3).sl hy
         simp only at hc0 hee he1
         obtain ⟨bn, on, rfl, hbn, -⟩ := hg.sl hee
         have HCE := Lib.hid (fun j u hu => NdSl.flat hg.sl j u hu)
         have HL2 : Hid (l + ey.length = (x0 :: catN (qs.take (j + 1))).length) := by
           show _ = _
           rw [HLL.out, HST.out]; simp; omega
         have HT2 : Hid ((x0 :: catN (qs.take (j + 1))).length ≤ (x0 :: catN qs).length) := by
           show _ ≤ _
           simp only [List.length_cons]; omega
         clear hg hy hee h2
         by_cases h200 : 200 < l + ey.length
         · go_wp2_with (at_builtin; refine wpList_append_own _ rfl (.tmp 39) (.tmp 40) 22 rfl w3.heap.size 37 j0 _ 4 48 Tryz.underlying22 hj hy0 hy1 hy2 rfl (by omega) _ l (flat (x0 :: catN (qs.take j))) rfl HOr.out ⟨bn, on, none⟩ ey.length cy (flat ey) rfl (flat_len ey) HCE.out (flat_one_cell ey) (by unfold maxLen; omega) (by omega) (by omega) ?_; intro v1 w5 hown5 hgrow5 _; obtain ⟨A5, c5, hv5, -⟩ := own_nodes' hown5; subst hv5)
           have hb5 : RowKit.Below w3.heap.size w3 w5 := hbr3.grown hgrow5 hbr3.size (fun q hq => (HOr.out.lt q hq).1)
           clear hown5 hgrow5 hbn
           go_ret2
           rw [HSV.out, if_pos (by have := HL2.out; have := HT2.out; rw [HX0.out] at *; omega)]
           exact NdsNewE.none (k := 4) (hw3.trans (hb5.mono hw3.size))
         · go_wp2_with (at_builtin; refine wpList_append_own _ rfl (.tmp 39) (.tmp 40) 22 rfl w3.heap.size 37 j0 _ 4 48 Tryz.underlying22 hj hy0 hy1 hy2 rfl (by omega) _ l (flat (x0 :: catN (qs.take j))) rfl HOr.out ⟨bn, on, none⟩ ey.length cy (flat ey) rfl (flat_len ey) HCE.out (flat_one_cell ey) (by unfold maxLen; omega) (by omega) (by omega) ?_; intro v1 w5 hown5 hgrow5 _; obtain ⟨A5, c5, hv5, -⟩ := own_nodes' hown5; subst hv5)
           have hb5 : RowKit.Below w3.heap.size w3 w5 := hbr3.grown hgrow5 hbr3.size (fun q hq => (HOr.out.lt q hq).1)
           have HO5 : Hid (w5.ownsRow w3.heap.size 37 4 (.slice A5 (l + ey.length) c5) (l + ey.length) (flat (x0 :: catN (qs.take (j + 1))))) := by
             show World.ownsRow _ _ _ _ _ _ _
             rw [HST.out, ← List.cons_append, flat_append]; exact hown5
           clear hown5 hgrow5 hbn
           exact ⟨⟨j + 1, l + ey.length, by go_num, by omega, by omega, HL2, HO5, hb5⟩, by simp [intOf]; omega⟩
       · have HT : Hid (qs.take j = qs) := by show _ = _; rw [List.take_of_length_le (by omega)]
         rw [HT.out] at HOr HLL
         obtain ⟨Ao, co, hv, hco, hcm4, hso, hnew⟩ := own_form_new HOr.out
         subst hv
         have HSO2 := Lib.hid hso
         have HNW := Lib.hid hnew
         clear hso HOr hnew
         go_wp2_with fail
         go_ret2
         rw [HSV.out, if_neg (by have := HLL.out; omega)]
         have hll := HLL.out
         subst hll
         exact ⟨Ao, co, rfl, hco, hcm4, HSO2.out, hw3.trans (hbr3.mono hw3.size), fun b o h => by have := HNW.out b o h; omega⟩
end Go.Proofs.YtpheiojmcafolaaGreatDoor
namespace Go.Proofs.YtpheiojmcafolaaGreatDoor
set_option maxRecDepth 100000
open Go.RowKit Go.Sort
def rsL {α : Type} (r : Rs (List α)) : List α := match r with | .ok v => v | .bad _ => []
def PartsBack (w : World) (r : Ending) (w' : World) (q : Rs (List (List Nd))) : Prop :=
 ∃ (Ap : Option Addr) (cp : Nat) (ms : List NsM), r = .returned (.tuple #[.slice Ap ms.length cp, errV (rsE q)]) ∧ ms.map NsM.e = rsL q ∧ ms.length ≤ cp ∧ cp ≤ 9223372036854775807 ∧ NssAt w' Ap ms ∧ RowKit.Below w.heap.size w w' ∧
   (∀ y ∈ ms, ∀ b o, y.A = some ⟨b, o, none⟩ → y.e ≠ [] → w.heap.size ≤ b) ∧ (∀ b o, Ap = some ⟨b, o, none⟩ → w.heap.size ≤ b)
theorem PartsBack.bad {w w' : World} {k : Int} (h : RowKit.Below w.heap.size w w') : PartsBack w (.returned (.tuple #[.slice none 0 0, errV k])) w' (.bad k) :=
 ⟨none, 0, [], rfl, rfl, Nat.le_refl _, by omega, ⟨SlG.nil _ _ _, by simp⟩, h, by simp, by simp⟩
theorem val_cut {v : List Nd} (h : valErr v = 0) (ho : opH v = 5 ∨ opH v = 6) : ∃ (x : Nd) (ps : List (List Nd)), v = x :: ps.flatten ∧ v.length ≤ 200 ∧ x.n = ps.length ∧ (x.op = 5 → ∀ p ∈ ps, Vx p) ∧ (x.op = 6 → ∀ p ∈ ps, ∃ f u, p = f :: u ∧ Vx u) ∧ (x.op = 5 ∨ x.op = 6) ∧ partsV v = ps ∧ opH v = x.op := by
 obtain ⟨hl, hv⟩ := (val_iff v).1 h
 cases hv with
 | leaf n hs h5 h6 h7 => rcases ho with ho | ho; exact absurd ho h5; exact absurd ho h6
 | set n ps hs h5 hn hp hc =>
   exact ⟨n, ps, rfl, hl, hn, fun _ => hp, fun h6 => by omega, .inl h5, kids_any ps (fun p hp' => ⟨false, vx_ex (hp p hp')⟩) _ (Nat.le_refl _), rfl⟩
 | rcd n ps hs h6 hn h1 h2 h3 hc =>
   refine ⟨n, ps, rfl, hl, hn, fun h5 => by omega, fun _ p hp => ?_, .inr h6, kids_any ps (fun p hp => ?_) _ (Nat.le_refl _), rfl⟩
   · obtain ⟨f, u, rfl⟩ := h1 p hp
     exact ⟨f, u, rfl, h3 f u hp⟩
   · obtain ⟨f, u, rfl⟩ := h1 p hp
     exact ⟨true, fx_ex (h2 f u hp).1 (h2 f u hp).2 (vx_ex (h3 f u hp))⟩
theorem partsR_cut {v : List Nd} {x : Nd} {ps : List (List Nd)} (h : valErr v = 0) (hx : x.op = 5 ∨ x.op = 6) (hp : partsV v = ps) (ho : opH v = x.op) : partsR v = .ok (ps.map (cont x)) := by
 unfold partsR
 rw [if_neg (by simp [h]), ho, hp]
 rcases hx with h5 | h6
 · rw [if_pos h5]
   congr 1
   rw [show cont x = id from by funext p; unfold cont; rw [if_neg (by omega)]; rfl, List.map_id]
 · rw [if_neg (by omega), if_pos h6]
   congr 2
   funext p; unfold cont; rw [if_pos h6]
set_option maxHeartbeats 3200000 in
theorem val_Parts (v : List Nd) (A : Option Addr) (c : Nat) (w : World) (hc : v.length ≤ c) (hcm : c ≤ 9223372036854775807) (hok : NdOk v) (hsl : NdSl w w.heap.size A v) :
   Calls Tryz.prog 148 #[.slice A v.length c] w fun r w' => PartsBack w r w' (partsR v) := by
 have HV := Lib.hid (val_Check v A c w hc hcm hok hsl)
 obtain ⟨q, hq⟩ : ∃ q, partsR v = q := ⟨_, rfl⟩
 rw [hq]
 have HQ := Lib.hid hq
 clear hq
 by_cases h0 : valErr v = 0
 · have t0 : (valErr v != 0) = false := by simp [h0]
   obtain ⟨y, r, hvy, -, -⟩ := ((val_iff v).1 h0).2.ne
   have hne : v ≠ [] := by rw [hvy]; simp
   obtain ⟨b, o, rfl, hb, hcs⟩ := hsl hne
   have d0 := (hcs 0 y (by rw [hvy]; rfl)).c0
   rw [Nat.zero_mul, Nat.add_zero] at d0
   have hl0 : (0 : Int) < (v.length : Int) := by rw [hvy]; simp
   have hoy : opH v = y.op := by rw [hvy]; rfl
   by_cases ho : opH v = 5 ∨ opH v = 6
   · obtain ⟨x, ps, hx, hl, hn, h5, h6, hxo, hpv, hox⟩ := val_cut h0 ho
     have HR : Hid (q = .ok (ps.map (cont x))) := by show _ = _; rw [← HQ.out]; exact partsR_cut h0 hxo hpv hox
     have HSP := Lib.hid (fun W (hW : RowKit.Below w.heap.size w W) => val_split x ps (some ⟨b, o, none⟩) c W (by rw [← hx]; exact hl) hn h5 h6 hxo (by rw [← hx]; exact hc) hcm (by rw [← hx]; exact hok) (by rw [← hx]; exact (hsl.below hW).more hW.size))
     rw [← hx] at HSP
     generalize (if x.op = 6 then namesOf ps else []) = NS at HSP
     have hyo : (y.op != 5) = false ∨ ((y.op != 5) = true ∧ (y.op != 6) = false) := by
       rw [hoy] at ho
       rcases ho with h | h
       · left; simp [h]
       · right; simp [h]
     clear h0 hvy hne hcs hoy ho hx hl hn h5 h6 hxo hpv hox hok hsl hc
     rcases hyo with t5 | ⟨t5, t6⟩
     all_goals (
       go_enter Tryz.func148, Tryz.ntmps148
       go_wp2_with fail
       refine HV.out.mono ?_
       rintro r w1 ⟨rfl, hb1⟩
       have e0 := (hb1.cell (p := ⟨b, o, none⟩) hb).trans d0
       have HS1 := Lib.hid (HSP.out w1 hb1)
       have HB1 := Lib.hid hb1
       clear hb1 d0
       go_wp2_with fail
       refine HS1.out.mono ?_
       rintro r w2 ⟨Ap, cp, An, cn, ms, rfl, h1, h2, h3, h4, -, h5, h6, h7⟩
       have H1 := Lib.hid h1
       have H4 := Lib.hid h4
       have H6 := Lib.hid h6
       have H7 := Lib.hid h7
       have H2 := Lib.hid h2
       have hw2 := HB1.out.trans (h5.mono HB1.out.size)
       have hz1 := HB1.out.size
       clear h1 h2 h4 h5 h6 h7
       go_wp2_with fail
       go_ret2
       rw [HR.out]
       exact ⟨Ap, cp, ms, rfl, H1.out, H2.out, h3, H4.out, hw2, fun y hy b o e1 e2 => by have := H6.out y hy b o e1 e2; omega, fun b o e1 => by have := H7.out b o e1; omega⟩)
   · have HR : Hid (q = .bad 2) := by
       show _ = _
       rw [← HQ.out]; unfold partsR
       rw [if_neg (by simp [h0]), if_neg (fun h => ho (.inl h)), if_neg (fun h => ho (.inr h))]
     rw [hoy] at ho
     have t5 : (y.op != 5) = true := by simp; exact fun h => ho (.inl h)
     have t6 : (y.op != 6) = true := by simp; exact fun h => ho (.inr h)
     clear h0 hvy hne hcs hoy ho hok hsl hc
     go_enter Tryz.func148, Tryz.ntmps148
     go_wp2_with fail
     refine HV.out.mono ?_
     rintro r w1 ⟨rfl, hb1⟩
     have e0 := (hb1.cell (p := ⟨b, o, none⟩) hb).trans d0
     have HB1 := Lib.hid hb1
     clear hb1 d0
     go_wp2_with fail
     go_ret2
     rw [HR.out]
     have hfin := PartsBack.bad (k := 2) HB1.out
     rw [errV_pos (by omega)] at hfin
     exact hfin
 · have t0 : (valErr v != 0) = true := by simp [h0]
   have HR : Hid (q = .bad (valErr v)) := by show _ = _; rw [← HQ.out]; unfold partsR; rw [if_pos h0]
   clear h0 hok hsl hc
   go_enter Tryz.func148, Tryz.ntmps148
   go_wp2_with fail
   refine HV.out.mono ?_
   rintro r w1 ⟨rfl, hb1⟩
   have HB1 := Lib.hid hb1
   clear hb1
   go_wp2_with fail
   go_ret2
   rw [HR.out]
   exact PartsBack.bad HB1.out
theorem sH_head (p : List Nd) : sH p = headS p := by cases p <;> rfl
theorem find_name (ps : List (List Nd)) (s : ByteArray) : (s.toList ∈ namesOf ps → ∃ p, ps[(namesOf ps).idxOf s.toList]? = some p ∧ ps.find? (fun p => decide (sH p = s)) = some p) ∧ (s.toList ∉ namesOf ps → ps.find? (fun p => decide (sH p = s)) = none) := by
 induction ps with
 | nil => exact ⟨fun h => by simp [namesOf] at h, fun _ => rfl⟩
 | cons p ps ih =>
   have hc : namesOf (p :: ps) = (headS p).toList :: namesOf ps := rfl
   by_cases he : sH p = s
   · have h1 : (headS p).toList = s.toList := by rw [← sH_head, he]
     refine ⟨fun _ => ⟨p, by rw [hc, h1]; simp, by simp [he]⟩, fun h => ?_⟩
     rw [hc, h1] at h; simp at h
   · have h1 : ¬ (headS p).toList = s.toList := fun h => he (by rw [sH_head]; exact (bs_same _ _).1 h)
     refine ⟨fun h => ?_, fun h => ?_⟩
     · rw [hc] at h
       rcases List.mem_cons.1 h with h | h
       · exact absurd h.symm h1
       · obtain ⟨q, e1, e2⟩ := ih.1 h
         refine ⟨q, ?_, by simp [he, e2]⟩
         have h2 : ((headS p).toList == s.toList) = false := by simpa using h1
         rw [hc, List.idxOf_cons, h2]; simpa using e1
     · rw [hc] at h
       have h2 : s.toList ∉ namesOf ps := fun hh => h (List.mem_cons_of_mem _ hh)
       simp [he, ih.2 h2]
set_option maxHeartbeats 3200000 in
theorem val_Get (v : List Nd) (s : ByteArray) (A : Option Addr) (c : Nat) (w : World) (hc : v.length ≤ c) (hcm : c ≤ 9223372036854775807) (hok : NdOk v) (hsl : NdSl w w.heap.size A v) :
   Calls Tryz.prog 117 #[.slice A v.length c, .string s] w fun r w' => NdsNewE w r w' (rsL (getR v s)) (rsE (getR v s)) := by
 have HV := Lib.hid (val_Check v A c w hc hcm hok hsl)
 obtain ⟨q, hq⟩ : ∃ q, getR v s = q := ⟨_, rfl⟩
 rw [hq]
 have HQ := Lib.hid hq
 clear hq
 by_cases h0 : valErr v = 0
 · have t0 : (valErr v != 0) = false := by simp [h0]
   obtain ⟨y, r, hvy, -, -⟩ := ((val_iff v).1 h0).2.ne
   have hne : v ≠ [] := by rw [hvy]; simp
   obtain ⟨b, o, rfl, hb, hcs⟩ := hsl hne
   have d0 := (hcs 0 y (by rw [hvy]; rfl)).c0
   rw [Nat.zero_mul, Nat.add_zero] at d0
   have hl0 : (0 : Int) < (v.length : Int) := by rw [hvy]; simp
   have hoy : opH v = y.op := by rw [hvy]; rfl
   by_cases ho : opH v = 6
   · obtain ⟨x, ps, hx, hl, hn, h5, h6, hxo, hpv, hox⟩ := val_cut h0 (.inr ho)
     have hx6 : x.op = 6 := by rw [← hox]; exact ho
     have HR : Hid (q = match ps.find? (fun p => decide (sH p = s)) with | some p => .ok p.tail | none => .bad 3) := by
       show _ = _; rw [← HQ.out]; unfold getR; rw [if_neg (by simp [h0]), if_pos ho, hpv]; rfl
     have HSP := Lib.hid (fun W (hW : RowKit.Below w.heap.size w W) => val_split x ps (some ⟨b, o, none⟩) c W (by rw [← hx]; exact hl) hn h5 h6 hxo (by rw [← hx]; exact hc) hcm (by rw [← hx]; exact hok) (by rw [← hx]; exact (hsl.below hW).more hW.size))
     rw [← hx, if_pos hx6] at HSP
     have HCX : Hid (cont x = List.tail) := by show _ = _; funext p; unfold cont; rw [if_pos hx6]
     rw [HCX.out] at HSP
     have hpl : ps.length ≤ 200 := by
       have : ps.length ≤ ps.flatten.length := by
         have h1 : ∀ l : List (List Nd), (∀ p ∈ l, p ≠ []) → l.length ≤ l.flatten.length := by
           intro l
           induction l with
           | nil => simp
           | cons p r ih =>
             intro h
             have a1 := ih (fun q hq => h q (by simp [hq]))
             have a2 := List.length_pos_iff.2 (h p (by simp))
             rw [List.flatten_cons, List.length_append, List.length_cons]; omega
         exact h1 ps (fun p hp => by obtain ⟨f, u, e, _⟩ := h6 hx6 p hp; rw [e]; simp)
       rw [hx, List.length_cons] at hl; omega
     have t6 : (y.op != 6) = false := by rw [hoy] at ho; simp [ho]
     have hnl : (namesOf ps).length = ps.length := by simp [namesOf]
     have HNL := Lib.hid hnl
     have HTN : Hid (∀ p ∈ ps, p.tail ≠ []) := fun p hp => by
       obtain ⟨f, u, e, hu⟩ := h6 hx6 p hp
       obtain ⟨x', r', e', _⟩ := hu.ne
       rw [e, e']; simp
     have HIX := Lib.hid (fun An cn W hS => str_Index (namesOf ps) An cn s W hS (by rw [hnl]; omega))
     have HFN := Lib.hid (find_name ps s)
     clear h0 hvy hne hcs hoy ho hx hl hn h5 h6 hxo hpv hox hok hsl hc hx6 hnl
     by_cases hm : s.toList ∈ namesOf ps
     · obtain ⟨p, hp1, hp2⟩ := HFN.out.1 hm
       have HR2 : Hid (q = .ok p.tail) := by show _ = _; rw [HR.out, hp2]
       have hid : idxL (namesOf ps) s.toList = (((namesOf ps).idxOf s.toList : Nat) : Int) := by unfold idxL; rw [if_pos hm]
       rw [hid] at HIX
       have HP1 := Lib.hid hp1
       have hk : (namesOf ps).idxOf s.toList < ps.length := (List.getElem?_eq_some_iff.1 hp1).1
       generalize (namesOf ps).idxOf s.toList = k at HIX HP1 hk
       have tk : decide ((0 : Int) ≤ (k : Int)) = true := by simp
       clear hm hp1 hp2 hid HFN HR
       go_enter Tryz.func117, Tryz.ntmps117
       go_wp2_with fail
       refine HV.out.mono ?_
       rintro r w1 ⟨rfl, hb1⟩
       have e0 := (hb1.cell (p := ⟨b, o, none⟩) hb).trans d0
       have HS1 := Lib.hid (HSP.out w1 hb1)
       have HB1 := Lib.hid hb1
       clear hb1 d0
       go_wp2_with fail
       refine HS1.out.mono ?_
       rintro r w2 ⟨Ap, cp, An, cn, ms, rfl, h1, h2, h3, h4, hsn, h5, h6, h7⟩
       have hml : ms.length = ps.length := by have := congrArg List.length h1; simpa using this
       have hkm : k < ms.length := by omega
       obtain ⟨⟨Ay, cy, ey⟩, hy⟩ : ∃ y, ms[k]? = some y := ⟨_, List.getElem?_eq_getElem hkm⟩
       have HEY : Hid (ey = p.tail) := by
         have h8 := congrArg (fun l => l[k]?) h1
         simp only [List.getElem?_map, hy, HP1.out, Option.map_some] at h8
         injection h8
       obtain ⟨bm, om, rfl, hbm, hcm2⟩ := nsSl_at h4.sl hy
       have HG := Lib.hid (h4.good _ (List.mem_of_getElem? hy))
       have HFR := Lib.hid (fun b o e1 e2 => h6 _ (List.mem_of_getElem? hy) b o e1 e2)
       have hw2 := HB1.out.trans (h5.mono HB1.out.size)
       have hz1 := HB1.out.size
       have HIX2 := Lib.hid (HIX.out An cn w2 hsn)
       have HNN : Hid ((namesOf ps).length = ps.length) := HNL
       simp only at hcm2
       clear h1 h2 h4 h5 h6 h7 hsn hy hml e0
       go_wp2_with fail
       refine HIX2.out.mono ?_
       rintro r w3 ⟨rfl, rfl⟩
       go_wp2_with fail
       go_ret2
       rw [HR2.out]
       have e1 := HEY.out
       subst e1
       exact ⟨Ay, cy, rfl, HG.out.le, HG.out.max, HG.out.sl, hw2, fun b o e1 => by have := HFR.out b o e1 (HTN.out p (List.mem_of_getElem? HP1.out)); omega⟩
     · have hnf := HFN.out.2 hm
       have HR2 : Hid (q = .bad 3) := by show _ = _; rw [HR.out, hnf]
       have hid : idxL (namesOf ps) s.toList = -1 := by unfold idxL; rw [if_neg hm]
       rw [hid] at HIX
       clear hm hnf hid HFN HR
       go_enter Tryz.func117, Tryz.ntmps117
       go_wp2_with fail
       refine HV.out.mono ?_
       rintro r w1 ⟨rfl, hb1⟩
       have e0 := (hb1.cell (p := ⟨b, o, none⟩) hb).trans d0
       have HS1 := Lib.hid (HSP.out w1 hb1)
       have HB1 := Lib.hid hb1
       clear hb1 d0
       go_wp2_with fail
       refine HS1.out.mono ?_
       rintro r w2 ⟨Ap, cp, An, cn, ms, rfl, -, -, h3, -, hsn, h5, -, -⟩
       have hw2 := HB1.out.trans (h5.mono HB1.out.size)
       have HIX2 := Lib.hid (HIX.out An cn w2 hsn)
       clear h5 hsn e0
       go_wp2_with fail
       refine HIX2.out.mono ?_
       rintro r w3 ⟨rfl, rfl⟩
       go_wp2_with fail
       go_ret2
       rw [HR2.out]
       have hfin := NdsNewE.none (k := 3) hw2
       rw [errV_pos (by omega)] at hfin
       exact hfin
   · have HR : Hid (q = .bad 2) := by
       show _ = _
       rw [← HQ.out]; unfold getR
       rw [if_neg (by simp [h0]), if_neg ho]
     rw [hoy] at ho
     have t6 : (y.op != 6) = true := by simp [ho]
     clear h0 hvy hne hcs hoy ho hok hsl hc
     go_enter Tryz.func117, Tryz.ntmps117
     go_wp2_with fail
     refine HV.out.mono ?_
     rintro r w1 ⟨rfl, hb1⟩
     have e0 := (hb1.cell (p := ⟨b, o, none⟩) hb).trans d0
     have HB1 := Lib.hid hb1
     clear hb1 d0
     go_wp2_with fail
     go_ret2
     rw [HR.out]
     have hfin := NdsNewE.none (k := 2) HB1.out
     rw [errV_pos (by omega)] at hfin
     exact hfin
 · have t0 : (valErr v != 0) = true := by simp [h0]
   have HR : Hid (q = .bad (valErr v)) := by show _ = _; rw [← HQ.out]; unfold getR; rw [if_pos h0]
   clear h0 hok hsl hc
   go_enter Tryz.func117, Tryz.ntmps117
   go_wp2_with fail
   refine HV.out.mono ?_
   rintro r w1 ⟨rfl, hb1⟩
   have HB1 := Lib.hid hb1
   clear hb1
   go_wp2_with fail
   go_ret2
   rw [HR.out]
   exact NdsNewE.none HB1.out
end Go.Proofs.YtpheiojmcafolaaGreatDoor
namespace Go.Proofs.YtpheiojmcafolaaGreatDoor
set_option maxRecDepth 100000
open Go.RowKit Go.Sort
theorem eq_take {xs ys : List Nd} {k : Nat} {x y : Nd} (hx : xs[k]? = some x) (hy : ys[k]? = some y) (h : xs.take k = ys.take k) (hh : x = y) : xs.take (k + 1) = ys.take (k + 1) := by
 rw [List.take_add_one, List.take_add_one, hx, hy, h, hh]
theorem ne_take {xs ys : List Nd} {k : Nat} {x y : Nd} (hx : xs[k]? = some x) (hy : ys[k]? = some y) (hh : x ≠ y) : ¬ xs = ys := by
 intro e; subst e; rw [hx] at hy; injection hy with hy; exact hh hy
set_option maxHeartbeats 3200000 in
theorem equal_nds (xs ys : List Nd) (A1 A2 : Option Addr) (c1 c2 : Nat) (w : World) (h1 : NdSl w w.heap.size A1 xs) (h2 : NdSl w w.heap.size A2 ys) (l1 : xs.length ≤ 9223372036854775807) :
   Calls Tryz.prog 177 #[.slice A1 xs.length c1, .slice A2 ys.length c2] w fun r w' => r = .returned (.bool (decide (xs = ys))) ∧ RowKit.Below w.heap.size w w' := by
 have H1 := Lib.hid h1
 have H2 := Lib.hid h2
 obtain ⟨v, hv⟩ : ∃ v, decide (xs = ys) = v := ⟨_, rfl⟩
 rw [hv]
 have HV := Lib.hid hv
 clear hv h1 h2
 by_cases hl : xs.length = ys.length
 · have tl : ((xs.length : Int) != (ys.length : Int)) = false := by simp [hl]
   have hle : ys.length ≤ xs.length := by omega
   have hle2 : xs.length ≤ ys.length := by omega
   have HL := Lib.hid hl
   clear hl
   go_enter Tryz.func177, Tryz.ntmps177
   go_wp2_with fail
   go_loopw [13] (fun kk wr => ∃ k : Nat, kk = .int .i64 k ∧ k ≤ xs.length ∧ Hid (xs.take k = ys.take k) ∧ RowKit.Below w.heap.size w wr) (fun kk _ => xs.length - (intOf kk).toNat)
   case atStart => exact ⟨0, rfl, by omega, by simp [Hid], RowKit.Below.refl _ _⟩
   case round =>
     obtain ⟨k, rfl, hk, HK, hbr⟩ := hrel
     have hzr := hbr.size
     by_cases hlt : k < xs.length
     · obtain ⟨x, hx⟩ : ∃ x, xs[k]? = some x := ⟨_, List.getElem?_eq_getElem hlt⟩
       obtain ⟨y, hy⟩ : ∃ y, ys[k]? = some y := ⟨_, List.getElem?_eq_getElem (by omega)⟩
       obtain ⟨b1, o1, rfl, hb1, hc1⟩ := (H1.out.below hbr).at_ hlt
       obtain ⟨b2, o2, rfl, hb2, hc2⟩ := (H2.out.below hbr).at_ (i := k) (by omega)
       obtain ⟨d0, d1, d2, d3⟩ := hc1 k x hx
       obtain ⟨e0, e1, e2, e3⟩ := hc2 k y hy
       have HX := Lib.hid hx
       have HY := Lib.hid hy
       clear hc1 hc2 hx hy
       have i1 : (k : Int) < (xs.length : Int) := by omega
       have i2 : (k : Int) < (ys.length : Int) := by omega
       have i0 : 0 ≤ (k : Int) := by omega
       have heq : ∀ W, (binOp .neq 37 (.agg #[.int .i64 x.op, .int .i64 x.n, .string x.s, .string x.t]) (.agg #[.int .i64 y.op, .int .i64 y.n, .string y.s, .string y.t])).run Tryz.prog W = .ok (.bool (!decide (x = y))) W := fun W => neq_nd x y W
       have heq2 : ∀ W, (Op.equalIn 10000 37 (.agg #[.int .i64 x.op, .int .i64 x.n, .string x.s, .string x.t]) (.agg #[.int .i64 y.op, .int .i64 y.n, .string y.s, .string y.t])).run Tryz.prog W = .ok (decide (x = y)) W := fun W => eqn_nd x y W
       by_cases hh : x = y
       · have hd : decide (x = y) = true := by simp [hh]
         rw [hd] at heq heq2
         have HK2 : Hid (xs.take (k + 1) = ys.take (k + 1)) := eq_take HX.out HY.out HK.out hh
         clear hh hd
         go_wp2_with fail
         go_quiet (fail)
         go_wp2_with fail
         exact ⟨⟨k + 1, by go_num, by omega, HK2, below_drewN hbr _⟩, by simp [intOf]; omega⟩
       · have hd : decide (x = y) = false := by simp [hh]
         rw [hd] at heq heq2
         have HVF : Hid (v = false) := by show _ = _; rw [← HV.out]; simpa using ne_take HX.out HY.out hh
         clear hh hd
         go_wp2_with fail
         go_quiet (fail)
         go_wp2_with fail
         go_ret
         rw [HVF.out]
         exact ⟨rfl, below_drewN hbr _⟩
     · have HVT : Hid (v = true) := by
         show _ = _
         rw [← HV.out]
         have h := HK.out
         rw [List.take_of_length_le (by omega), List.take_of_length_le (by omega)] at h
         simpa using h
       go_wp2_with fail
       go_ret
       rw [HVT.out]
       exact ⟨rfl, hbr⟩
 · have tl : ((xs.length : Int) != (ys.length : Int)) = true := by simp; omega
   have HVF : Hid (v = false) := by show _ = _; rw [← HV.out]; simp; intro e; exact hl (by rw [e])
   clear hl
   go_enter Tryz.func177, Tryz.ntmps177
   go_wp2_with fail
   go_ret
   rw [HVF.out]
   exact ⟨rfl, RowKit.Below.refl _ _⟩
set_option maxHeartbeats 3200000 in
theorem equal_val (xs ys : List Nd) (A1 A2 : Option Addr) (c1 c2 : Nat) (w : World) (h1 : NdSl w w.heap.size A1 xs) (h2 : NdSl w w.heap.size A2 ys) (l1 : xs.length ≤ 9223372036854775807) :
   Calls Tryz.prog 119 #[.slice A1 xs.length c1, .slice A2 ys.length c2] w fun r w' => r = .returned (.bool (decide (xs = ys))) ∧ RowKit.Below w.heap.size w w' := by
 have H1 := Lib.hid h1
 have H2 := Lib.hid h2
 obtain ⟨v, hv⟩ : ∃ v, decide (xs = ys) = v := ⟨_, rfl⟩
 rw [hv]
 have HV := Lib.hid hv
 clear hv h1 h2
 by_cases hl : xs.length = ys.length
 · have tl : ((xs.length : Int) != (ys.length : Int)) = false := by simp [hl]
   have hle : ys.length ≤ xs.length := by omega
   have hle2 : xs.length ≤ ys.length := by omega
   have HL := Lib.hid hl
   clear hl
   go_enter Tryz.func119, Tryz.ntmps119
   go_wp2_with fail
   go_loopw [13] (fun kk wr => ∃ k : Nat, kk = .int .i64 k ∧ k ≤ xs.length ∧ Hid (xs.take k = ys.take k) ∧ RowKit.Below w.heap.size w wr) (fun kk _ => xs.length - (intOf kk).toNat)
   case atStart => exact ⟨0, rfl, by omega, by simp [Hid], RowKit.Below.refl _ _⟩
   case round =>
     obtain ⟨k, rfl, hk, HK, hbr⟩ := hrel
     have hzr := hbr.size
     by_cases hlt : k < xs.length
     · obtain ⟨x, hx⟩ : ∃ x, xs[k]? = some x := ⟨_, List.getElem?_eq_getElem hlt⟩
       obtain ⟨y, hy⟩ : ∃ y, ys[k]? = some y := ⟨_, List.getElem?_eq_getElem (by omega)⟩
       obtain ⟨b1, o1, rfl, hb1, hc1⟩ := (H1.out.below hbr).at_ hlt
       obtain ⟨b2, o2, rfl, hb2, hc2⟩ := (H2.out.below hbr).at_ (i := k) (by omega)
       obtain ⟨d0, d1, d2, d3⟩ := hc1 k x hx
       obtain ⟨e0, e1, e2, e3⟩ := hc2 k y hy
       have HX := Lib.hid hx
       have HY := Lib.hid hy
       clear hc1 hc2 hx hy
       have i1 : (k : Int) < (xs.length : Int) := by omega
       have i2 : (k : Int) < (ys.length : Int) := by omega
       have i0 : 0 ≤ (k : Int) := by omega
       have heq : ∀ W, (binOp .neq 37 (.agg #[.int .i64 x.op, .int .i64 x.n, .string x.s, .string x.t]) (.agg #[.int .i64 y.op, .int .i64 y.n, .string y.s, .string y.t])).run Tryz.prog W = .ok (.bool (!decide (x = y))) W := fun W => neq_nd x y W
       have heq2 : ∀ W, (Op.equalIn 10000 37 (.agg #[.int .i64 x.op, .int .i64 x.n, .string x.s, .string x.t]) (.agg #[.int .i64 y.op, .int .i64 y.n, .string y.s, .string y.t])).run Tryz.prog W = .ok (decide (x = y)) W := fun W => eqn_nd x y W
       by_cases hh : x = y
       · have hd : decide (x = y) = true := by simp [hh]
         rw [hd] at heq heq2
         have HK2 : Hid (xs.take (k + 1) = ys.take (k + 1)) := eq_take HX.out HY.out HK.out hh
         clear hh hd
         go_wp2_with fail
         go_quiet (fail)
         go_wp2_with fail
         exact ⟨⟨k + 1, by go_num, by omega, HK2, below_drewN hbr _⟩, by simp [intOf]; omega⟩
       · have hd : decide (x = y) = false := by simp [hh]
         rw [hd] at heq heq2
         have HVF : Hid (v = false) := by show _ = _; rw [← HV.out]; simpa using ne_take HX.out HY.out hh
         clear hh hd
         go_wp2_with fail
         go_quiet (fail)
         go_wp2_with fail
         go_ret
         rw [HVF.out]
         exact ⟨rfl, below_drewN hbr _⟩
     · have HVT : Hid (v = true) := by
         show _ = _
         rw [← HV.out]
         have h := HK.out
         rw [List.take_of_length_le (by omega), List.take_of_length_le (by omega)] at h
         simpa using h
       go_wp2_with fail
       go_ret
       rw [HVT.out]
       exact ⟨rfl, hbr⟩
 · have tl : ((xs.length : Int) != (ys.length : Int)) = true := by simp; omega
   have HVF : Hid (v = false) := by show _ = _; rw [← HV.out]; simp; intro e; exact hl (by rw [e])
   clear hl
   go_enter Tryz.func119, Tryz.ntmps119
   go_wp2_with fail
   go_ret
   rw [HVF.out]
   exact ⟨rfl, RowKit.Below.refl _ _⟩
structure VCap (v : List Nd) (A : Option Addr) (c : Nat) (b : Nat) (W : World) : Prop where
 c0 : W.cell? ⟨b, 0, none⟩ = some (.slice A v.length c)
 lt : b < W.heap.size
 sl : NdSl W W.heap.size A v
theorem VCap.later {v : List Nd} {A : Option Addr} {c b : Nat} {W W' : World} (h : VCap v A c b W) (hb : RowKit.Below W.heap.size W W') : VCap v A c b W' :=
 ⟨(hb.cell (p := ⟨b, 0, none⟩) h.lt).trans h.c0, Nat.lt_of_lt_of_le h.lt hb.size, (h.sl.below hb).more hb.size⟩
set_option maxHeartbeats 1600000 in
theorem has_clo (v : List Nd) (A : Option Addr) (c b : Nat) (y : NsM) (w : World) (h : VCap v A c b w) (hy : NsGood w w.heap.size y) (hl : y.e.length ≤ 9223372036854775807) :
   Calls Tryz.prog 176 #[.slice y.A y.e.length y.c, .pointer (some ⟨b, 0, none⟩)] w fun r w' => r = .returned (.bool (decide (y.e = v))) ∧ RowKit.Below w.heap.size w w' := by
 have H := Lib.hid (equal_nds y.e v y.A A y.c c w hy.sl h.sl hl)
 have c0 := h.c0
 clear h hy
 generalize decide (y.e = v) = q at H ⊢
 go_enter Tryz.func176, Tryz.ntmps176
 go_wp2_with fail
 refine H.out.mono ?_
 rintro r w1 ⟨rfl, hb1⟩
 have HB := Lib.hid hb1
 clear hb1 c0
 go_wp2_with fail
 go_ret
 exact ⟨rfl, HB.out⟩
theorem any_at {ps : List NsM} {f : List Nd → Bool} {k : Nat} {x : NsM} (hx : ps[k]? = some x) (h : (ps.take k).any (fun y => f y.e) = false) (hh : f x.e = false) : (ps.take (k + 1)).any (fun y => f y.e) = false := by
 rw [List.take_add_one, hx, List.any_append, h]; simp [hh]
theorem any_hit_at {ps : List NsM} {f : List Nd → Bool} {k : Nat} {x : NsM} (hx : ps[k]? = some x) (hh : f x.e = true) : ps.any (fun y => f y.e) = true := List.any_eq_true.2 ⟨x, List.mem_of_getElem? hx, hh⟩
set_option maxHeartbeats 3200000 in
theorem hasc_index (v : List Nd) (A : Option Addr) (c b : Nat) (w0 : World) (hcl : VCap v A c b w0) (ps : List NsM) (Ap : Option Addr) (cp : Nat) (w : World) (hw0 : RowKit.Below w0.heap.size w0 w) (hl : ps.length ≤ 9223372036854775807) (hs : NssAt w Ap ps) :
   Calls Tryz.prog 178 #[.slice Ap ps.length cp, .func (.func 176) #[] #[.pointer (some ⟨b, 0, none⟩)]] w fun r w' => (∃ k : Int, r = .returned (.int .i64 k) ∧ decide (0 ≤ k) = ps.any (fun y => decide (y.e = v))) ∧ RowKit.Below w.heap.size w w' := by
 have HM := Lib.hid hcl
 have HW0 := Lib.hid hw0
 have HS := Lib.hid hs
 clear hcl hs hw0
 go_enter Tryz.func178, Tryz.ntmps178
 go_wp2_with fail
 go_loopw [8] (fun kk wr => ∃ k : Nat, kk = .int .i64 k ∧ k ≤ ps.length ∧ Hid ((ps.take k).any (fun y => decide (y.e = v)) = false) ∧ RowKit.Below w.heap.size w wr) (fun kk _ => ps.length - (intOf kk).toNat)
 case atStart => exact ⟨0, rfl, by omega, by simp [Hid], RowKit.Below.refl _ _⟩
 case round =>
   obtain ⟨k, rfl, hk, HK, hbr⟩ := hrel
   have hzr := hbr.size
   by_cases hlt : k < ps.length
   · obtain ⟨x, hx⟩ : ∃ x, ps[k]? = some x := ⟨_, List.getElem?_eq_getElem hlt⟩
     obtain ⟨b1, o1, rfl, hb1, d0⟩ := nsSl_at (HS.out.later hbr).sl hx
     have HX := Lib.hid hx
     have HC := Lib.hid (has_clo v A c b x wr (HM.out.later (HW0.out.trans (hbr.mono HW0.out.size))) ((HS.out.later hbr).good x (List.mem_of_getElem? hx)) (by have := ((HS.out.later hbr).good x (List.mem_of_getElem? hx)); have h1 := this.le; have h2 := this.max; omega))
     clear hx
     cases hh : decide (x.e = v) with
     | true =>
       have HH := Lib.hid hh
       rw [hh] at HC
       clear hh
       go_wp2_with fail
       refine HC.out.mono ?_
       rintro r w1 ⟨rfl, hb2⟩
       have hw1 := hbr.trans (hb2.mono hbr.size)
       clear hb2 d0
       go_wp2_with fail
       go_ret
       refine ⟨⟨k, rfl, ?_⟩, hw1⟩
       rw [any_hit_at (f := fun e => decide (e = v)) HX.out HH.out]
       simp
     | false =>
       have HH := Lib.hid hh
       rw [hh] at HC
       clear hh
       go_wp2_with fail
       refine HC.out.mono ?_
       rintro r w1 ⟨rfl, hb2⟩
       have hw1 := hbr.trans (hb2.mono hbr.size)
       clear hb2 d0
       go_wp2_with fail
       exact ⟨⟨k + 1, by go_num, by omega, any_at (f := fun e => decide (e = v)) HX.out HK.out HH.out, hw1⟩, by simp [intOf]; omega⟩
   · have HE : Hid (ps.any (fun y => decide (y.e = v)) = false) := by
       have := HK.out
       rw [List.take_of_length_le (by omega)] at this
       exact this
     go_wp2_with fail
     go_ret
     exact ⟨⟨-1, rfl, by rw [HE.out]; rfl⟩, hbr⟩
set_option maxHeartbeats 1600000 in
theorem hasc_contains (v : List Nd) (A : Option Addr) (c b : Nat) (w0 : World) (hcl : VCap v A c b w0) (ps : List NsM) (Ap : Option Addr) (cp : Nat) (w : World) (hw0 : RowKit.Below w0.heap.size w0 w) (hl : ps.length ≤ 9223372036854775807) (hs : NssAt w Ap ps) :
   Calls Tryz.prog 154 #[.slice Ap ps.length cp, .func (.func 176) #[] #[.pointer (some ⟨b, 0, none⟩)]] w fun r w' => r = .returned (.bool (ps.any (fun y => decide (y.e = v)))) ∧ RowKit.Below w.heap.size w w' := by
 have HI := Lib.hid (hasc_index v A c b w0 hcl ps Ap cp w hw0 hl hs)
 clear hcl hs hw0
 generalize ps.any (fun y => decide (y.e = v)) = q at HI ⊢
 go_enter Tryz.func154, Tryz.ntmps154
 go_wp2_with fail
 refine HI.out.mono ?_
 rintro r w1 ⟨⟨k, rfl, hk⟩, hb1⟩
 have HK := Lib.hid hk
 clear hk
 go_wp2_with fail
 go_ret
 exact ⟨ret_bool HK.out, hb1⟩
set_option maxHeartbeats 1600000 in
theorem bag_has (v : List Nd) (A : Option Addr) (c : Nat) (ps : List NsM) (Ap : Option Addr) (cp : Nat) (w : World) (hl : ps.length ≤ 9223372036854775807) (hs : NssAt w Ap ps) (hv : NdSl w w.heap.size A v) :
   Calls Tryz.prog 151 #[.slice Ap ps.length cp, .slice A v.length c] w fun r w' => r = .returned (.bool (ps.any (fun y => decide (y.e = v)))) ∧ RowKit.Below w.heap.size w w' := by
 have hb0 : RowKit.Below w.heap.size w (w.alloc (.cells #[.slice A v.length c] 22)) := by (repeat (first | assumption | exact Below.refl _ _ | apply Below.drew | apply below_drewN | (refine Below.alloc ?_ (by first | exact Nat.le_refl _ | omega | (simp; done) | (simp; omega)) _)))
 have HC := Lib.hid (hasc_contains v A c w.heap.size (w.alloc (.cells #[.slice A v.length c] 22)) ⟨by simp [World.cell?_alloc_new], by simp, (hv.below hb0).more hb0.size⟩ ps Ap cp (w.alloc (.cells #[.slice A v.length c] 22)) (RowKit.Below.refl _ _) hl (hs.later hb0))
 clear hs hv
 generalize (ps.any (fun y => decide (y.e = v))) = q at HC ⊢
 go_enter Tryz.func151, Tryz.ntmps151
 go_wp2_with fail
 refine HC.out.mono ?_
 rintro r w1 ⟨rfl, hb1⟩
 have hw1 := hb0.trans (hb1.mono hb0.size)
 clear hb1
 go_wp2_with fail
 go_ret
 exact ⟨rfl, hw1⟩
set_option maxHeartbeats 3200000 in
theorem hasb_index (qs : List NsM) (Aq : Option Addr) (cq : Nat) (w0 : World) (hcl : NssAt w0 Aq qs) (hql : qs.length ≤ 9223372036854775807) (ps : List NsM) (Ap : Option Addr) (cp : Nat) (w : World) (hw0 : RowKit.Below w0.heap.size w0 w) (hl : ps.length ≤ 9223372036854775807) (hs : NssAt w Ap ps) :
   Calls Tryz.prog 178 #[.slice Ap ps.length cp, .func (.func 151) #[.slice Aq qs.length cq] #[]] w fun r w' => (∃ k : Int, r = .returned (.int .i64 k) ∧ decide (0 ≤ k) = ps.any (fun y => qs.any (fun q => decide (q.e = y.e)))) ∧ RowKit.Below w.heap.size w w' := by
 have HM := Lib.hid hcl
 have HW0 := Lib.hid hw0
 have HS := Lib.hid hs
 clear hcl hs hw0
 go_enter Tryz.func178, Tryz.ntmps178
 go_wp2_with fail
 go_loopw [8] (fun kk wr => ∃ k : Nat, kk = .int .i64 k ∧ k ≤ ps.length ∧ Hid ((ps.take k).any (fun y => qs.any (fun q => decide (q.e = y.e))) = false) ∧ RowKit.Below w.heap.size w wr) (fun kk _ => ps.length - (intOf kk).toNat)
 case atStart => exact ⟨0, rfl, by omega, by simp [Hid], RowKit.Below.refl _ _⟩
 case round =>
   obtain ⟨k, rfl, hk, HK, hbr⟩ := hrel
   have hzr := hbr.size
   by_cases hlt : k < ps.length
   · obtain ⟨x, hx⟩ : ∃ x, ps[k]? = some x := ⟨_, List.getElem?_eq_getElem hlt⟩
     obtain ⟨b1, o1, rfl, hb1, d0⟩ := nsSl_at (HS.out.later hbr).sl hx
     have HX := Lib.hid hx
     have HC := Lib.hid (bag_has x.e x.A x.c qs Aq cq wr hql (HM.out.later (HW0.out.trans (hbr.mono HW0.out.size))) ((HS.out.later hbr).good x (List.mem_of_getElem? hx)).sl)
     clear hx
     cases hh : qs.any (fun q => decide (q.e = x.e)) with
     | true =>
       have HH := Lib.hid hh
       rw [hh] at HC
       clear hh
       go_wp2_with fail
       refine HC.out.mono ?_
       rintro r w1 ⟨rfl, hb2⟩
       have hw1 := hbr.trans (hb2.mono hbr.size)
       clear hb2 d0
       go_wp2_with fail
       go_ret
       refine ⟨⟨k, rfl, ?_⟩, hw1⟩
       rw [any_hit_at (f := fun e => qs.any (fun q => decide (q.e = e))) HX.out HH.out]
       simp
     | false =>
       have HH := Lib.hid hh
       rw [hh] at HC
       clear hh
       go_wp2_with fail
       refine HC.out.mono ?_
       rintro r w1 ⟨rfl, hb2⟩
       have hw1 := hbr.trans (hb2.mono hbr.size)
       clear hb2 d0
       go_wp2_with fail
       exact ⟨⟨k + 1, by go_num, by omega, any_at (f := fun e => qs.any (fun q => decide (q.e = e))) HX.out HK.out HH.out, hw1⟩, by simp [intOf]; omega⟩
   · have HE : Hid (ps.any (fun y => qs.any (fun q => decide (q.e = y.e))) = false) := by
       have := HK.out
       rw [List.take_of_length_le (by omega)] at this
       exact this
     go_wp2_with fail
     go_ret
     exact ⟨⟨-1, rfl, by rw [HE.out]; rfl⟩, hbr⟩
set_option maxHeartbeats 1600000 in
theorem hasb_contains (qs : List NsM) (Aq : Option Addr) (cq : Nat) (w0 : World) (hcl : NssAt w0 Aq qs) (hql : qs.length ≤ 9223372036854775807) (ps : List NsM) (Ap : Option Addr) (cp : Nat) (w : World) (hw0 : RowKit.Below w0.heap.size w0 w) (hl : ps.length ≤ 9223372036854775807) (hs : NssAt w Ap ps) :
   Calls Tryz.prog 154 #[.slice Ap ps.length cp, .func (.func 151) #[.slice Aq qs.length cq] #[]] w fun r w' => r = .returned (.bool (ps.any (fun y => qs.any (fun q => decide (q.e = y.e))))) ∧ RowKit.Below w.heap.size w w' := by
 have HI := Lib.hid (hasb_index qs Aq cq w0 hcl hql ps Ap cp w hw0 hl hs)
 clear hcl hs hw0
 generalize ps.any (fun y => qs.any (fun q => decide (q.e = y.e))) = q at HI ⊢
 go_enter Tryz.func154, Tryz.ntmps154
 go_wp2_with fail
 refine HI.out.mono ?_
 rintro r w1 ⟨⟨k, rfl, hk⟩, hb1⟩
 have HK := Lib.hid hk
 clear hk
 go_wp2_with fail
 go_ret
 exact ⟨ret_bool HK.out, hb1⟩
end Go.Proofs.YtpheiojmcafolaaGreatDoor
namespace Go.Proofs.YtpheiojmcafolaaGreatDoor
set_option maxRecDepth 100000
open Go.RowKit Go.Sort
theorem filter_step {ps : List NsM} {f : NsM → Bool} {k : Nat} {x : NsM} (hx : ps[k]? = some x) : (ps.take (k + 1)).filter f = (ps.take k).filter f ++ if f x = true then [x] else [] := by
 rw [List.take_add_one, hx, List.filter_append]; cases h : f x <;> simp [h]
set_option maxHeartbeats 3200000 in
theorem bag_kept (qs : List NsM) (Aq : Option Addr) (cq : Nat) (ps : List NsM) (Ap : Option Addr) (cp : Nat) (w : World) (hql : qs.length ≤ 9223372036854775807) (hl : ps.length ≤ 1000) (hq : NssAt w Aq qs) (hs : NssAt w Ap ps) :
   Calls Tryz.prog 153 #[.slice Ap ps.length cp, .func (.func 151) #[.slice Aq qs.length cq] #[]] w fun r w' => ∃ Ak ck, r = .returned (.slice Ak (ps.filter (fun y => qs.any (fun q => decide (q.e = y.e)))).length ck) ∧ RowKit.Below w.heap.size w w' := by
 obtain ⟨i0, hi, hz0, hz1, hz2⟩ := info_parts ns_info
 have HQ := Lib.hid hq
 have HS := Lib.hid hs
 obtain ⟨P, hP⟩ : ∃ P : NsM → Bool, P = fun y => qs.any (fun q => decide (q.e = y.e)) := ⟨_, rfl⟩
 rw [← hP]
 have HP := Lib.hid hP
 clear hq hs hP
 go_enter Tryz.func153, Tryz.ntmps153
 go_wp2_with fail
 go_loopw [5, 10] (fun ov kk wr => ∃ (k : Nat) (ms : List NsM), kk = .int .i64 k ∧ k ≤ ps.length ∧ ms.length ≤ k ∧ Hid (ms = (ps.take k).filter P) ∧ Hid (wr.ownsRow w.heap.size 22 1 ov ms.length (flatG NsM.cells ms)) ∧ RowKit.Below w.heap.size w wr) (fun _ kk _ => ps.length - (intOf kk).toNat)
 case atStart => exact ⟨0, [], rfl, by omega, by simp, rfl, World.ownsRow_nil _ _ _ _, RowKit.Below.refl _ _⟩
 case round =>
   obtain ⟨k, ms, rfl, hk, hml, HM, HO, hbr⟩ := hrel
   have hzr := hbr.size
   obtain ⟨Ao, co, hvo, hco⟩ := own_sl HO.out
   subst hvo
   by_cases hlt : k < ps.length
   · obtain ⟨x, hx⟩ : ∃ x, ps[k]? = some x := ⟨_, List.getElem?_eq_getElem hlt⟩
     obtain ⟨b1, o1, rfl, hb1, d0⟩ := nsSl_at (HS.out.later hbr).sl hx
     have HX := Lib.hid hx
     have hcl := bag_has x.e x.A x.c qs Aq cq wr hql (HQ.out.later hbr) ((HS.out.later hbr).good x (List.mem_of_getElem? hx)).sl
     have hpx : (qs.any (fun q => decide (q.e = x.e))) = P x := by rw [HP.out]
     rw [hpx] at hcl
     have HC := Lib.hid hcl
     have HST := Lib.hid (filter_step (f := P) hx)
     clear hx hcl hpx
     cases hh : P x with
     | true =>
       rw [hh] at HC
       have HM2 : Hid (ms ++ [x] = (ps.take (k + 1)).filter P) := by show _ = _; rw [HST.out, hh, HM.out]; rfl
       clear hh
       go_wp2_with fail
       refine HC.out.mono ?_
       rintro r w1 ⟨rfl, hb2⟩
       have hw1 := hbr.trans (hb2.mono hbr.size)
       have HO1 := Lib.hid (own_keep (own_keep HO.out hb2) (by (repeat (first | assumption | exact Below.refl _ _ | apply Below.drew | apply below_drewN | (refine Below.alloc ?_ (by first | exact Nat.le_refl _ | omega | (simp; done) | (simp; omega)) _))) : RowKit.Below w1.heap.size w1 (w1.alloc (.cells #[.slice x.A x.e.length x.c] 22))))
       have HOL : Hid (∀ q, (Value.slice Ao ms.length co).ownBlock = some q → w.heap.size ≤ q) := fun q h => (own_lt HO.out h).1
       have hzw1 := hw1.size
       clear hb2 d0
       go_wp2_with (at_builtin; refine wpList_append_own_at _ rfl (.tmp 17) (.tmp 19) 214 rfl w.heap.size 22 i0 _ 1 24 Tryz.underlying214 hi hz0 hz1 hz2 rfl (by omega) _ ms.length (flatG NsM.cells ms) rfl HO1.out ⟨w1.heap.size, 0, none⟩ 1 1 [.slice x.A x.e.length x.c] rfl rfl (cell_one_new _ _ _) (by simp [Value.oneCell']) (by unfold maxLen; omega) (by omega) (by simp; omega) ?_; intro v6 w6 hown6 hgrow6 _ _; obtain ⟨A6, c6, hv6, hc6⟩ := own_sl hown6; subst hv6)
       have hw6 : RowKit.Below w.heap.size w w6 := RowKit.Below.grown (w := w1.alloc (.cells #[.slice x.A x.e.length x.c] 22)) (by (repeat (first | assumption | exact Below.refl _ _ | apply Below.drew | apply below_drewN | (refine Below.alloc ?_ (by first | exact Nat.le_refl _ | omega | (simp; done) | (simp; omega)) _)))) hgrow6 (by simp; omega) (fun q hq => HOL.out q hq)
       have HO6 : Hid (w6.ownsRow w.heap.size 22 1 (.slice A6 (ms.length + 1) c6) (ms ++ [x]).length (flatG NsM.cells (ms ++ [x]))) := by
         show World.ownsRow _ _ _ _ _ _ _
         rw [List.length_append, ns_snoc]; exact hown6
       clear hown6 hgrow6
       go_wp2_with fail
       exact ⟨⟨k + 1, ms ++ [x], by go_num, by omega, by simp; omega, HM2, HO6, hw6⟩, by simp [intOf]; omega⟩
     | false =>
       rw [hh] at HC
       have HM2 : Hid (ms = (ps.take (k + 1)).filter P) := by show _ = _; rw [HST.out, hh, HM.out]; simp
       clear hh
       go_wp2_with fail
       refine HC.out.mono ?_
       rintro r w1 ⟨rfl, hb2⟩
       have hw1 := hbr.trans (hb2.mono hbr.size)
       have HO1 := Lib.hid (own_keep HO.out hb2)
       clear hb2 d0
       go_wp2_with fail
       exact ⟨⟨k + 1, ms, by go_num, by omega, by omega, HM2, HO1, hw1⟩, by simp [intOf]; omega⟩
   · have HE : Hid (ms = ps.filter P) := by
       have := HM.out
       rw [List.take_of_length_le (by omega)] at this
       exact this
     go_wp2_with fail
     go_ret
     exact ⟨Ao, co, by rw [← HE.out]; rfl, hbr⟩
structure ValIn (v : List Nd) (A : Option Addr) (c : Nat) (w : World) : Prop where
 ok : valErr v = 0
 nd : NdOk v
 le : v.length ≤ c
 max : c ≤ 9223372036854775807
 sl : NdSl w w.heap.size A v
theorem ValIn.later {v : List Nd} {A : Option Addr} {c : Nat} {w w' : World} (h : ValIn v A c w) (hb : RowKit.Below w.heap.size w w') : ValIn v A c w' := ⟨h.ok, h.nd, h.le, h.max, (h.sl.below hb).more hb.size⟩
theorem ValIn.head {v : List Nd} {A : Option Addr} {c : Nat} {w : World} (h : ValIn v A c w) : ∃ (x : Nd) (r : List Nd) (b o : Nat), v = x :: r ∧ A = some ⟨b, o, none⟩ ∧ b < w.heap.size ∧ NdAt w b o x ∧ opH v = x.op ∧ nH v = x.n ∧ sH v = x.s ∧ udH v = ⟨x.s, x.t⟩ ∧ 0 < v.length := by
 obtain ⟨x, r, hv, -, -⟩ := ((val_iff v).1 h.ok).2.ne
 obtain ⟨b, o, hA, hb, hc⟩ := h.sl (by rw [hv]; simp)
 have := hc 0 x (by rw [hv]; rfl)
 rw [Nat.zero_mul, Nat.add_zero] at this
 exact ⟨x, r, b, o, hv, hA, hb, this, by rw [hv]; rfl, by rw [hv]; rfl, by rw [hv]; rfl, by rw [hv]; rfl, by rw [hv]; simp⟩
theorem partsR_ok {v : List Nd} (h : valErr v = 0) : (opH v = 5 → partsR v = .ok (partsV v)) ∧ (opH v = 6 → partsR v = .ok ((partsV v).map List.tail)) ∧ (opH v ≠ 5 → opH v ≠ 6 → partsR v = .bad 2) := by
 unfold partsR
 rw [if_neg (by simp [h])]
 exact ⟨fun h => by rw [if_pos h], fun h => by rw [if_neg (by omega), if_pos h], fun h1 h2 => by rw [if_neg h1, if_neg h2]⟩
def BothBack (w : World) (r : Ending) (w' : World) (s t : List Nd) : Prop :=
 (opH s = 5 ∧ opH t = 5 → ∃ Ap cp ms Bp dp ns, r = .returned (.tuple #[.slice Ap ms.length cp, .slice Bp ns.length dp, .nilIface]) ∧ NssAt w' Ap ms ∧ NssAt w' Bp ns ∧ ms.map NsM.e = partsV s ∧ ns.map NsM.e = partsV t ∧ ms.length ≤ 1000 ∧ ns.length ≤ 1000 ∧ RowKit.Below w.heap.size w w') ∧
 (¬ (opH s = 5 ∧ opH t = 5) → r = .returned (.tuple #[.slice none 0 0, .slice none 0 0, .iface 96 (.int .i64 2)]) ∧ RowKit.Below w.heap.size w w')
theorem parts_few {v : List Nd} (h : valErr v = 0) (ho : opH v = 5 ∨ opH v = 6) : (partsV v).length ≤ 1000 := by
 obtain ⟨x, ps, hx, hl, hn, h5, h6, hxo, hpv, hox⟩ := val_cut h ho
 rw [hpv]
 have h1 : ∀ l : List (List Nd), (∀ p ∈ l, p ≠ []) → l.length ≤ l.flatten.length := by
   intro l
   induction l with
   | nil => simp
   | cons p r ih =>
     intro h
     have a1 := ih (fun q hq => h q (by simp [hq]))
     have a2 := List.length_pos_iff.2 (h p (by simp))
     rw [List.flatten_cons, List.length_append, List.length_cons]; omega
 have h2 := h1 ps (fun p hp => by
   rcases hxo with h | h
   · obtain ⟨y, r, e, _⟩ := (h5 h p hp).ne
     rw [e]; simp
   · obtain ⟨f, u, e, _⟩ := h6 h p hp
     rw [e]; simp)
 rw [hx, List.length_cons] at hl; omega
set_option maxHeartbeats 6400000 in
theorem bag_both (s t : List Nd) (A B : Option Addr) (c d : Nat) (w : World) (hs : ValIn s A c w) (ht : ValIn t B d w) :
   Calls Tryz.prog 152 #[.slice A s.length c, .slice B t.length d] w fun r w' => BothBack w r w' s t := by
 have HVS := Lib.hid (fun W (hW : RowKit.Below w.heap.size w W) => by
   have h := (hs.later hW)
   have g := val_Check s A c W h.le h.max h.nd h.sl
   rw [hs.ok] at g; exact g)
 have HVT := Lib.hid (fun W (hW : RowKit.Below w.heap.size w W) => by
   have h := (ht.later hW)
   have g := val_Check t B d W h.le h.max h.nd h.sl
   rw [ht.ok] at g; exact g)
 have HPS := Lib.hid (fun W (hW : RowKit.Below w.heap.size w W) => by
   have h := (hs.later hW)
   exact val_Parts s A c W h.le h.max h.nd h.sl)
 have HPT := Lib.hid (fun W (hW : RowKit.Below w.heap.size w W) => by
   have h := (ht.later hW)
   exact val_Parts t B d W h.le h.max h.nd h.sl)
 have HRS := Lib.hid (partsR_ok hs.ok)
 have HRT := Lib.hid (partsR_ok ht.ok)
 have HFS := Lib.hid (fun h => parts_few hs.ok h)
 have HFT := Lib.hid (fun h => parts_few ht.ok h)
 obtain ⟨x, xr, bx, ox, hsx, rfl, hbx, ⟨x0, -, -, -⟩, hox, -, -, -, hsl⟩ := hs.head
 obtain ⟨y, yr, by_, oy, hty, rfl, hby, ⟨y0, -, -, -⟩, hoy, -, -, -, htl⟩ := ht.head
 have HOX := Lib.hid hox
 have HOY := Lib.hid hoy
 have hsl' : (0 : Int) < (s.length : Int) := by omega
 have htl' : (0 : Int) < (t.length : Int) := by omega
 clear hsx hty hs ht hox hoy hsl htl
 have g0 : ∀ W, (Instr.index 268 (.agg #[.slice (some ⟨bx, ox, none⟩) s.length c, .slice (some ⟨by_, oy, none⟩) t.length d]) (.int .i64 0)).run Tryz.prog W = .ok (.slice (some ⟨bx, ox, none⟩) s.length c) W := fun W => by kernel_rfl
 have g1 : ∀ W, (Instr.index 268 (.agg #[.slice (some ⟨bx, ox, none⟩) s.length c, .slice (some ⟨by_, oy, none⟩) t.length d]) (.int .i64 1)).run Tryz.prog W = .ok (.slice (some ⟨by_, oy, none⟩) t.length d) W := fun W => by kernel_rfl
 have E2 : errV 2 = .iface 96 (.int .i64 2) := rfl
 by_cases k5 : opH s = 5
 · have tx : (x.op != 5) = false := by rw [← HOX.out]; simp [k5]
   by_cases k6 : opH t = 5
   · have ty : (y.op != 5) = false := by rw [← HOY.out]; simp [k6]
     go_enter Tryz.func152, Tryz.ntmps152
     go_wp2_with fail
     refine wp_loop_rounds 3 ?_
     rw [rounds_succ]
     go_wp2_with fail
     refine (HVS.out w (RowKit.Below.refl _ _)).mono ?_
     rintro r w1 ⟨rfl, hb1⟩
     have HB1 := Lib.hid hb1
     have e0 := (hb1.cell (p := ⟨bx, ox, none⟩) hbx).trans x0
     have f0 := (hb1.cell (p := ⟨by_, oy, none⟩) hby).trans y0
     clear hb1 x0 y0
     go_wp2_with fail
     rw [rounds_succ]
     go_wp2_with fail
     refine (HVT.out w1 HB1.out).mono ?_
     rintro r w2 ⟨rfl, hb2⟩
     have HB2 := Lib.hid (HB1.out.trans (hb2.mono HB1.out.size))
     have e1 := (hb2.cell (p := ⟨bx, ox, none⟩) (by have := HB1.out.size; show bx < _; omega)).trans e0
     have f1 := (hb2.cell (p := ⟨by_, oy, none⟩) (by have := HB1.out.size; show by_ < _; omega)).trans f0
     clear hb2 e0 f0
     go_wp2_with fail
     rw [rounds_succ]
     go_wp2_with fail
     have hz2 := HB2.out.size
     refine (HPS.out w2 HB2.out).mono ?_
     rintro r w3 ⟨Ap, cp, ms, rfl, h1, -, -, h4, h5, -, -⟩
     rw [HRS.out.1 k5] at h1 ⊢
     have HB3 := Lib.hid (HB2.out.trans (h5.mono HB2.out.size))
     have e2 := (h5.cell (p := ⟨bx, ox, none⟩) (by show bx < _; omega)).trans e1
     have f2 := (h5.cell (p := ⟨by_, oy, none⟩) (by show by_ < _; omega)).trans f1
     have H1 := Lib.hid h1
     have H4 := Lib.hid h4
     clear h1 h4 h5 e1 f1
     simp only [rsE, errV_zero] 
     go_wp2_with fail
     have hz3 := HB3.out.size
     refine (HPT.out w3 HB3.out).mono ?_
     rintro r w4 ⟨Bp, dp, ns, rfl, h1, -, -, h4, h5, -, -⟩
     rw [HRT.out.1 k6] at h1 ⊢
     have HB4 := Lib.hid (HB3.out.trans (h5.mono HB3.out.size))
     have H44 := Lib.hid (H4.out.later h5)
     have f3 := (h5.cell (p := ⟨by_, oy, none⟩) (by show by_ < _; omega)).trans f2
     have H1b := Lib.hid h1
     have H4b := Lib.hid h4
     clear h1 h4 h5 f2
     simp only [rsE, errV_zero]
     go_wp2_with fail
     go_ret3
     refine ⟨fun _ => ⟨Ap, cp, ms, Bp, dp, ns, rfl, H44.out, H4b.out, H1.out, H1b.out, ?_, ?_, HB4.out⟩, fun h => absurd ⟨k5, k6⟩ h⟩
     · have := congrArg List.length H1.out
       simp only [List.length_map, rsL] at this
       have h2 := HFS.out (.inl k5)
       omega
     · have := congrArg List.length H1b.out
       simp only [List.length_map, rsL] at this
       have h2 := HFT.out (.inl k6)
       omega
   · by_cases k66 : opH t = 6
     · have ty : (y.op != 5) = true := by rw [← HOY.out]; simp [k6]
       go_enter Tryz.func152, Tryz.ntmps152
       go_wp2_with fail
       refine wp_loop_rounds 3 ?_
       rw [rounds_succ]
       go_wp2_with fail
       refine (HVS.out w (RowKit.Below.refl _ _)).mono ?_
       rintro r w1 ⟨rfl, hb1⟩
       have HB1 := Lib.hid hb1
       have e0 := (hb1.cell (p := ⟨bx, ox, none⟩) hbx).trans x0
       have f0 := (hb1.cell (p := ⟨by_, oy, none⟩) hby).trans y0
       clear hb1 x0 y0
       go_wp2_with fail
       rw [rounds_succ]
       go_wp2_with fail
       refine (HVT.out w1 HB1.out).mono ?_
       rintro r w2 ⟨rfl, hb2⟩
       have HB2 := Lib.hid (HB1.out.trans (hb2.mono HB1.out.size))
       have e1 := (hb2.cell (p := ⟨bx, ox, none⟩) (by have := HB1.out.size; show bx < _; omega)).trans e0
       have f1 := (hb2.cell (p := ⟨by_, oy, none⟩) (by have := HB1.out.size; show by_ < _; omega)).trans f0
       clear hb2 e0 f0
       go_wp2_with fail
       rw [rounds_succ]
       go_wp2_with fail
       have hz2 := HB2.out.size
       refine (HPS.out w2 HB2.out).mono ?_
       rintro r w3 ⟨Ap, cp, ms, rfl, h1, -, -, h4, h5, -, -⟩
       rw [HRS.out.1 k5] at h1 ⊢
       have HB3 := Lib.hid (HB2.out.trans (h5.mono HB2.out.size))
       have e2 := (h5.cell (p := ⟨bx, ox, none⟩) (by show bx < _; omega)).trans e1
       have f2 := (h5.cell (p := ⟨by_, oy, none⟩) (by show by_ < _; omega)).trans f1
       have H1 := Lib.hid h1
       have H4 := Lib.hid h4
       clear h1 h4 h5 e1 f1
       simp only [rsE, errV_zero] 
       go_wp2_with fail
       have hz3 := HB3.out.size
       refine (HPT.out w3 HB3.out).mono ?_
       rintro r w4 ⟨Bp, dp, ns, rfl, h1, -, -, h4, h5, -, -⟩
       rw [HRT.out.2.1 k66] at h1 ⊢
       have HB4 := Lib.hid (HB3.out.trans (h5.mono HB3.out.size))
       have H44 := Lib.hid (H4.out.later h5)
       have f3 := (h5.cell (p := ⟨by_, oy, none⟩) (by show by_ < _; omega)).trans f2
       have H1b := Lib.hid h1
       have H4b := Lib.hid h4
       clear h1 h4 h5 f2
       simp only [rsE, errV_zero]
       go_wp2_with fail
       go_ret3
       exact ⟨fun h => absurd h (fun h => k6 h.2), fun _ => ⟨rfl, HB4.out⟩⟩
     · have ty : (y.op != 5) = true := by rw [← HOY.out]; simp [k6]
       go_enter Tryz.func152, Tryz.ntmps152
       go_wp2_with fail
       refine wp_loop_rounds 3 ?_
       rw [rounds_succ]
       go_wp2_with fail
       refine (HVS.out w (RowKit.Below.refl _ _)).mono ?_
       rintro r w1 ⟨rfl, hb1⟩
       have HB1 := Lib.hid hb1
       have e0 := (hb1.cell (p := ⟨bx, ox, none⟩) hbx).trans x0
       have f0 := (hb1.cell (p := ⟨by_, oy, none⟩) hby).trans y0
       clear hb1 x0 y0
       go_wp2_with fail
       rw [rounds_succ]
       go_wp2_with fail
       refine (HVT.out w1 HB1.out).mono ?_
       rintro r w2 ⟨rfl, hb2⟩
       have HB2 := Lib.hid (HB1.out.trans (hb2.mono HB1.out.size))
       have e1 := (hb2.cell (p := ⟨bx, ox, none⟩) (by have := HB1.out.size; show bx < _; omega)).trans e0
       have f1 := (hb2.cell (p := ⟨by_, oy, none⟩) (by have := HB1.out.size; show by_ < _; omega)).trans f0
       clear hb2 e0 f0
       go_wp2_with fail
       rw [rounds_succ]
       go_wp2_with fail
       have hz2 := HB2.out.size
       refine (HPS.out w2 HB2.out).mono ?_
       rintro r w3 ⟨Ap, cp, ms, rfl, h1, -, -, h4, h5, -, -⟩
       rw [HRS.out.1 k5] at h1 ⊢
       have HB3 := Lib.hid (HB2.out.trans (h5.mono HB2.out.size))
       have e2 := (h5.cell (p := ⟨bx, ox, none⟩) (by show bx < _; omega)).trans e1
       have f2 := (h5.cell (p := ⟨by_, oy, none⟩) (by show by_ < _; omega)).trans f1
       have H1 := Lib.hid h1
       have H4 := Lib.hid h4
       clear h1 h4 h5 e1 f1
       simp only [rsE, errV_zero] 
       go_wp2_with fail
       have hz3 := HB3.out.size
       refine (HPT.out w3 HB3.out).mono ?_
       rintro r w4 ⟨Bp, dp, ns, rfl, h1, -, -, h4, h5, -, -⟩
       rw [HRT.out.2.2 k6 k66] at h1 ⊢
       have HB4 := Lib.hid (HB3.out.trans (h5.mono HB3.out.size))
       have H44 := Lib.hid (H4.out.later h5)
       have f3 := (h5.cell (p := ⟨by_, oy, none⟩) (by show by_ < _; omega)).trans f2
       have H1b := Lib.hid h1
       have H4b := Lib.hid h4
       clear h1 h4 h5 f2
       simp only [rsE, E2]
       go_wp2_with fail
       go_ret3
       exact ⟨fun h => absurd h (fun h => k6 h.2), fun _ => ⟨rfl, HB4.out⟩⟩
 · by_cases k55 : opH s = 6
   · have tx : (x.op != 5) = true := by rw [← HOX.out]; simp [k5]
     go_enter Tryz.func152, Tryz.ntmps152
     go_wp2_with fail
     refine wp_loop_rounds 3 ?_
     rw [rounds_succ]
     go_wp2_with fail
     refine (HVS.out w (RowKit.Below.refl _ _)).mono ?_
     rintro r w1 ⟨rfl, hb1⟩
     have HB1 := Lib.hid hb1
     have e0 := (hb1.cell (p := ⟨bx, ox, none⟩) hbx).trans x0
     have f0 := (hb1.cell (p := ⟨by_, oy, none⟩) hby).trans y0
     clear hb1 x0 y0
     go_wp2_with fail
     rw [rounds_succ]
     go_wp2_with fail
     refine (HVT.out w1 HB1.out).mono ?_
     rintro r w2 ⟨rfl, hb2⟩
     have HB2 := Lib.hid (HB1.out.trans (hb2.mono HB1.out.size))
     have e1 := (hb2.cell (p := ⟨bx, ox, none⟩) (by have := HB1.out.size; show bx < _; omega)).trans e0
     have f1 := (hb2.cell (p := ⟨by_, oy, none⟩) (by have := HB1.out.size; show by_ < _; omega)).trans f0
     clear hb2 e0 f0
     go_wp2_with fail
     rw [rounds_succ]
     go_wp2_with fail
     have hz2 := HB2.out.size
     refine (HPS.out w2 HB2.out).mono ?_
     rintro r w3 ⟨Ap, cp, ms, rfl, h1, -, -, h4, h5, -, -⟩
     rw [HRS.out.2.1 k55] at h1 ⊢
     have HB3 := Lib.hid (HB2.out.trans (h5.mono HB2.out.size))
     have e2 := (h5.cell (p := ⟨bx, ox, none⟩) (by show bx < _; omega)).trans e1
     have f2 := (h5.cell (p := ⟨by_, oy, none⟩) (by show by_ < _; omega)).trans f1
     have H1 := Lib.hid h1
     have H4 := Lib.hid h4
     clear h1 h4 h5 e1 f1
     simp only [rsE, errV_zero] 
     go_wp2_with fail
     go_ret3
     exact ⟨fun h => absurd h (fun h => k5 h.1), fun _ => ⟨rfl, HB3.out⟩⟩
   · have tx : (x.op != 5) = true := by rw [← HOX.out]; simp [k5]
     go_enter Tryz.func152, Tryz.ntmps152
     go_wp2_with fail
     refine wp_loop_rounds 3 ?_
     rw [rounds_succ]
     go_wp2_with fail
     refine (HVS.out w (RowKit.Below.refl _ _)).mono ?_
     rintro r w1 ⟨rfl, hb1⟩
     have HB1 := Lib.hid hb1
     have e0 := (hb1.cell (p := ⟨bx, ox, none⟩) hbx).trans x0
     have f0 := (hb1.cell (p := ⟨by_, oy, none⟩) hby).trans y0
     clear hb1 x0 y0
     go_wp2_with fail
     rw [rounds_succ]
     go_wp2_with fail
     refine (HVT.out w1 HB1.out).mono ?_
     rintro r w2 ⟨rfl, hb2⟩
     have HB2 := Lib.hid (HB1.out.trans (hb2.mono HB1.out.size))
     have e1 := (hb2.cell (p := ⟨bx, ox, none⟩) (by have := HB1.out.size; show bx < _; omega)).trans e0
     have f1 := (hb2.cell (p := ⟨by_, oy, none⟩) (by have := HB1.out.size; show by_ < _; omega)).trans f0
     clear hb2 e0 f0
     go_wp2_with fail
     rw [rounds_succ]
     go_wp2_with fail
     have hz2 := HB2.out.size
     refine (HPS.out w2 HB2.out).mono ?_
     rintro r w3 ⟨Ap, cp, ms, rfl, h1, -, -, h4, h5, -, -⟩
     rw [HRS.out.2.2 k5 k55] at h1 ⊢
     have HB3 := Lib.hid (HB2.out.trans (h5.mono HB2.out.size))
     have e2 := (h5.cell (p := ⟨bx, ox, none⟩) (by show bx < _; omega)).trans e1
     have f2 := (h5.cell (p := ⟨by_, oy, none⟩) (by show by_ < _; omega)).trans f1
     have H1 := Lib.hid h1
     have H4 := Lib.hid h4
     clear h1 h4 h5 e1 f1
     simp only [rsE, errV_zero, E2] 
     go_wp2_with fail
     go_ret3
     exact ⟨fun h => absurd h (fun h => k5 h.1), fun _ => ⟨rfl, HB3.out⟩⟩
end Go.Proofs.YtpheiojmcafolaaGreatDoor
namespace Go.Proofs.YtpheiojmcafolaaGreatDoor
set_option maxRecDepth 100000
open Go.RowKit Go.Sort
def BoolBack (w : World) (r : Ending) (w' : World) (q : Rs Bool) : Prop := r = .returned (.tuple #[.bool (rsB q), errV (rsE q)]) ∧ RowKit.Below w.heap.size w w'
theorem any_map_e (ms : List NsM) (v : List Nd) : (ms.any fun y => decide (y.e = v)) = ((ms.map NsM.e).any fun p => decide (p = v)) := by rw [List.any_map]; rfl
theorem any_mem_e (ms : List NsM) (v : List Nd) : (ms.any fun y => decide (y.e = v)) = decide (v ∈ ms.map NsM.e) := by
 rw [Bool.eq_iff_iff]; simp
set_option maxHeartbeats 3200000 in
theorem bag_Has (s t : List Nd) (A B : Option Addr) (c d : Nat) (w : World) (hs : ValIn s A c w) (ht : ValIn t B d w) :
   Calls Tryz.prog 121 #[.slice A s.length c, .slice B t.length d] w fun r w' => BoolBack w r w' (bagHas s t) := by
 have HVS := Lib.hid (fun W (hW : RowKit.Below w.heap.size w W) => by
   have h := (hs.later hW)
   have g := val_Check s A c W h.le h.max h.nd h.sl
   rw [hs.ok] at g; exact g)
 have HVT := Lib.hid (fun W (hW : RowKit.Below w.heap.size w W) => by
   have h := (ht.later hW)
   have g := val_Check t B d W h.le h.max h.nd h.sl
   rw [ht.ok] at g; exact g)
 have HT := Lib.hid ht
 obtain ⟨q, hq⟩ : ∃ q, bagHas s t = q := ⟨_, rfl⟩
 rw [hq]
 have HQ : Hid (q = if opH s = 5 then .ok ((partsV s).any fun p => decide (p = t)) else .bad 2) := by
   show _ = _; rw [← hq]; unfold bagHas; rw [if_neg (by simp [hs.ok]), if_neg (by simp [ht.ok])]
 have HPS := Lib.hid (fun W (hW : RowKit.Below w.heap.size w W) => by
   have h := (hs.later hW)
   exact val_Parts s A c W h.le h.max h.nd h.sl)
 have HRS := Lib.hid (partsR_ok hs.ok)
 have HFS := Lib.hid (fun h => parts_few hs.ok h)
 obtain ⟨x, xr, bx, ox, hsx, rfl, hbx, ⟨x0, -, -, -⟩, hox, -, -, -, hsl⟩ := hs.head
 have hsl' : (0 : Int) < (s.length : Int) := by omega
 have HOX := Lib.hid hox
 clear hs ht hq hsx hox hsl
 by_cases k5 : opH s = 5
 · have tx : (x.op != 5) = false := by rw [← HOX.out]; simp [k5]
   have HR : Hid (q = .ok ((partsV s).any fun p => decide (p = t))) := by show _ = _; rw [HQ.out, if_pos k5]
   have K5 := Lib.hid k5
   clear k5 HQ
   go_enter Tryz.func121, Tryz.ntmps121
   go_wp2_with fail
   refine (HVS.out w (RowKit.Below.refl _ _)).mono ?_
   rintro r w1 ⟨rfl, hb1⟩
   have HB1 := Lib.hid hb1
   have e0 := (hb1.cell (p := ⟨bx, ox, none⟩) hbx).trans x0
   clear hb1 x0
   go_wp2_with fail
   refine (HVT.out w1 HB1.out).mono ?_
   rintro r w2 ⟨rfl, hb2⟩
   have HB2 := Lib.hid (HB1.out.trans (hb2.mono HB1.out.size))
   have e1 := (hb2.cell (p := ⟨bx, ox, none⟩) (by have := HB1.out.size; show bx < _; omega)).trans e0
   clear hb2 e0
   go_wp2_with fail
   refine (HPS.out w2 HB2.out).mono ?_
   rintro r w3 ⟨Ap, cp, ms, rfl, h1, -, -, h4, h5, -, -⟩
   rw [HRS.out.1 K5.out] at h1 ⊢
   have HB3 := Lib.hid (HB2.out.trans (h5.mono HB2.out.size))
   have hml : ms.length ≤ 1000 := by
     have := congrArg List.length h1
     simp only [List.length_map, rsL] at this
     have h2 := HFS.out (.inl K5.out)
     omega
   have HH := Lib.hid (bag_has t B d ms Ap cp w3 (by omega) h4 (HT.out.later HB3.out).sl)
   have HE : Hid ((ms.any fun y => decide (y.e = t)) = ((partsV s).any fun p => decide (p = t))) := by show _ = _; rw [any_map_e, h1]; rfl
   clear h1 h4 h5 e1
   simp only [rsE, errV_zero]
   go_wp2_with fail
   refine HH.out.mono ?_
   rintro r w4 ⟨rfl, hb4⟩
   have hw4 := HB3.out.trans (hb4.mono HB3.out.size)
   clear hb4
   go_wp2_with fail
   go_ret2
   rw [HR.out, ← HE.out]
   exact ⟨rfl, hw4⟩
 · have tx : (x.op != 5) = true := by rw [← HOX.out]; simp [k5]
   have HR : Hid (q = .bad 2) := by show _ = _; rw [HQ.out, if_neg k5]
   clear k5 HQ
   go_enter Tryz.func121, Tryz.ntmps121
   go_wp2_with fail
   refine (HVS.out w (RowKit.Below.refl _ _)).mono ?_
   rintro r w1 ⟨rfl, hb1⟩
   have HB1 := Lib.hid hb1
   have e0 := (hb1.cell (p := ⟨bx, ox, none⟩) hbx).trans x0
   clear hb1 x0
   go_wp2_with fail
   refine (HVT.out w1 HB1.out).mono ?_
   rintro r w2 ⟨rfl, hb2⟩
   have HB2 := Lib.hid (HB1.out.trans (hb2.mono HB1.out.size))
   have e1 := (hb2.cell (p := ⟨bx, ox, none⟩) (by have := HB1.out.size; show bx < _; omega)).trans e0
   clear hb2 e0
   go_wp2_with fail
   go_ret2
   rw [HR.out]
   exact ⟨rfl, HB2.out⟩
theorem kept_all (ms ns : List NsM) : (((ns.filter (fun y => ms.any (fun q => decide (q.e = y.e)))).length : Int) == (ns.length : Int)) = ((ns.map NsM.e).all fun p => decide (p ∈ ms.map NsM.e)) := by
 rw [Bool.eq_iff_iff]
 simp only [beq_iff_eq, List.all_eq_true, List.mem_map, forall_exists_index, and_imp, forall_apply_eq_imp_iff₂]
 constructor
 · intro h y hy
   have h1 : (ns.filter (fun y => ms.any (fun q => decide (q.e = y.e)))).length = ns.length := by omega
   have := List.length_filter_eq_length_iff.1 h1 y hy
   rw [any_mem_e] at this
   simpa using this
 · intro h
   have : (ns.filter (fun y => ms.any (fun q => decide (q.e = y.e)))).length = ns.length := List.length_filter_eq_length_iff.2 (fun y hy => by
     rw [any_mem_e]
     simpa using h y hy)
   omega
theorem some_any (ms ns : List NsM) : (ns.any fun y => ms.any (fun q => decide (q.e = y.e))) = ((ns.map NsM.e).any fun p => decide (p ∈ ms.map NsM.e)) := by
 rw [List.any_map]
 congr 1
 funext y
 rw [any_mem_e]; rfl
theorem bagTwo_of (f : List (List Nd) → List (List Nd) → Bool) {s t : List Nd} (hs : valErr s = 0) (ht : valErr t = 0) : bagTwo f s t = if opH s = 5 ∧ opH t = 5 then .ok (f (partsV s) (partsV t)) else .bad 2 := by
 unfold bagTwo; rw [if_neg (by simp [hs]), if_neg (by simp [ht])]
set_option maxHeartbeats 3200000 in
theorem bag_All (s t : List Nd) (A B : Option Addr) (c d : Nat) (w : World) (hs : ValIn s A c w) (ht : ValIn t B d w) :
   Calls Tryz.prog 122 #[.slice A s.length c, .slice B t.length d] w fun r w' => BoolBack w r w' (bagAll s t) := by
 have HB := Lib.hid (bag_both s t A B c d w hs ht)
 have HQ : Hid (bagAll s t = if opH s = 5 ∧ opH t = 5 then .ok ((partsV t).all fun p => decide (p ∈ partsV s)) else .bad 2) := bagTwo_of _ hs.ok ht.ok
 clear hs ht
 by_cases k5 : opH s = 5 ∧ opH t = 5
 · rw [HQ.out, if_pos k5]
   have K5 := Lib.hid k5
   clear k5
   obtain ⟨q, hq⟩ : ∃ q, ((partsV t).all fun p => decide (p ∈ partsV s)) = q := ⟨_, rfl⟩
   rw [hq]
   have HQQ := Lib.hid hq
   clear hq HQ
   go_enter Tryz.func122, Tryz.ntmps122
   go_wp2_with fail
   refine HB.out.mono ?_
   rintro r w1 hpost
   obtain ⟨Ap, cp, ms, Bp, dp, ns, rfl, h1, h2, h3, h4, h5, h6, h7⟩ := hpost.1 K5.out
   have HK := Lib.hid (bag_kept ms Ap cp ns Bp dp w1 (by omega) h6 h1 h2)
   have HE : Hid ((((ns.filter (fun y => ms.any (fun q => decide (q.e = y.e)))).length : Int) == (ns.length : Int)) = q) := by show _ = _; rw [kept_all, h3, h4, HQQ.out]
   have HB1 := Lib.hid h7
   clear hpost h1 h2 h3 h4 h7
   generalize (ns.filter (fun y => ms.any (fun q => decide (q.e = y.e)))).length = L at HK HE
   go_wp2_with fail
   refine HK.out.mono ?_
   rintro r w2 ⟨Ak, ck, rfl, hb2⟩
   have hw2 := HB1.out.trans (hb2.mono HB1.out.size)
   clear hb2
   go_wp2_with fail
   go_ret2
   have e := HE.out
   refine ⟨?_, hw2⟩
   rw [← e]; rfl
 · rw [HQ.out, if_neg k5]
   have K5 := Lib.hid k5
   clear k5 HQ
   go_enter Tryz.func122, Tryz.ntmps122
   go_wp2_with fail
   refine HB.out.mono ?_
   rintro r w1 hpost
   obtain ⟨rfl, h7⟩ := hpost.2 K5.out
   have HB1 := Lib.hid h7
   clear hpost h7
   go_wp2_with fail
   go_ret2
   exact ⟨rfl, HB1.out⟩
set_option maxHeartbeats 3200000 in
theorem bag_Any (s t : List Nd) (A B : Option Addr) (c d : Nat) (w : World) (hs : ValIn s A c w) (ht : ValIn t B d w) :
   Calls Tryz.prog 123 #[.slice A s.length c, .slice B t.length d] w fun r w' => BoolBack w r w' (bagAny s t) := by
 have HB := Lib.hid (bag_both s t A B c d w hs ht)
 have HQ : Hid (bagAny s t = if opH s = 5 ∧ opH t = 5 then .ok ((partsV t).any fun p => decide (p ∈ partsV s)) else .bad 2) := bagTwo_of _ hs.ok ht.ok
 clear hs ht
 by_cases k5 : opH s = 5 ∧ opH t = 5
 · rw [HQ.out, if_pos k5]
   have K5 := Lib.hid k5
   clear k5
   obtain ⟨q, hq⟩ : ∃ q, ((partsV t).any fun p => decide (p ∈ partsV s)) = q := ⟨_, rfl⟩
   rw [hq]
   have HQQ := Lib.hid hq
   clear hq HQ
   go_enter Tryz.func123, Tryz.ntmps123
   go_wp2_with fail
   refine HB.out.mono ?_
   rintro r w1 hpost
   obtain ⟨Ap, cp, ms, Bp, dp, ns, rfl, h1, h2, h3, h4, h5, h6, h7⟩ := hpost.1 K5.out
   have HK := Lib.hid (hasb_contains ms Ap cp w1 h1 (by omega) ns Bp dp w1 (RowKit.Below.refl _ _) (by omega) h2)
   have HE : Hid ((ns.any fun y => ms.any (fun q => decide (q.e = y.e))) = q) := by show _ = _; rw [some_any, h3, h4, HQQ.out]
   rw [HE.out] at HK
   have HB1 := Lib.hid h7
   clear hpost h1 h2 h3 h4 h7 HE
   go_wp2_with fail
   refine HK.out.mono ?_
   rintro r w2 ⟨rfl, hb2⟩
   have hw2 := HB1.out.trans (hb2.mono HB1.out.size)
   clear hb2
   go_wp2_with fail
   go_ret2
   exact ⟨rfl, hw2⟩
 · rw [HQ.out, if_neg k5]
   have K5 := Lib.hid k5
   clear k5 HQ
   go_enter Tryz.func123, Tryz.ntmps123
   go_wp2_with fail
   refine HB.out.mono ?_
   rintro r w1 hpost
   obtain ⟨rfl, h7⟩ := hpost.2 K5.out
   have HB1 := Lib.hid h7
   clear hpost h7
   go_wp2_with fail
   go_ret2
   exact ⟨rfl, HB1.out⟩
end Go.Proofs.YtpheiojmcafolaaGreatDoor
namespace Go.Proofs.YtpheiojmcafolaaGreatDoor
def NdI (e : List Nd) : Prop := ∀ x ∈ e, I64 x.n
def GoodI (v : List Nd) : Prop := v = v ∧ NdI v
theorem head_i {x : Nd} {r : List Nd} (h : valErr (x :: r) = 0) (ho : x.op = 5 ∨ x.op = 6) : I64 x.n := by
 obtain ⟨y, ps, e, _, hn, _, _, _, hp, _⟩ := val_cut h ho
 have := parts_few h ho
 rw [hp] at this
 injection e with e _
 rw [e, hn]
 exact ⟨by omega, by omega⟩
theorem bN_goodI (b : Bool) : GoodI [bN b] := ⟨rfl, by intro x hx; simp at hx; subst hx; cases b <;> exact ⟨by decide, by decide⟩⟩
theorem nN_goodI {n : Int} (h : I64 n) : GoodI [nN n] := ⟨rfl, by intro x hx; simp at hx; subst hx; exact h⟩
theorem numR_i {op a b n : Int} (h : numR op a b = .ok n) : I64 n := by
 unfold numR at h
 have key : ∀ m : Int, (if inR m = true then (Rs.ok m : Rs Int) else .bad 5) = .ok n → I64 n := by
   intro m hm
   split at hm
   · injection hm with hm; subst hm; rename_i hr; unfold inR at hr; simp only [Bool.and_eq_true, decide_eq_true_eq] at hr; exact hr
   · cases hm
 split at h
 · exact key _ h
 · split at h
   · exact key _ h
   · split at h
     · exact key _ h
     · cases h
theorem eN_goodI (u : Ud) : GoodI [eN u] := ⟨rfl, by intro x hx; simp at hx; subst hx; exact (⟨by decide, by decide⟩ : I64 0)⟩
theorem NdI.sub {a b : List Nd} (h : NdI b) (hs : ∀ x ∈ a, x ∈ b) : NdI a := fun x hx => h x (hs x hx)
theorem setOfP_goodI {vs : List (List Nd)} {v : List Nd} (hv : ∀ p ∈ vs, NdI p) (h : setR vs = .ok v) : GoodI v := by
 have hvx := setR_vx h
 unfold setR at h
 split at h
 · cases h
 · rename_i hk
   injection h with h
   subst h
   unfold setOfP at hk hvx ⊢
   split at hk
   · rename_i h1; exact absurd h1 hk
   · rename_i h1
     rw [if_neg h1] at hvx ⊢
     split at hk
     · exact absurd (by decide) hk
     · rename_i h2
       rw [if_neg h2] at hvx ⊢
       unfold setNodes at hvx
       refine ⟨rfl, fun x hx => ?_⟩
       unfold setNodes at hx
       rcases List.mem_cons.1 hx with rfl | hx
       · exact head_i hvx (.inl rfl)
       · obtain ⟨p, hp, hxp⟩ := List.mem_flatten.1 hx
         exact hv p (mem_setParts hp) x hxp
theorem recR_goodI {fs : List (ByteArray × List Nd)} {v : List Nd} (hv : ∀ f ∈ fs, NdI f.2) (h : recR fs = .ok v) : GoodI v := by
 have hvx := recR_vx h
 unfold recR at h
 split at h
 · cases h
 · split at h
   · cases h
   · injection h with h
     subst h
     refine ⟨rfl, fun x hx => ?_⟩
     unfold recNodes at hx hvx
     rcases List.mem_cons.1 hx with rfl | hx
     · exact head_i hvx (.inr rfl)
     · obtain ⟨p, hp, hxp⟩ := List.mem_flatten.1 hx
       have hp' := (sortN_perm _).mem_iff.1 hp
       obtain ⟨f, hf, rfl⟩ := List.mem_map.1 hp'
       rcases List.mem_cons.1 hxp with rfl | hxp
       · exact (⟨by decide, by decide⟩ : I64 0)
       · exact hv f hf x hxp
theorem vx_goodI {v : List Nd} (_h : Vx v) (hok : NdI v) : GoodI v := ⟨rfl, hok⟩
theorem getR_goodI {v w : List Nd} {s : ByteArray} (hv : NdI v) (h : getR v s = .ok w) : GoodI w := by
 unfold getR at h
 split at h
 · cases h
 · rename_i h0
   have h0' : valErr v = 0 := Classical.not_not.1 h0
   split at h
   · rename_i h6
     split at h
     · rename_i p hp
       injection h with h
       subst h
       have hm := List.mem_of_find?_eq_some hp
       obtain ⟨f, u, rfl, _, hu⟩ := vx_rec_parts h0' h6 p hm
       exact vx_goodI hu (hv.sub fun x hx => parts_sub hm x (List.mem_cons_of_mem _ hx))
     · cases h
   · cases h
structure EsI (es : List En) : Prop where
 at_ : ∀ e ∈ es, GoodI e.at_
structure RqI (q : Rq) : Prop where
 ctx : GoodI q.ctx
theorem named_goodI {q : Rq} (hq : RqI q) {s : List UInt8} {v : List Nd} (h : namedR q s = .ok v) : GoodI v := by
 unfold namedR at h
 split at h
 · injection h with h; subst h; exact eN_goodI q.who
 · split at h
   · injection h with h; subst h; exact eN_goodI q.act
   · split at h
     · injection h with h; subst h; exact eN_goodI q.what
     · split at h
       · injection h with h; subst h; exact hq.ctx
       · cases h
theorem single_goodI {es : List En} (hes : EsI es) {x : Nd} {v w : List Nd} (hv : GoodI v) (h : singleR es x v = .ok w) : GoodI w := by
 unfold singleR at h
 split at h
 · obtain ⟨u, _, h2⟩ := bind_ok h; injection h2 with h2; subst h2; exact bN_goodI _
 · split at h
   · obtain ⟨u, _, h2⟩ := bind_ok h; obtain ⟨n, hn, h3⟩ := bind_ok h2; injection h3 with h3; subst h3; exact nN_goodI (numR_i hn)
   · split at h
     · obtain ⟨u, _, h2⟩ := bind_ok h; obtain ⟨n, _, h3⟩ := bind_ok h2; injection h3 with h3; subst h3; exact bN_goodI _
     · split at h
       · obtain ⟨u, _, h2⟩ := bind_ok h; injection h2 with h2; subst h2; exact bN_goodI _
       · obtain ⟨r, h1, h2⟩ := bind_ok h
         cases r with
         | none =>
           simp only at h2
           split at h2
           · injection h2 with h2; subst h2; exact bN_goodI _
           · cases h2
         | some r =>
           simp only at h2
           have hr : NdI r := by
             unfold recOf at h1
             split at h1
             · injection h1 with h1; injection h1 with h1; subst h1; exact hv.2
             · split at h1
               · injection h1 with h1
                 obtain ⟨e, he, h1⟩ := Option.map_eq_some_iff.1 h1
                 subst h1
                 exact (hes.at_ e (List.mem_of_find?_eq_some he)).2
               · cases h1
           split at h2
           · split at h2 <;> (injection h2 with h2; subst h2; exact bN_goodI _)
           · exact getR_goodI hr h2
theorem double_goodI {es : List En} {op : Int} {a b w : List Nd} (h : doubleR es op a b = .ok w) : GoodI w := by
 unfold doubleR at h
 split at h
 · injection h with h; subst h; exact bN_goodI _
 · split at h
   · obtain ⟨u, _, h2⟩ := bind_ok h; injection h2 with h2; subst h2; exact bN_goodI _
   · split at h
     · obtain ⟨u, _, h2⟩ := bind_ok h; injection h2 with h2; subst h2; exact bN_goodI _
     · split at h
       · obtain ⟨u, _, h2⟩ := bind_ok h; injection h2 with h2; subst h2; exact bN_goodI _
       · split at h
         · obtain ⟨u, _, h2⟩ := bind_ok h; injection h2 with h2; subst h2; exact bN_goodI _
         · obtain ⟨u, _, h2⟩ := bind_ok h
           obtain ⟨u', _, h3⟩ := bind_ok h2
           split at h3
           · injection h3 with h3; subst h3; exact bN_goodI _
           · split at h3
             · injection h3 with h3; subst h3; exact bN_goodI _
             · obtain ⟨n, hn, h4⟩ := bind_ok h3; injection h4 with h4; subst h4; exact nN_goodI (numR_i hn)
theorem evE_goodI {es : List En} {q : Rq} (hes : EsI es) (hq : RqI q) : ∀ (k : Nat) (xs : List Nd) {v : List Nd}, NdI xs → evE es q k xs = .ok v → GoodI v
 | 0, xs, v, _, h => by cases h
 | k + 1, [], v, _, h => by cases h
 | k + 1, x :: body, v, hx, h => by
   have hxx : NdI [x] := hx.sub (by intro y hy; simp at hy; simp [hy])
   have hb : NdI body := hx.sub fun y hy => List.mem_cons_of_mem _ hy
   have hkid : ∀ p ∈ kidsGo body.length body, NdI p := fun p hp => hb.sub (kids_sub _ _ p hp)
   have ih := fun p v (hp : NdI p) (h : evE es q k p = .ok v) => evE_goodI hes hq k p hp h
   rw [evE] at h
   split at h
   · injection h with h; subst h; exact ⟨rfl, hxx⟩
   · split at h
     · exact named_goodI hq h
     · generalize kidsGo body.length body = ps at h hkid
       split at h
       · obtain ⟨vs, h1, h2⟩ := bind_ok h
         refine setOfP_goodI (fun p hp => ?_) h2
         obtain ⟨y, hy, e⟩ := List.mem_map.1 ((allR_ok h1).2 p hp)
         exact (ih y p (hkid y hy) e).2
       · obtain ⟨vs, h1, h2⟩ := bind_ok h
         refine recR_goodI (fun f hf => ?_) h2
         have hm := List.of_mem_zip hf
         obtain ⟨y, hy, e⟩ := List.mem_map.1 ((allR_ok h1).2 f.2 hm.2)
         exact (ih y.tail f.2 ((hkid y hy).sub fun z hz => List.mem_of_mem_tail hz) e).2
       · rename_i a h5' h6'
         obtain ⟨u, h1, h2⟩ := bind_ok h
         exact single_goodI hes (ih a u (hkid a (by simp)) h1) h2
       · rename_i a b h5' h6'
         split at h
         · unfold eitherR at h
           obtain ⟨u, h1, h2⟩ := bind_ok h
           split at h2
           · injection h2 with h2; subst h2; exact ih a _ (hkid a (by simp)) (must_ok h1).1
           · exact ih b v (hkid b (by simp)) (must_ok h2).1
         · obtain ⟨u, h1, h2⟩ := bind_ok h
           obtain ⟨u', h3, h4⟩ := bind_ok h2
           exact double_goodI h4
       · rename_i c a b h5' h6'
         unfold choiceR at h
         obtain ⟨u, h1, h2⟩ := bind_ok h
         split at h2
         · exact ih a v (hkid a (by simp)) h2
         · exact ih b v (hkid b (by simp)) h2
       · cases h
end Go.Proofs.YtpheiojmcafolaaGreatDoor
namespace Go.Proofs.YtpheiojmcafolaaGreatDoor
set_option maxRecDepth 100000
open Go.ChangeShapes Go.WideShapes Go.RowKit Go.Deep
def Reach {H : Type} (t : TypeId) (d : DataW H) : Prop := ∀ n, n ∈ d.weights Tryz.prog t → n ≤ reachBytes
theorem cells_uids : Tryz.prog.cellsOf 107 = 1 := by kernel_rfl
theorem cells_entity : Tryz.prog.cellsOf 109 = 4 := by kernel_rfl
theorem cells_request : Tryz.prog.cellsOf 39 = 7 := by kernel_rfl
section
variable {H : Type} {enc : TypeId × Value → H} {W : World}
theorem i64_wf {a : Int} (h : (Lit.int .i64 a).wf = true) : I64 a := by
 unfold Lit.wf at h
 rw [Bool.and_eq_true, decide_eq_true_eq, decide_eq_true_eq] at h
 exact h
theorem nodeI_trod {n : Nat} {cs : List Value} {y : DataW H × List MemPlace} (h : DataW.trod enc Tryz.prog W 0 (fun _ => true) true n 37 cs = some y) :
   ∃ x : Nd, cs = x.cells ∧ y.1 = ndData x ∧ I64 x.n := by
 obtain ⟨x, h1, h2⟩ := node_trod h
 refine ⟨x, h1, h2, ?_⟩
 obtain ⟨xs, m, _, hy, hlen, hxl, hf⟩ := DataW.trod_struct Tryz.underlying37 h
 subst h1
 match xs, hxl with
 | [y0, y1, y2, y3], _ =>
   have e1 : DataW.trod enc Tryz.prog W 0 (fun _ => true) true m 3 ((x.cells.drop 1).take (Tryz.prog.cellsOf 3)) = some y1 := hf 1 _ rfl
   simp only [cells_int, Nd.cells, List.drop_zero, List.drop_succ_cons, List.take_succ_cons, List.take_zero] at e1
   obtain ⟨a1, q1, r1, i1⟩ := DataW.trod_int Tryz.underlying3 e1
   simp only [List.cons.injEq, and_true, Value.int.injEq, true_and] at q1
   rw [q1]
   exact i64_wf i1
theorem nodesI_trod {n : Nat} {cs : List Value} {y : DataW H × List MemPlace} (h : DataW.trod enc Tryz.prog W 0 (fun _ => true) true n 22 cs = some y) :
   ∃ (A : Option Addr) (xs : List Nd) (c : Nat), cs = [.slice A xs.length c] ∧ xs.length ≤ c ∧ c ≤ 9223372036854775807 ∧ NdSl W W.heap.size A xs ∧ NdI xs ∧ (Reach 22 y.1 → NdOk xs) := by
 obtain ⟨A, xs, c, h1, h2, h3, h4, h5, h6⟩ := open_gen (Good := fun x : Nd => I64 x.n) Tryz.underlying22 cells_node nd_ok (fun _ _ _ h => nodeI_trod h) h
 refine ⟨A, xs, c, h1, h2, h3, h4.nds, h5, fun hr => ?_⟩
 rcases h6 with rfl | ⟨sp, h6⟩
 · intro x hx; cases hx
 · rw [h6] at hr; exact nd_weights (H := H) hr
theorem uids_trod {n : Nat} {cs : List Value} {y : DataW H × List MemPlace} (h : DataW.trod enc Tryz.prog W 0 (fun _ => true) true n 107 cs = some y) :
   ∃ (A : Option Addr) (xs : List Ud) (c : Nat), cs = [.slice A xs.length c] ∧ xs.length ≤ c ∧ c ≤ 9223372036854775807 ∧ UdSl W W.heap.size A xs ∧ (Reach 107 y.1 → ∀ u ∈ xs, UdOk u) := by
 obtain ⟨A, xs, c, h1, h2, h3, h4, _, h6⟩ := open_gen (en := udC) (Good := fun _ => True) Tryz.underlying107 cells_uid udC_ok (fun _ _ _ h => by obtain ⟨u, h1, h2⟩ := uid_trod h; exact ⟨u, h1, h2, trivial⟩) h
 refine ⟨A, xs, c, h1, h2, h3, h4, fun hr u hu => ?_⟩
 rcases h6 with rfl | ⟨sp, h6⟩
 · cases hu
 · rw [h6] at hr
   exact ud_weights (H := H) fun n hn => hr n (slice_weights Tryz.underlying107 (List.mem_map_of_mem hu) hn)
def EnR (W : World) (x : Eh × En) (d : DataW H) : Prop :=
 EhOk W W.heap.size x.1 x.2 ∧ NdI x.2.at_ ∧ (Reach 109 d → UdOk x.2.u ∧ (∀ p ∈ x.2.up, UdOk p) ∧ NdOk x.2.at_)
theorem entity_trod {n : Nat} {cs : List Value} {y : DataW H × List MemPlace} (h : DataW.trod enc Tryz.prog W 0 (fun _ => true) true n 109 cs = some y) :
   ∃ x : Eh × En, cs = ehC x.1 ∧ EnR W x y.1 := by
 obtain ⟨xs, m, _, hy, hlen, hxl, hf⟩ := DataW.trod_struct Tryz.underlying109 h
 rw [cells_entity] at hlen
 match cs, hlen with
 | [c0, c1, c2, c3], _ =>
   match xs, hxl with
   | [y0, y1, y2], _ =>
     have e0 : DataW.trod enc Tryz.prog W 0 (fun _ => true) true m 34 (([c0, c1, c2, c3].drop 0).take (Tryz.prog.cellsOf 34)) = some y0 := hf 0 _ rfl
     have e1 : DataW.trod enc Tryz.prog W 0 (fun _ => true) true m 107 (([c0, c1, c2, c3].drop 2).take (Tryz.prog.cellsOf 107)) = some y1 := hf 1 _ rfl
     have e2 : DataW.trod enc Tryz.prog W 0 (fun _ => true) true m 22 (([c0, c1, c2, c3].drop 3).take (Tryz.prog.cellsOf 22)) = some y2 := hf 2 _ rfl
     simp only [cells_uid, cells_uids, cells_nodes, List.drop_zero, List.drop_succ_cons, List.take_succ_cons, List.take_zero] at e0 e1 e2
     obtain ⟨u, q0, r0⟩ := uid_trod e0
     obtain ⟨A1, up, c1', q1, l1, m1, s1, z1⟩ := uids_trod e1
     obtain ⟨A2, at_, c2', q2, l2, m2, s2, i2, z2⟩ := nodesI_trod e2
     simp only [List.cons.injEq, and_true] at q0 q1 q2
     obtain ⟨q0, q0'⟩ := q0
     subst q0 q0' q1 q2
     refine ⟨(⟨u, A1, up.length, c1', A2, at_.length, c2'⟩, ⟨u, up, at_⟩), rfl, ⟨rfl, rfl, ⟨l1, m1⟩, s1, rfl, ⟨l2, m2⟩, s2⟩, i2, fun hr => ?_⟩
     have hd : y.1 = .agg [y0.1, y1.1, y2.1] := by rw [hy]; rfl
     rw [hd] at hr
     have g : ∀ {j : Nat} {t : TypeId} {d : DataW H}, [34, 107, 22][j]? = some t → [y0.1, y1.1, y2.1][j]? = some d → Reach t d := fun ht hd n hn => hr n (by simp only [DataW.weights, Tryz.underlying109]; exact DataW.weights_mem_each ht hd n hn)
     refine ⟨ud_weights (H := H) (by rw [← r0]; exact g (j := 0) rfl rfl), z1 (g (j := 1) rfl rfl), z2 (g (j := 2) rfl rfl)⟩
theorem eh2_ok : EncOk (fun x : Eh × En => ehC x.1) 4 := ⟨fun x => ehC_ok.len x.1, ehC_ok.pos, fun x u hu => ehC_ok.one x.1 u hu⟩
theorem open_ents {b0 : Nat} {v : Value} {d : DataW H} {p : List MemPlace} (hv : Value.okWide Tryz.prog W .any b0 42 v) (h : DataW.Trod enc Tryz.prog W 0 (fun _ => true) true 42 v d p) :
   ∃ (A : Option Addr) (hs : List Eh) (es : List En) (c : Nat), v = .slice A hs.length c ∧ hs.length ≤ c ∧ c ≤ 9223372036854775807 ∧ (∀ e ∈ es, NdI e.at_) ∧ (Reach 42 d → EntsIn W A hs es) := by
 obtain ⟨a0, len, cap, rfl⟩ := okWide_slice Tryz.underlying42 hv
 obtain ⟨fuel, hf⟩ := h
 obtain ⟨A, xs, c, q1, h1, h2, h3, h4⟩ := open_rel (R := EnR W) Tryz.underlying42 cells_entity eh2_ok (fun _ _ _ h => entity_trod h) hf
 simp only [Value.cells, List.cons.injEq, and_true] at q1
 have hr : ∀ x ∈ xs, ∃ d' : DataW H, EnR W x d' ∧ (Reach 42 d → Reach 109 d') := fun x hx => by
   rcases h4 with rfl | ⟨sp, ds, hd, h5⟩
   · cases hx
   · obtain ⟨d', hd', hR⟩ := h5 x hx
     refine ⟨d', hR, fun hr n hn => hr n ?_⟩
     rw [show d = DataW.slice ds sp from hd]
     exact slice_weights Tryz.underlying42 hd' hn
 refine ⟨A, xs.map Prod.fst, xs.map Prod.snd, c, by rw [q1, List.length_map], by simpa using h1, h2, fun e he => ?_, fun hR => ⟨?_, ⟨by simp, fun i a b ha hb => ?_⟩, fun e he => ?_, fun e he => ?_, fun e he => ?_⟩⟩
 · obtain ⟨x, hx, rfl⟩ := List.mem_map.1 he
   obtain ⟨d', hd', _⟩ := hr x hx
   exact hd'.2.1
 · intro hne
   obtain ⟨b, o, e, hb, hc⟩ := h3 (by intro hc; apply hne; rw [hc]; rfl)
   refine ⟨b, o, e, hb, fun i x hx => ?_⟩
   rw [List.getElem?_map] at hx
   obtain ⟨z, hz, rfl⟩ := Option.map_eq_some_iff.1 hx
   exact hc i z hz
 · rw [List.getElem?_map] at ha hb
   obtain ⟨z, hz, rfl⟩ := Option.map_eq_some_iff.1 ha
   rw [hz] at hb
   obtain rfl : z.2 = b := by simpa using hb
   obtain ⟨d', hd', _⟩ := hr z (List.mem_of_getElem? hz)
   exact hd'.1
 all_goals
   obtain ⟨x, hx, rfl⟩ := List.mem_map.1 he
   obtain ⟨d', hd', hw⟩ := hr x hx
   have := hd'.2.2 (hw hR)
 · exact this.1
 · exact this.2.1
 · exact this.2.2
theorem open_request {b0 : Nat} {v : Value} {d : DataW H} {p : List MemPlace} (hv : Value.okWide Tryz.prog W .any b0 39 v) (h : DataW.Trod enc Tryz.prog W 0 (fun _ => true) true 39 v d p) :
   ∃ (q : Rq) (A : Option Addr) (c : Nat), v = .agg #[.string q.who.ty, .string q.who.id, .string q.act.ty, .string q.act.id, .string q.what.ty, .string q.what.id, .slice A q.ctx.length c] ∧ q.ctx.length ≤ c ∧ c ≤ 9223372036854775807 ∧ NdSl W W.heap.size A q.ctx ∧ NdI q.ctx ∧
     (Reach 39 d → UdOk q.who ∧ UdOk q.act ∧ UdOk q.what ∧ NdOk q.ctx) := by
 obtain ⟨cs, rfl, hsz⟩ := okWide_struct Tryz.underlying39 hv
 obtain ⟨cs⟩ := cs
 obtain ⟨fuel, hf⟩ := h
 obtain ⟨xs, m, _, hy, hlen, hxl, hf⟩ := DataW.trod_struct Tryz.underlying39 hf
 rw [cells_request] at hlen
 simp only [Value.cells] at hlen hf
 match cs, hlen with
 | [c0, c1, c2, c3, c4, c5, c6], _ =>
   match xs, hxl with
   | [y0, y1, y2, y3], _ =>
     have e0 : DataW.trod enc Tryz.prog W 0 (fun _ => true) true m 34 (([c0, c1, c2, c3, c4, c5, c6].drop 0).take (Tryz.prog.cellsOf 34)) = some y0 := hf 0 _ rfl
     have e1 : DataW.trod enc Tryz.prog W 0 (fun _ => true) true m 34 (([c0, c1, c2, c3, c4, c5, c6].drop 2).take (Tryz.prog.cellsOf 34)) = some y1 := hf 1 _ rfl
     have e2 : DataW.trod enc Tryz.prog W 0 (fun _ => true) true m 34 (([c0, c1, c2, c3, c4, c5, c6].drop 4).take (Tryz.prog.cellsOf 34)) = some y2 := hf 2 _ rfl
     have e3 : DataW.trod enc Tryz.prog W 0 (fun _ => true) true m 22 (([c0, c1, c2, c3, c4, c5, c6].drop 6).take (Tryz.prog.cellsOf 22)) = some y3 := hf 3 _ rfl
     simp only [cells_uid, cells_nodes, List.drop_zero, List.drop_succ_cons, List.take_succ_cons, List.take_zero] at e0 e1 e2 e3
     obtain ⟨u0, q0, r0⟩ := uid_trod e0
     obtain ⟨u1, q1, r1⟩ := uid_trod e1
     obtain ⟨u2, q2, r2⟩ := uid_trod e2
     obtain ⟨A, ctx, c, q3, l3, m3, s3, i3, z3⟩ := nodesI_trod e3
     simp only [List.cons.injEq, and_true] at q0 q1 q2 q3
     obtain ⟨q0, q0'⟩ := q0
     obtain ⟨q1, q1'⟩ := q1
     obtain ⟨q2, q2'⟩ := q2
     subst q0 q0' q1 q1' q2 q2' q3
     refine ⟨⟨u0, u1, u2, ctx⟩, A, c, rfl, l3, m3, s3, i3, fun hr => ?_⟩
     have hd : d = .agg [y0.1, y1.1, y2.1, y3.1] := (Prod.ext_iff.1 hy).1
     rw [hd] at hr
     have g : ∀ {j : Nat} {t : TypeId} {d : DataW H}, [34, 34, 34, 22][j]? = some t → [y0.1, y1.1, y2.1, y3.1][j]? = some d → Reach t d := fun ht hd n hn => hr n (by simp only [DataW.weights, Tryz.underlying39]; exact DataW.weights_mem_each ht hd n hn)
     exact ⟨ud_weights (H := H) (by rw [← r0]; exact g (j := 0) rfl rfl), ud_weights (H := H) (by rw [← r1]; exact g (j := 1) rfl rfl), ud_weights (H := H) (by rw [← r2]; exact g (j := 2) rfl rfl), z3 (g (j := 3) rfl rfl)⟩
theorem ents_rec : Tryz.prog.readableRec 42 = true := by kernel_rfl
theorem ents_lt : 42 < Tryz.prog.types.size := of_decide_eq_true (by kernel_rfl)
theorem request_rec : Tryz.prog.readableRec 39 = true := by kernel_rfl
theorem request_lt : 39 < Tryz.prog.types.size := of_decide_eq_true (by kernel_rfl)
end
end Go.Proofs.YtpheiojmcafolaaGreatDoor
