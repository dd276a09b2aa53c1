/-
 THE WALKS: val.compare, CompareFunc, val.order, and that the draws go on.
 THE WALKS: the closure that compares two pieces by their names; the pieces sorted by it.
 THE WALKS: tree.Skip, tree.End.
 THE WALK: slices.Concat of lists of nodes.
 THE WALKS: (move.mover).part, at a node that is neither a record nor a set of a value.
 THE WALKS: (move.mover).part, at a record.
-/
import Derived.Test.YtpheiojmcafolaaGreatDoorSy01
import Derived.Sort.Grow
import Derived.Test.YtpheiojmcafolaaGreatDoorSy10
import Derived.Test.YtpheiojmcafolaaGreatDoorSy02
import Derived.Deep.QuietTactic
import Derived.BigQuiet
import Derived.Test.YtpheiojmcafolaaGreatDoorSy08
import Derived.Lib.Hide
import Derived.Test.YtpheiojmcafolaaGreatDoorSy03
import Derived.Test.YtpheiojmcafolaaGreatDoorSy06
import Derived.StillTailTactics
namespace Go.Proofs.YtpheiojmcafolaaGreatDoor
open Go.RowKit
theorem grown_of_below {w w' : World} (h : RowKit.Below w.heap.size w w') (hd : w.drawn ≤ w'.drawn) : ∃ q os', w' = Sort.grow (w.drewN q) os' := by
 refine ⟨w'.drawn - w.drawn, w'.heap.extract w.heap.size w'.heap.size, ?_⟩;have e1 : w.heap ++ w'.heap.extract w.heap.size w'.heap.size = w'.heap := by
  apply Array.ext_getElem?;intro k;by_cases hk : k < w.heap.size
  · rw [Array.getElem?_append_left hk]; exact (h.block k hk).symm
  · rw [Array.getElem?_append_right (by omega)];by_cases hk2 : k < w'.heap.size
    · rw [Array.getElem?_extract];rw [if_pos (by omega)];congr 1; omega
    · rw [Array.getElem?_eq_none (by simp; omega), Array.getElem?_eq_none (by omega)]
 have e2 : (w.drewN (w'.drawn - w.drawn)).drawn = w'.drawn := by show w.drawn + (w'.drawn - w.drawn) = _; omega
 cases w' with
 | mk heap tape drawn os output =>
  have := h.os;have := h.tape;have := h.output;simp only at *;unfold Sort.grow;rw [show (w.drewN (drawn - w.drawn)).heap = w.heap from rfl, e1];congr
  · exact e2.symm
set_option maxHeartbeats 800000 in
theorem val_compareD (x y : Nd) (w : World) :
 Calls Tryz.prog 160 #[.agg #[.int .i64 x.op, .int .i64 x.n, .string x.s, .string x.t], .agg #[.int .i64 y.op, .int .i64 y.n, .string y.s, .string y.t]] w fun e w' => e = .returned (.int .i64 (ndCmp x y)) ∧ Below w.heap.size w w' ∧ w.drawn ≤ w'.drawn := by
 go_enter Tryz.func160, Tryz.ntmps160
 go_wp2_with fail
 go_region_held3 (fun w' => w'.cell? ⟨w.heap.size, 0, none⟩ = some (.int .i64 x.op) ∧ w'.cell? ⟨w.heap.size, 1, none⟩ = some (.int .i64 x.n) ∧ w'.cell? ⟨w.heap.size, 2, none⟩ = some (.string x.s) ∧ w'.cell? ⟨w.heap.size, 3, none⟩ = some (.string x.t) ∧ w'.cell? ⟨w.heap.size + 1, 0, none⟩ = some (.int .i64 y.op) ∧ w'.cell? ⟨w.heap.size + 1, 1, none⟩ = some (.int .i64 y.n) ∧ w'.cell? ⟨w.heap.size + 1, 2, none⟩ = some (.string y.s) ∧ w'.cell? ⟨w.heap.size + 1, 3, none⟩ = some (.string y.t)) (simp [go_sem, World.cell?_alloc_past])
  (first
   | (go_at_call 183; refine (cmp_Compare _ _ _).mono ?_; rintro e w' ⟨rfl, rfl⟩)
   | (go_at_call 134; refine (Tryz.strings_Compare _ _ _).mono ?_; rintro e w' ⟨rfl, rfl⟩)
   | (go_at_call 182; refine (cmp_Or4 _ _ (cmpI x.op y.op) (cmpI x.n y.n) (Lib.compareBytes x.s.data.toList y.s.data.toList) (Lib.compareBytes x.t.data.toList y.t.data.toList) _ (by simp [go_sem]) (by simp [go_sem]) (by simp [go_sem]) (by simp [go_sem])).mono ?_; rintro e w' ⟨rfl, rfl⟩))
 all_goals go_wp2
 all_goals go_ret
 all_goals exact ⟨rfl, by (repeat (first | assumption | exact Below.refl _ _ | apply Below.drew | apply below_drewN | (refine Below.alloc ?_ (by first | exact Nat.le_refl _ | omega | (simp; done) | (simp; omega)) _))), by simp; try omega⟩
end Go.Proofs.YtpheiojmcafolaaGreatDoor
namespace Go.Proofs.YtpheiojmcafolaaGreatDoor
open Go.RowKit
set_option maxHeartbeats 800000 in
theorem CompareFuncD (A1 A2 : Option Addr) (c1 c2 : Nat) (xs ys : List Nd) (w : World) (h1 : NdSl w w.heap.size A1 xs) (h2 : NdSl w w.heap.size A2 ys) (l1 : xs.length ≤ 9223372036854775807) (l2 : ys.length ≤ 9223372036854775807) :
 Calls Tryz.prog 159 #[.slice A1 xs.length c1, .slice A2 ys.length c2, .func (.func 160) #[] #[]] w fun e w' => e = .returned (.int .i64 (ndsCmp xs ys)) ∧ Below w.heap.size w w' ∧ w.drawn ≤ w'.drawn := by
 have H1 := Lib.hid h1;have H2 := Lib.hid h2;clear h1 h2;go_enter Tryz.func159, Tryz.ntmps159
 go_wp2_with fail
 go_loopw [13] (fun i wr => ∃ k : Nat, k ≤ xs.length ∧ k ≤ ys.length ∧ i = .int .i64 k ∧ Hid (ndsCmp xs ys = ndsCmp (xs.drop k) (ys.drop k)) ∧ Below w.heap.size w wr ∧ w.drawn ≤ wr.drawn) (fun i _ => xs.length - (intOf i).toNat)
 case atStart => exact ⟨0, by omega, by omega, rfl, rfl, Below.refl _ _, Nat.le_refl _⟩
 case round =>
  obtain ⟨k, hk, hk2, rfl, HK, hbel, hdr⟩ := hrel;have hwr := hbel.size;by_cases hlt : k < xs.length
  · obtain ⟨b, o, rfl, hbl, hc⟩ := (H1.out.below hbel).at_ hlt;obtain ⟨x, hx⟩ : ∃ x, xs[k]? = some x := ⟨_, List.getElem?_eq_getElem hlt⟩;obtain ⟨d0, d1, d2, d3⟩ := hc k x hx;have HX : Hid (xs.drop k = x :: xs.drop (k + 1)) := by
     show _ = _;rw [List.drop_eq_getElem_cons hlt]; rw [List.getElem?_eq_getElem hlt] at hx; injection hx with hx; rw [hx]
    clear hc hx;by_cases hlt2 : k < ys.length
    · obtain ⟨b2, o2, rfl, hbl2, hc⟩ := (H2.out.below hbel).at_ hlt2;obtain ⟨y, hy⟩ : ∃ y, ys[k]? = some y := ⟨_, List.getElem?_eq_getElem hlt2⟩;obtain ⟨e0, e1, e2, e3⟩ := hc k y hy;have HY : Hid (ys.drop k = y :: ys.drop (k + 1)) := by
       show _ = _;rw [List.drop_eq_getElem_cons hlt2]; rw [List.getElem?_eq_getElem hlt2] at hy; injection hy with hy; rw [hy]
      clear hc hy;have hwr := hbel.size;have g1 : b < wr.heap.size := (by omega);have g2 : b2 < wr.heap.size := (by omega);go_wp2_with (go_at_call 160; refine (val_compareD x y _).mono ?_; rintro e w1 ⟨rfl, hb1, hd1⟩)
      · go_ret
        have hne : (ndCmp x y != 0) = true := (by assumption);have hne' : ¬ ndCmp x y = 0 := (by simpa using hne);exact ⟨ret_int (by rw [HK.out, HX.out, HY.out, ndsCmp, if_neg hne']), hbel.trans ((by (repeat (first | assumption | exact Below.refl _ _ | apply Below.drew | apply below_drewN | (refine Below.alloc ?_ (by first | exact Nat.le_refl _ | omega | (simp; done) | (simp; omega)) _))) : Below w.heap.size wr _).trans (hb1.mono (by simp; omega))), by simp at hd1; omega⟩
      · have hne : (ndCmp x y != 0) = false := (by assumption);have hne' : ndCmp x y = 0 := (by simpa using hne);go_roundw
        case rel => exact ⟨k + 1, by omega, by omega, by go_num, by rw [Hid, HK.out, HX.out, HY.out, ndsCmp, if_pos hne'], hbel.trans ((by (repeat (first | assumption | exact Below.refl _ _ | apply Below.drew | apply below_drewN | (refine Below.alloc ?_ (by first | exact Nat.le_refl _ | omega | (simp; done) | (simp; omega)) _))) : Below w.heap.size wr _).trans (hb1.mono (by simp; omega))), by simp at hd1; omega⟩
        case measure => simp [intOf]; omega
    · have HY : Hid (ys.drop k = []) := List.drop_eq_nil_of_le (by omega);go_wp2_with fail
      go_ret
      exact ⟨ret_int (by rw [HK.out, HX.out, HY.out]; rfl), hbel.trans (by (repeat (first | assumption | exact Below.refl _ _ | apply Below.drew | apply below_drewN | (refine Below.alloc ?_ (by first | exact Nat.le_refl _ | omega | (simp; done) | (simp; omega)) _)))), by simpa using hdr⟩
  · have HX : Hid (xs.drop k = []) := List.drop_eq_nil_of_le (by omega);by_cases hl : xs.length < ys.length
    · have HY : Hid (∃ y l, ys.drop k = y :: l) := ⟨_, _, List.drop_eq_getElem_cons (by omega)⟩;go_wp2_with fail
      go_ret
      obtain ⟨y, l, hyl⟩ := HY.out;exact ⟨ret_int (by rw [HK.out, HX.out, hyl]; rfl), hbel, hdr⟩
    · have HY : Hid (ys.drop k = []) := List.drop_eq_nil_of_le (by omega);go_wp2_with fail
      go_ret
      exact ⟨ret_int (by rw [HK.out, HX.out, HY.out]; rfl), hbel, hdr⟩
set_option maxHeartbeats 400000 in
theorem val_orderD (A1 A2 : Option Addr) (c1 c2 : Nat) (xs ys : List Nd) (w : World) (h1 : NdSl w w.heap.size A1 xs) (h2 : NdSl w w.heap.size A2 ys) (l1 : xs.length ≤ 9223372036854775807) (l2 : ys.length ≤ 9223372036854775807) :
 Calls Tryz.prog 130 #[.slice A1 xs.length c1, .slice A2 ys.length c2] w fun e w' => e = .returned (.int .i64 (ndsCmp xs ys)) ∧ Below w.heap.size w w' ∧ w.drawn ≤ w'.drawn := by
 have H1 := Lib.hid h1;have H2 := Lib.hid h2;clear h1 h2;go_enter Tryz.func130, Tryz.ntmps130
 go_wp2_with (go_at_call 159; refine (CompareFuncD A1 A2 c1 c2 xs ys _ H1.out H2.out l1 l2).mono ?_; rintro e w1 ⟨rfl, hb1, hd1⟩)
 go_ret
 exact ⟨rfl, hb1, hd1⟩
end Go.Proofs.YtpheiojmcafolaaGreatDoor
namespace Go.Proofs.YtpheiojmcafolaaGreatDoor
open Go.RowKit Go.Sort
def nmCmp (a b : List Nd) : Int := Lib.compareBytes (headS a).toList (headS b).toList
theorem grow_same {w : World} {n : Nat} : ∃ q os', w.drewN n = grow (w.drewN q) os' := ⟨n, #[], by simp⟩
set_option maxRecDepth 100000 in
set_option maxHeartbeats 1600000 in
theorem part1_cmp (x y : NsM) (W : World) (hx : x.e ≠ []) (hy : y.e ≠ []) (gx : NsGood W W.heap.size x) (gy : NsGood W W.heap.size y) :
 Calls Tryz.prog 133 #[.slice x.A x.e.length x.c, .slice y.A y.e.length y.c] W fun r w' => r = .returned (.int .i64 (nmCmp x.e y.e)) ∧ ∃ q os', w' = grow (W.drewN q) os' := by
 obtain ⟨A1, c1, e1⟩ := x;obtain ⟨A2, c2, e2⟩ := y;obtain ⟨x, xs, rfl⟩ := List.exists_cons_of_ne_nil hx;obtain ⟨y, ys, rfl⟩ := List.exists_cons_of_ne_nil hy;obtain ⟨b1, o1, h1, hb1, hc1⟩ := gx.sl hx;obtain ⟨b2, o2, h2, hb2, hc2⟩ := gy.sl hy;simp only at h1 h2;subst h1 h2;have l1 := gx.le;have l2 := gy.le;have m1 := gx.max;have m2 := gy.max;obtain ⟨-, -, d1, -⟩ := hc1 0 x rfl;obtain ⟨-, -, d2, -⟩ := hc2 0 y rfl;rw [Nat.zero_mul, Nat.add_zero] at d1 d2;simp only [List.length_cons] at l1 l2 m1 m2 ⊢;have i1 : (0 : Int) < ((xs.length + 1 : Nat) : Int) := by omega
 have i2 : (0 : Int) < ((ys.length + 1 : Nat) : Int) := by omega
 have HV : Hid (nmCmp (x :: xs) (y :: ys) = Lib.compareBytes x.s.data.toList y.s.data.toList) := by
  show _ = _;unfold nmCmp; rw [headS_cons, headS_cons, ByteArray.toList_eq, ByteArray.toList_eq]
 clear hc1 hc2 gx gy hx hy;generalize xs.length + 1 = n1 at *;generalize ys.length + 1 = n2 at *;generalize nmCmp (x :: xs) (y :: ys) = v at *;go_enter Tryz.func133, Tryz.ntmps133
 go_wp2_with fail
 go_quiet ((go_at_call 134; exact Calls.quiet_of_same (Tryz.strings_Compare _ _ _)))
 go_wp2_with fail
 go_ret
 rw [HV.out];exact ⟨rfl, grow_same⟩
end Go.Proofs.YtpheiojmcafolaaGreatDoor
namespace Go.Proofs.YtpheiojmcafolaaGreatDoor
open Go.RowKit
set_option maxHeartbeats 1600000 in
theorem tree_Skip (e : List Nd) (A : Option Addr) (c i r : Nat) (w : World) (hlen : e.length ≤ 200) (hsl : NdSl w w.heap.size A e) (hpar : ∀ x ∈ e, 0 ≤ ndParts x ∧ ndParts x ≤ 200) (hsk : skP (e.drop i) 1 i = some r) (hi : i ≤ e.length) :
 Calls Tryz.prog 131 #[.slice A e.length c, .int .i64 i] w fun q w' => q = .returned (.int .i64 r) ∧ Below w.heap.size w w' := by
 have HS := Lib.hid hsl;have HP := Lib.hid hpar;have HK := Lib.hid hsk;clear hsl hpar hsk;go_enter Tryz.func131, Tryz.ntmps131
 go_wp2_with fail
 go_loopw [1, 5] (fun at_ left wr => ∃ (a : Nat) (lf : Int), at_ = .int .i64 a ∧ left = .int .i64 lf ∧ i ≤ a ∧ a ≤ e.length ∧ 0 ≤ lf ∧ lf ≤ 1 + 200 * (a : Int) ∧ Hid (skP (e.drop a) lf a = some r) ∧ Below w.heap.size w wr)
  (fun at_ _ _ => e.length - (intOf at_).toNat)
 case atStart => exact ⟨i, 1, rfl, rfl, by omega, hi, by omega, by omega, HK, Below.refl _ _⟩
 case round =>
  obtain ⟨a, lf, rfl, rfl, hia, hal, hlf, hlb, HQ, hbr⟩ := hrel;have hzr := hbr.size;by_cases hpos : 0 < lf
  · have hal2 : a < e.length := by
     rcases Nat.lt_or_ge a e.length with h | h
     · exact h
     · have := HQ.out; rw [List.drop_eq_nil_of_le h] at this; simp [skP] at this; omega
    obtain ⟨b, o, rfl, hb, hcs⟩ := (HS.out.below hbr).at_ hal2;obtain ⟨x, hx⟩ : ∃ x, e[a]? = some x := ⟨_, List.getElem?_eq_getElem hal2⟩;obtain ⟨d0, d1, d2, d3⟩ := hcs a x hx;obtain ⟨hp0, hp1⟩ := HP.out x (List.mem_of_getElem? hx);obtain ⟨p, hp⟩ : ∃ p, ndParts x = p := ⟨_, rfl⟩;rw [hp] at hp0 hp1;have HQ2 : Hid (skP (e.drop (a + 1)) (lf + p - 1) (a + 1) = some r) := by
     have := HQ.out; rw [skP_step hx hpos, hp] at this; exact this
    have htp : ∀ W, Calls Tryz.prog 106 #[.agg #[.int .i64 x.op, .int .i64 x.n, .string x.s, .string x.t]] W fun e w' => e = .returned (.int .i64 p) ∧ Below W.heap.size W w' := fun W => by
     rw [← hp]; exact tree_parts x.op x.n x.s x.t W
    have HTP := Lib.hid htp;clear hcs hx htp hp;go_wp2_with (go_at_call 106; refine (HTP.out _).mono ?_; rintro q w1 ⟨rfl, hb1⟩)
    go_roundw
    case rel => exact ⟨a + 1, lf + p - 1, by go_num, rfl, by omega, by omega, by omega, by omega, HQ2, hbr.trans (hb1.mono hbr.size)⟩
    case measure => simp [intOf]; omega
  · obtain rfl : lf = 0 := (by omega);have HE : Hid (a = r) := (by have := HQ.out; rw [skP_done] at this; injection this);go_wp2_with fail
    go_ret
    exact ⟨ret_int (by rw [HE.out]), hbr⟩
end Go.Proofs.YtpheiojmcafolaaGreatDoor
namespace Go.Proofs.YtpheiojmcafolaaGreatDoor
open Go.RowKit Go.Sort Go.Shelf
theorem grow_nil (n : Nat) (w : World) (h0 : 0 < n) (hn : n ≤ 1000) : Calls Tryz.prog 167 #[.slice none 0 0, .int .i64 n] w fun r w' =>
 ∃ v, r = .returned v ∧ w'.ownsRow w.heap.size 37 4 v 0 [] ∧ RowKit.Below w.heap.size w w' := by
 obtain ⟨j0, hj, hy0, hy1, hy2⟩ := info_parts nd_info;refine (Any8.slices_Grow_grow Tryz.growN j0 _ hj hy0 (by omega) none 0 0 n [] w (Nat.le_refl _) (by omega) (by rw [hy2]; omega) (by omega) (by simp) (fun _ => rfl) (fun a h => by cases h)).mono ?_;rintro r w' ⟨rfl, rfl⟩;refine ⟨_, rfl, ?_, by (repeat (first | assumption | exact Below.refl _ _ | apply Below.drew | apply below_drewN | (refine Below.alloc ?_ (by first | exact Nat.le_refl _ | omega | (simp; done) | (simp; omega)) _)))⟩;have hG : n ≤ grownCap w (0 + n) 0 37 := by have := grownCap_ge w (0 + n) 0 37; omega
 have hG2 := grownCap_le_maxLen w (0 + n) 0 37 (by unfold maxLen; omega);have hz : ∀ k, (Builtin.zeroCells (Value.cells (.agg #[.int .i64 0, .int .i64 0, .string ⟨#[]⟩, .string ⟨#[]⟩])) k).size = k * 4 := fun k => by unfold Builtin.zeroCells; simp [Value.cells]
 exact World.ownsRow_made w.drew _ _ (Nat.le_refl _) hG2 (by rw [Array.size_append, Array.size_append, hz, hz]; simp only [List.size_toArray, List.length_nil]; have hG' : n ≤ grownCap w (0 + n) 0 (Tryz.growN_ren.t 25) := hG; omega)
theorem grow_zero (w : World) : Calls Tryz.prog 167 #[.slice none 0 0, .int .i64 0] w fun r w' =>
 ∃ v, r = .returned v ∧ w'.ownsRow w.heap.size 37 4 v 0 [] ∧ RowKit.Below w.heap.size w w' := by
 refine (Any8.slices_Grow_room Tryz.growN none 0 0 0 w (Nat.le_refl _) (by omega) (by omega) (Nat.le_refl _)).mono ?_;rintro r w' ⟨rfl, rfl⟩;exact ⟨_, rfl, World.ownsRow_nil _ _ _ _, RowKit.Below.refl _ _⟩
theorem grow_any (n : Nat) (w : World) (hn : n ≤ 1000) : Calls Tryz.prog 167 #[.slice none 0 0, .int .i64 n] w fun r w' =>
 ∃ v, r = .returned v ∧ w'.ownsRow w.heap.size 37 4 v 0 [] ∧ RowKit.Below w.heap.size w w' := by
 by_cases h : n = 0
 · subst h; exact grow_zero w
 · exact grow_nil n w (by omega) hn
set_option maxRecDepth 100000 in
set_option maxHeartbeats 3200000 in
theorem concat_nodes (ps : List NsM) (A : Option Addr) (c : Nat) (w : World) (hs : NssAt w A ps) (hne : ∀ p ∈ ps, p.e ≠ []) (hl : (catN ps).length ≤ 1000) (hp : ps.length ≤ 1000) :
 Calls Tryz.prog 137 #[.slice A ps.length c] w fun r w' => NdsNew w r w' (catN ps) := by
 obtain ⟨j0, hj, hy0, hy1, hy2⟩ := info_parts nd_info;have HS := Lib.hid hs;have HN := Lib.hid hne;clear hs hne;go_enter Tryz.func137, Tryz.ntmps137
 go_wp2_with fail
 go_loop [11, 3] (fun kk sz => ∃ (k : Nat) (s : Nat), kk = .int .i64 k ∧ sz = .int .i64 s ∧ k ≤ ps.length ∧ Hid (s = (catN (ps.take k)).length)) (fun kk _ => ps.length - (intOf kk).toNat)
 case atStart => exact ⟨0, 0, rfl, rfl, by omega, rfl⟩
 case round =>
  obtain ⟨k, s, rfl, rfl, hk, HSZ⟩ := hrel;have hsz : s ≤ 1000 := by have := catN_le (ps := ps) k; have := HSZ.out; omega
  by_cases hlt : k < ps.length
  · obtain ⟨⟨Ap, cp, e⟩, hx⟩ : ∃ p, ps[k]? = some p := ⟨_, List.getElem?_eq_getElem hlt⟩;have HST := Lib.hid (catN_step hx);have h2 := catN_le (ps := ps) (k + 1);have hel : s + e.length ≤ 1000 := by
     have h3 := congrArg List.length HST.out;rw [List.length_append] at h3;have h4 := HSZ.out;simp only at h3;omega
    obtain ⟨b, o, rfl, hb, hc0⟩ := nsSl_at HS.out.sl hx;simp only at hc0;have HS2 : Hid (s + e.length = (catN (ps.take (k + 1))).length) := by
     show _ = _;rw [HST.out, List.length_append, HSZ.out]
    clear hx h2;go_wp2_with fail
    exact ⟨⟨k + 1, s + e.length, by go_num, by go_num, by omega, HS2⟩, by simp [intOf]; omega⟩
  · have HE : Hid (s = (catN ps).length) := by
     have := HSZ.out;rw [List.take_of_length_le (by omega)] at this;exact this
    go_wp2_with fail
    refine (grow_any s w hsz).mono ?_;rintro r w1 ⟨v, rfl, hown, hb1⟩;have HO := Lib.hid hown;have HS1 := Lib.hid (HS.out.later hb1);have hz1 := hb1.size;clear hown;go_wp2_with fail
    go_loopw [27, 6] (fun kk vv wr => ∃ q : Nat, kk = .int .i64 q ∧ q ≤ ps.length ∧ Hid (wr.ownsRow w.heap.size 37 4 vv (catN (ps.take q)).length (flat (catN (ps.take q)))) ∧ RowKit.Below w.heap.size w wr) (fun kk _ _ => ps.length - (intOf kk).toNat)
    case atStart => exact ⟨0, rfl, by omega, by simpa [catN, flat, Hid] using HO.out, hb1⟩
    case round =>
     obtain ⟨q, rfl, hq, HOq, hbr⟩ := hrel;have hzr := hbr.size;by_cases hlq : q < ps.length
     · obtain ⟨⟨Ap, cp, e⟩, hx⟩ : ∃ p, ps[q]? = some p := ⟨_, List.getElem?_eq_getElem hlq⟩;have HST := Lib.hid (catN_step hx);have h1 := catN_le (ps := ps) q;have h2 := catN_le (ps := ps) (q + 1);rw [HST.out, List.length_append] at h2;have hee := HN.out _ (List.mem_of_getElem? hx);have hg := (HS.out.good _ (List.mem_of_getElem? hx)).later hbr;obtain ⟨b, o, rfl, hb, hc0⟩ := nsSl_at (HS.out.later hbr).sl hx;simp only at hc0 hee h2;obtain ⟨bn, on, rfl, hbn, -⟩ := hg.sl hee;have HC := Lib.hid (fun j u hu => NdSl.flat hg.sl j u hu);generalize catN (ps.take q) = L at HOq HST h1 h2;clear hg hx hee;go_wp2_with (at_builtin; refine wpList_append_own _ rfl (.tmp 31) (.tmp 32) 22 rfl w.heap.size 37 j0 _ 4 48 Tryz.underlying22 hj hy0 hy1 hy2 rfl (by omega) _ L.length (flat L) rfl HOq.out ⟨bn, on, none⟩ e.length cp (flat e) rfl (flat_len e) HC.out (flat_one_cell e) (by unfold maxLen; omega) (by omega) (by omega) ?_; intro v1 w2 hown1 hgrow1 _)
       have hb2 : RowKit.Below w.heap.size w w2 := hbr.grown hgrow1 hbr.size (fun q hq => (HOq.out.lt q hq).1);have HO2 : Hid (w2.ownsRow w.heap.size 37 4 v1 (catN (ps.take (q + 1))).length (flat (catN (ps.take (q + 1))))) := by
        show World.ownsRow _ _ _ _ _ _ _;rw [HST.out, flat_append, List.length_append];exact hown1
       exact ⟨⟨q + 1, by go_num, by omega, HO2, hb2⟩, by simp [intOf]; omega⟩
     · have HT : Hid (ps.take q = ps) := (by show _ = _; rw [List.take_of_length_le (by omega)]);rw [HT.out] at HOq;obtain ⟨Ao, co, hv, hco, hcm, hso, hnew⟩ := own_form_new HOq.out;subst hv;have HSO := Lib.hid hso;have HNW := Lib.hid hnew;clear hso HOq hnew;go_wp2_with fail
       go_ret
       exact ⟨Ao, co, rfl, hco, hcm, HSO.out, hbr, HNW.out⟩
end Go.Proofs.YtpheiojmcafolaaGreatDoor
namespace Go.Proofs.YtpheiojmcafolaaGreatDoor
open Go.RowKit Go.Sort
def twiceV : List PanicEntry := [{ v := .iface 165 (.agg #[]), recovered := false }]
def MvPost (w : World) (o : Option (List Nd)) (r : Ending) (w' : World) : Prop :=
 (∀ ys, o = some ys → NdsNew w r w' ys) ∧ (o = none → r = .panicked twiceV ∧ RowKit.Below w.heap.size w w')
theorem MvPost.twice {w w' : World} (h : RowKit.Below w.heap.size w w') : MvPost w none (.panicked twiceV) w' := ⟨fun ys h => by (cases h), fun _ => ⟨rfl, h⟩⟩
theorem MvPost.done {w w' : World} {r : Ending} {ys : List Nd} (h : NdsNew w r w' ys) : MvPost w (some ys) r w' := ⟨fun zs e => by (injection e with e; subst e; exact h), fun e => by (cases e)⟩
theorem MvPost.own {w w7 : World} {v : Value} {n : Nat} {ys : List Nd} (h : w7.ownsRow w.heap.size 37 4 v n (flat ys)) (hb : RowKit.Below w.heap.size w w7) : MvPost w (some ys) (.returned v) w7 := by
 obtain ⟨A, c, hv, h1, h2, h3, h4⟩ := own_form_new h;have hn : n = ys.length := by have := h.1; rw [flat_len] at this; omega
 subst hn;subst hv;exact .done ⟨A, c, rfl, h1, h2, h3, hb, h4⟩
def PartM (m : Mv) (vals : Bool) (k : Nat) (xs : List Nd) : Prop := ∀ (w : World) (A : Option Addr) (c : Nat), xs.length ≤ c → c ≤ 9223372036854775807 → NdSl w w.heap.size A xs →
 Calls Tryz.prog 101 #[.agg #[.int .i64 m.what, .string m.fr, .string m.to_, .bool vals], .slice A xs.length c] w (MvPost w (movGo m vals k xs))
theorem kid_info : (Tryz.prog.info? 22).map (fun i => (i.zero, i.size, i.bytes)) = some (some (.slice none 0 0), 1, 24) := by kernel_rfl
structure Pcs (m : Mv) (vals : Bool) (k : Nat) (e : List Nd) (x : Nd) (ps : List (List Nd)) : Prop where
 he : e = x :: ps.flatten
 hl : e.length ≤ 200
 ex : ∀ p ∈ ps, ∃ b, Ex (.one b) p
 par : ∀ y ∈ e, 0 ≤ ndParts y ∧ ndParts y ≤ 200
 ih : ∀ p ∈ ps, PartM m vals k p
 out : ∀ p ∈ ps, ∀ q, movGo m vals k p = some q → (∃ b, Ex (.one b) q) ∧ q.length ≤ p.length
theorem Pcs.len {m : Mv} {vals : Bool} {k : Nat} {e : List Nd} {x : Nd} {ps : List (List Nd)} (h : Pcs m vals k e x ps) : e.length = 1 + ps.flatten.length ∧ ps.length ≤ 199 ∧ ∀ p ∈ ps, p ≠ [] := by
 have hne : ∀ p ∈ ps, p ≠ [] := fun p hp => by obtain ⟨b, hb⟩ := h.ex p hp; obtain ⟨y, r, e, _⟩ := ex_ne hb; rw [e]; simp
 have h1 : e.length = 1 + ps.flatten.length := by rw [h.he, List.length_cons]; omega
 refine ⟨h1, ?_, hne⟩;have : ps.length ≤ ps.flatten.length := by
  clear h1 h;induction ps with
  | nil => simp
  | cons p r ih =>
   have h2 := ih fun q hq => hne q (by simp [hq]);have h3 := List.length_pos_iff.2 (hne p (by simp));rw [List.flatten_cons, List.length_append, List.length_cons]; omega
 have := h.hl;omega
structure MBox (m : Mv) (vals : Bool) (b : Nat) (W : World) : Prop where
 c0 : W.cell? ⟨b, 0, none⟩ = some (.int .i64 m.what)
 c1 : W.cell? ⟨b, 1, none⟩ = some (.string m.fr)
 c2 : W.cell? ⟨b, 2, none⟩ = some (.string m.to_)
 c3 : W.cell? ⟨b, 3, none⟩ = some (.bool vals)
theorem MBox.later {m : Mv} {vals : Bool} {b B : Nat} {W W' : World} (h : MBox m vals b W) (hb : RowKit.Below B W W') (hl : b < B) : MBox m vals b W' :=
 ⟨(hb.cell (p := ⟨b, 0, none⟩) hl).trans h.c0, (hb.cell (p := ⟨b, 1, none⟩) hl).trans h.c1, (hb.cell (p := ⟨b, 2, none⟩) hl).trans h.c2, (hb.cell (p := ⟨b, 3, none⟩) hl).trans h.c3⟩
theorem MBox.new (m : Mv) (vals : Bool) (w : World) : MBox m vals w.heap.size (w.alloc (.cells #[.int .i64 m.what, .string m.fr, .string m.to_, .bool vals] 128)) := by
 have h := Blk.new w 128 #[.int .i64 m.what, .string m.fr, .string m.to_, .bool vals];exact ⟨h.cell 0, h.cell 1, h.cell 2, h.cell 3⟩
set_option maxRecDepth 100000 in
set_option maxHeartbeats 4000000 in
theorem part_oth (m : Mv) (vals : Bool) (k : Nat) (e : List Nd) (x : Nd) (ps : List (List Nd)) (hP : Pcs m vals k e x ps) (h6 : ¬ x.op = 6) (h5 : x.op = 5 → vals = false) : PartM m vals (k + 1) e := by
 intro w A c hc hcm hsl;obtain ⟨i0, hi, hz0, hz1, hz2⟩ := info_parts kid_info;obtain ⟨j0, hj, hy0, hy1, hy2⟩ := info_parts nd_info;obtain ⟨o, ho⟩ : ∃ o, movGo m vals (k + 1) e = o := ⟨_, rfl⟩;have HV : Hid (o = match allSome (ps.map (movGo m vals k)) with | none => none | some qs => some (ren m x :: qs.flatten)) := by
  show _ = _;rw [← ho, hP.he, movGo_any m vals k x hP.ex];cases allSome (ps.map (movGo m vals k)) with
  | none => rfl
  | some qs =>
   simp only;rw [if_neg h6, if_neg];rintro ⟨h, h'⟩;rw [h5 h] at h'; cases h'
 rw [ho];obtain ⟨n1, n2, n3⟩ := hP.len;have hne : e ≠ [] := by rw [hP.he]; simp
 obtain ⟨b, of, rfl, hb, hcs⟩ := hsl hne;obtain ⟨d0, d1, d2, d3⟩ := hcs 0 x (by rw [hP.he]; rfl);rw [Nat.zero_mul, Nat.add_zero] at d0 d1 d2 d3;have hel := hP.hl;have HP := Lib.hid hP;have HS := Lib.hid hsl;have HL1 := Lib.hid n1;have HNE := Lib.hid n3;have hps : ps.length ≤ 199 := n2;have he0 : (0 : Int) < (e.length : Int) := by omega
 have e6 : (x.op == 6) = false := by simp [h6]
 clear hP hsl n1 n2 n3 ho hne hcs;go_enter Tryz.func101, Tryz.ntmps101
 go_wp2_with fail
 obtain ⟨W, hW⟩ : ∃ W, w.alloc (.cells #[.int .i64 m.what, .string m.fr, .string m.to_, .bool vals] 128) = W := ⟨_, rfl⟩;have hbW : RowKit.Below w.heap.size w W := by rw [← hW]; (repeat (first | assumption | exact Below.refl _ _ | apply Below.drew | apply below_drewN | (refine Below.alloc ?_ (by first | exact Nat.le_refl _ | omega | (simp; done) | (simp; omega)) _)))
 have hWz : W.heap.size = w.heap.size + 1 := by rw [← hW]; simp
 have HMB : Hid (MBox m vals w.heap.size W) := by rw [← hW]; exact MBox.new m vals w
 rw [hW];go_loopw [5, 6] (fun pv av wr => ∃ (j : Nat) (ms : List NsM) (a : Nat), av = .int .i64 a ∧ j ≤ ps.length ∧ a ≤ e.length ∧ Hid (a = 1 + (ps.take j).flatten.length) ∧ Hid (allSome ((ps.take j).map (movGo m vals k)) = some (ms.map NsM.e)) ∧ ms.length ≤ 199 ∧ Hid (wr.ownsRow W.heap.size 22 1 pv ms.length (flatG NsM.cells ms)) ∧ Hid (∀ y ∈ ms, NsOff wr pv.ownBlock y) ∧ RowKit.Below W.heap.size W wr) (fun _ av _ => e.length - (intOf av).toNat)
 case atStart => exact ⟨0, [], 1, rfl, by omega, by omega, rfl, rfl, by simp, World.ownsRow_nil _ _ _ _, by simp [Hid], RowKit.Below.refl _ _⟩
 case round =>
  obtain ⟨j, ms, a, rfl, hj1, ha, HA, HM, hms, HO, HN, hbr⟩ := hrel;have hzr := hbr.size;have hwr : RowKit.Below w.heap.size w wr := hbW.trans (hbr.mono (by omega));have hml : Hid (ms.length = j) := by
   show _ = _;rcases allSome_cases (movGo m vals k) (ps.take j) with h | ⟨qs, h, h', _⟩
   · rw [HM.out] at h; cases h
   · rw [HM.out] at h;injection h with h
     rw [← h] at h';rw [List.length_map, List.length_take] at h';omega
  by_cases hlt : j < ps.length
  · obtain ⟨p, hp⟩ : ∃ p, ps[j]? = some p := ⟨_, List.getElem?_eq_getElem hlt⟩;have hpm := List.mem_of_getElem? hp;have hpn := List.length_pos_iff.2 (HNE.out p hpm);obtain ⟨z, hz⟩ : ∃ z, a + p.length = z := ⟨_, rfl⟩;have hpz : Hid (piece e a z = p) := (by show _ = _; rw [← hz, HA.out, HP.out.he]; exact cut_piece hp);have hsk : skP (e.drop a) 1 a = some z := (by rw [← hz, HA.out, HP.out.he]; exact cut_skip hp (HP.out.ex p hpm));have hze : z ≤ e.length := by
     have h1 := flat_step hp;have h2 := flat_take_le ps (j + 1);have := HA.out;have := HL1.out;omega
    have hae : a < e.length := (by omega);have HSK := Lib.hid (tree_Skip e (some ⟨b, of, none⟩) c a z wr hel ((HS.out.below hwr).more hwr.size) HP.out.par hsk ha);have HZ := Lib.hid hz;have HPP := Lib.hid hp;have haz : a < z := (by omega);have HC := Lib.hid (show ∀ W', RowKit.Below w.heap.size w W' → Calls Tryz.prog 101 #[.agg #[.int .i64 m.what, .string m.fr, .string m.to_, .bool vals], .slice (some ⟨b, of + a * 4, none⟩) (z - a) (c - a)] W' (MvPost W' (movGo m vals k p)) from fun W' hW' => by
     have h := HP.out.ih p hpm W' (some ⟨b, of + a * 4, none⟩) (c - a) (by omega) (by omega) (by have := ((HS.out.below hW').more hW'.size).piece a z; rw [hpz.out] at this; exact this);have hl : p.length = z - a := (by omega);rw [hl] at h; exact h)
    clear hsk hz hp;have q : ∀ (W : World), (Instr.slice 22 (.slice (some ⟨b, of, none⟩) e.length c) (some (.int .i64 (a : Int))) (some (.int .i64 (z : Int))) none).run Tryz.prog W = .ok (.slice (some ⟨b, of + a * 4, none⟩) (z - a) (c - a)) W := by
     intro W;go_simp
     rw [if_pos (show z ≤ c by omega), if_pos (show a ≤ z by omega), if_neg (show ¬ c = a by omega)]
    go_wp2_with fail
    refine HSK.out.mono ?_;rintro r w1 ⟨rfl, hb1⟩;obtain ⟨hcc1, hff1⟩ := bcell hb1;have hw1 : RowKit.Below W.heap.size W w1 := hbr.trans (hb1.mono hzr);go_wp2_with fail
    have HM1 := Lib.hid (HMB.out.later hw1 (by omega));clear hcc1 hff1;refine wp_region_hd (S := MBox m vals w.heap.size) [false, false, false, false, false, false, true, true, true, false] (by kernel_rfl) (by kernel_rfl) (fun _ _ _ _ _ h => h) ⟨HM1.out.c0, HM1.out.c1, HM1.out.c2, HM1.out.c3⟩ (fun hW' => ?_);simp only [List.zip_cons_cons, List.zip_nil_left];(repeat (first | (refine hd_take (v := ?_) (by rfl) ?_ ?_; rotate_left; (focus (intro W hW; obtain ⟨s0, s1, s2, s3⟩ := hW; go_simp; try with_reducible rfl)); simp only [Act.put, List.setIfInBounds_toArray, List.set_cons_zero, List.set_cons_succ]) | (refine hd_skip (by rfl) ?_; simp only [Act.put, List.setIfInBounds_toArray, List.set_cons_zero, List.set_cons_succ])))
    refine hd_call (fun K hK => ?_);go_simp
    refine (HC.out w1.drew (hwr.trans (hb1.mono hwr.size)).drew).mono ?_;rintro r w2 hpost;cases hq : movGo m vals k p with
    | none =>
     obtain ⟨rfl, hb2⟩ := hpost.2 hq;clear hpost;have HQ := Lib.hid hq;clear hq;have HO : Hid (o = none) := (by show _ = _; rw [HV.out, allSome_none _ ps p (List.mem_of_getElem? HPP.out) HQ.out]);dsimp only;clear hK K;go_wp2_with fail
     rw [HO.out];exact ⟨rfl, MvPost.twice ((hwr.trans (hb1.mono hwr.size)).trans ((below_of_drew hb2).mono (by have := hb1.size; have := hwr.size; omega)))⟩
    | some q1 =>
     obtain ⟨A2, c2, rfl, hc2, hcm2, hs2, hb2', hn2⟩ := hpost.1 q1 hq;clear hpost;have HQ := Lib.hid hq;clear hq;have hb2 := below_of_drew hb2';have hv1 := hb1.size;have hv2 := hb2.size;have hw2 : RowKit.Below W.heap.size W w2 := hw1.trans (hb2.mono hw1.size);refine hK _ _ (HMB.out.later hw2 (by omega)) ?_;clear hK K;have hw3 : RowKit.Below W.heap.size W (w2.alloc (.cells #[.slice A2 q1.length c2] 22)) := hw2.alloc (by omega) _;refine hd_call (fun K hK => ?_);go_simp
     refine hK _ _ (HMB.out.later hw3 (by omega)) ?_;clear hK K;have HO2 := Lib.hid (own_keep (own_keep (own_keep HO.out hb1) hb2) (by (repeat (first | assumption | exact Below.refl _ _ | apply Below.drew | apply below_drewN | (refine Below.alloc ?_ (by first | exact Nat.le_refl _ | omega | (simp; done) | (simp; omega)) _))) : RowKit.Below w2.heap.size w2 (w2.alloc (.cells #[.slice A2 q1.length c2] 22))));refine hd_append_own_at (by rfl) (.tmp 19) (.tmp 26) 152 rfl W.heap.size 22 i0 _ 1 24 Tryz.underlying152 hi hz0 hz1 hz2 rfl (by omega) u5 ms.length (flatG NsM.cells ms) rfl HO2.out ⟨w2.heap.size, 0, none⟩ 1 1 [.slice A2 q1.length c2] rfl rfl (cell_one_new _ _ _) (by simp [Value.oneCell']) (by unfold maxLen; omega) (by omega) (by simp; omega) ?_;intro v6 w6 hown6 hgrow6 _ hloc6;have hb6 : RowKit.Below W.heap.size W w6 := hw3.grown hgrow6 (by simp; omega) (fun q hq => (own_lt HO.out hq).1);refine ⟨HMB.out.later hb6 (by omega), ?_⟩;(repeat (first | (refine hd_take (v := ?_) (by rfl) ?_ ?_; rotate_left; (focus (intro W hW; obtain ⟨s0, s1, s2, s3⟩ := hW; go_simp; try with_reducible rfl)); simp only [Act.put, List.setIfInBounds_toArray, List.set_cons_zero, List.set_cons_succ]) | (refine hd_skip (by rfl) ?_; simp only [Act.put, List.setIfInBounds_toArray, List.set_cons_zero, List.set_cons_succ])))
     refine hd_nil ?_;have hq1 := HP.out.out p (List.mem_of_getElem? HPP.out) q1 HQ.out;have HN2 : Hid (NsOff w2 u5.ownBlock ⟨A2, c2, q1⟩) := NsGood.fresh (B := w1.heap.size) ⟨hs2, hc2, hcm2⟩ hn2 (fun b hb => Nat.lt_of_lt_of_le (own_lt HO.out hb).2 hv1);have HN6 := Lib.hid (collect (x := ⟨A2, c2, q1⟩) (wr := w2) (by (repeat (first | assumption | exact Below.refl _ _ | apply Below.drew | apply below_drewN | (refine Below.alloc ?_ (by first | exact Nat.le_refl _ | omega | (simp; done) | (simp; omega)) _)))) (fun y hy => ((HN.out y hy).later hb1).later hb2) (HN2.out.later (by (repeat (first | assumption | exact Below.refl _ _ | apply Below.drew | apply below_drewN | (refine Below.alloc ?_ (by first | exact Nat.le_refl _ | omega | (simp; done) | (simp; omega)) _))))) hgrow6 hloc6);have HM6 : Hid (allSome ((ps.take (j + 1)).map (movGo m vals k)) = some ((ms ++ [(⟨A2, c2, q1⟩ : NsM)]).map NsM.e)) := by
      show _ = _;rw [allSome_snoc _ ps _ j p q1 HM.out HPP.out HQ.out, List.map_append]; rfl
     have HA6 : Hid (z = 1 + (ps.take (j + 1)).flatten.length) := (by show _ = _; rw [flat_step HPP.out, ← HZ.out, HA.out]; omega);have hm6 : (ms ++ [(⟨A2, c2, q1⟩ : NsM)]).length ≤ 199 := (by rw [List.length_append, List.length_singleton]; have := hml.out; omega);go_wp2_with fail
     exact ⟨⟨j + 1, ms ++ [⟨A2, c2, q1⟩], z, by go_num, by omega, hze, HA6, HM6, hm6, by rw [List.length_append, ns_snoc]; exact hown6, HN6, hb6⟩, by simp [intOf]; omega⟩
  · have hjp : j = ps.length := (by omega);have HM2 : Hid (allSome (ps.map (movGo m vals k)) = some (ms.map NsM.e)) := by
     have := HM.out;rw [hjp, List.take_of_length_le (Nat.le_refl _)] at this;exact this
    have hae : ¬ a < e.length := by
     have h1 := HA.out;have h2 := HL1.out;rw [hjp, List.take_of_length_le (Nat.le_refl _)] at h1;omega
    have HOV : Hid (o = some (ren m x :: catN ms)) := by
     show _ = _;rw [HV.out, HM2.out, nss_map' rfl]
    have HPE : Hid (∀ y ∈ ms, y.e ≠ []) := by
     intro y hy;rcases allSome_cases (movGo m vals k) ps with h | ⟨qs, h, _, h'⟩
     · rw [HM2.out] at h; cases h
     · rw [HM2.out] at h;injection h with h
       obtain ⟨p, hp, hpq⟩ := h' y.e (by rw [← h]; exact List.mem_map_of_mem hy);obtain ⟨⟨b, hb⟩, _⟩ := HP.out.out p hp _ hpq;obtain ⟨z, r, e, _⟩ := ex_ne hb;rw [e]; simp
    have hcl : (catN ms).length ≤ 199 := by
     have h1 := allSome_len _ _ _ HM2.out (fun p hp q hq => (HP.out.out p hp q hq).2);rw [← nss_map' rfl] at h1;have := HL1.out;omega
    obtain ⟨-, Ap, cp, hv, hcp, hcm', hsp⟩ := own_formG ns_ok HO.out;subst hv;have HNS : Hid (NssAt wr Ap ms) := ⟨hsp, fun y hy => (HN.out y hy).good⟩;have hbr' : b < wr.heap.size := (by have := hwr.size; omega);have HD : Hid (NdAt wr b of x) := ⟨(hwr.cell (p := ⟨b, of, none⟩) hb).trans d0, (hwr.cell (p := ⟨b, of + 1, none⟩) hb).trans d1, (hwr.cell (p := ⟨b, of + 2, none⟩) hb).trans d2, (hwr.cell (p := ⟨b, of + 3, none⟩) hb).trans d3⟩;have f0 := HD.out.c0;have HMr := Lib.hid (HMB.out.later hbr (by omega));have f3 := HMr.out.c3;clear d0 d1 d2 d3 hsp HO HN HM HV hml HA;have hlw : w.heap.size < wr.heap.size := (by omega);have HNM := Lib.hid (fun W => move_named m x W);have qi : ∀ W, (Instr.indexAt 22 (.slice (some ⟨b, of, none⟩) e.length c) (.int .i64 0)).run Tryz.prog W = .ok (.pointer (some ⟨b, of, none⟩)) W := by
     intro W;go_simp
     intro h;rw [h] at he0;simp at he0
    have hor : ((x.op == 5) = true ∧ vals = false) ∨ (x.op == 5) = false := by
     by_cases h : x.op = 5
     · exact .inl ⟨by simp [h], h5 h⟩
     · exact .inr (by simp [h])
    clear h5;rcases hor with ⟨e5, hvf⟩ | e5
    · rw [hvf] at f3;have HVF := Lib.hid hvf;clear hvf;go_wp2_with fail
      refine wp_region_hd (S := fun W' => MBox m vals w.heap.size W' ∧ NdAt W' b of x) [false, false, false, false, false, true, true, false] (by kernel_rfl) (by kernel_rfl) (fun _ _ _ _ _ h => h) ⟨⟨HMr.out.c0, HMr.out.c1, HMr.out.c2, HMr.out.c3⟩, ⟨HD.out.c0, HD.out.c1, HD.out.c2, HD.out.c3⟩⟩ (fun hW' => ?_);simp only [List.zip_cons_cons, List.zip_nil_left];(repeat (first | (refine hd_take (v := ?_) (by rfl) ?_ ?_; rotate_left; (focus (intro W hW; obtain ⟨⟨s0, s1, s2, s3⟩, ⟨s4, s5, s6, s7⟩⟩ := hW; go_simp; try with_reducible rfl)); simp only [Act.put, List.setIfInBounds_toArray, List.set_cons_zero, List.set_cons_succ]) | (refine hd_skip (by rfl) ?_; simp only [Act.put, List.setIfInBounds_toArray, List.set_cons_zero, List.set_cons_succ])))
      refine hd_call (fun K hK => ?_);go_simp
      refine (HNM.out _).mono ?_;rintro r w2 ⟨rfl, hb2'⟩;have hb2 := below_of_drew hb2';refine hK _ _ ⟨HMr.out.later hb2 hlw, ⟨(hb2.cell (p := ⟨b, of, none⟩) hbr').trans HD.out.c0, (hb2.cell (p := ⟨b, of + 1, none⟩) hbr').trans HD.out.c1, (hb2.cell (p := ⟨b, of + 2, none⟩) hbr').trans HD.out.c2, (hb2.cell (p := ⟨b, of + 3, none⟩) hbr').trans HD.out.c3⟩⟩ ?_;clear hK K;have hb3 : RowKit.Below w.heap.size w w2 := hwr.trans (hb2.mono hwr.size);have hz3 := hb3.size;refine hd_call (fun K hK => ?_);go_simp
      refine hK _ _ ⟨(HMr.out.later hb2 hlw).later (RowKit.Below.alloc (RowKit.Below.refl w2.heap.size w2) (Nat.le_refl _) _) (by have := hb2.size; omega), HD.out.keep (B := wr.heap.size) hbr' (fun p hp => ((RowKit.Below.alloc (RowKit.Below.refl w2.heap.size w2) (Nat.le_refl _) _).cell (by have := hb2.size; omega)).trans (hb2.cell hp))⟩ ?_;clear hK K;(repeat (first | (refine hd_take (v := ?_) (by rfl) ?_ ?_; rotate_left; (focus (intro W hW; obtain ⟨⟨s0, s1, s2, s3⟩, ⟨s4, s5, s6, s7⟩⟩ := hW; go_simp; try with_reducible rfl)); simp only [Act.put, List.setIfInBounds_toArray, List.set_cons_zero, List.set_cons_succ]) | (refine hd_skip (by rfl) ?_; simp only [Act.put, List.setIfInBounds_toArray, List.set_cons_zero, List.set_cons_succ])))
      refine hd_nil ?_;have HOL := Lib.hid (World.ownsRow_lit (base := w.heap.size) (e := 37) (size := 4) w2 #[.int .i64 (ren m x).op, .int .i64 (ren m x).n, .string (ren m x).s, .string (ren m x).t] 1 (by omega) (by decide) (by simp));have hb4 : RowKit.Below w2.heap.size w2 (w2.alloc (.cells #[.int .i64 (ren m x).op, .int .i64 (ren m x).n, .string (ren m x).s, .string (ren m x).t] 37)) := (by (repeat (first | assumption | exact Below.refl _ _ | apply Below.drew | apply below_drewN | (refine Below.alloc ?_ (by first | exact Nat.le_refl _ | omega | (simp; done) | (simp; omega)) _))));have HN4 := Lib.hid ((HNS.out.later hb2).later hb4);have hb5 : RowKit.Below w.heap.size w (w2.alloc (.cells #[.int .i64 (ren m x).op, .int .i64 (ren m x).n, .string (ren m x).s, .string (ren m x).t] 37)) := hb3.trans (hb4.mono hz3);generalize w2.alloc (.cells #[.int .i64 (ren m x).op, .int .i64 (ren m x).n, .string (ren m x).s, .string (ren m x).t] 37) = w3 at *;clear hb4;go_wp2_with fail
      refine (concat_nodes ms Ap cp w3 HN4.out HPE.out (by omega) (by omega)).mono ?_;rintro r w4 ⟨A4, c4, rfl, h41, h42, h43, h44, h45⟩;have hb6 : RowKit.Below w.heap.size w w4 := hb5.trans (h44.mono hb5.size);have HO4 := Lib.hid (own_keep HOL.out h44);by_cases hcn : catN ms = []
      · have HCN := Lib.hid hcn;rw [hcn] at h41 h43;try rw [hcn]
        clear hcn h43 h44 h45 h41;cases A4 with
        | none =>
         go_wp2_with (at_builtin; refine wpList_append_zero rfl (.tmp 88) (.tmp 90) 22 rfl w.heap.size 37 j0 4 Tryz.underlying22 hj _ 1 _ rfl HO4.out c4 rfl ?_)
         go_ret
         rw [HOV.out, HCN.out];exact MvPost.own (n := 1) HO4.out hb6
        | some ad =>
         go_wp2_with (at_builtin; refine wpList_append_own _ rfl (.tmp 88) (.tmp 90) 22 rfl w.heap.size 37 j0 _ 4 48 Tryz.underlying22 hj hy0 hy1 hy2 rfl (by omega) _ 1 _ rfl HO4.out ad 0 c4 [] rfl rfl (by simp) (by simp) (by unfold maxLen; omega) (by omega) (by have := hb6.size; omega) ?_; intro v7 w7 hown7 hgrow7 _)
         have hb7 : RowKit.Below w.heap.size w w7 := hb6.grown hgrow7 hb6.size (fun q hq => (HO4.out.lt q hq).1);go_wp2_with fail
         have HO7 := Lib.hid hown7;clear hown7;go_ret
         rw [HOV.out, HCN.out];exact MvPost.own (n := 1) (by have := HO7.out; rw [List.append_nil] at this; exact this) hb7
      · obtain ⟨b4, o4, rfl, hb4, hs4⟩ := h43 hcn;have HS4 := Lib.hid (fun j u hu => NdSl.flat h43 j u hu);clear h43 h44 h45 hs4 hcn;go_wp2_with (at_builtin; refine wpList_append_own _ rfl (.tmp 88) (.tmp 90) 22 rfl w.heap.size 37 j0 _ 4 48 Tryz.underlying22 hj hy0 hy1 hy2 rfl (by omega) _ 1 _ rfl HO4.out ⟨b4, o4, none⟩ (catN ms).length c4 (flat (catN ms)) rfl (flat_len _) HS4.out (flat_one_cell _) (by unfold maxLen; omega) (by omega) (by have := hb6.size; omega) ?_; intro v7 w7 hown7 hgrow7 _)
        have hb7 : RowKit.Below w.heap.size w w7 := hb6.grown hgrow7 hb6.size (fun q hq => (HO4.out.lt q hq).1);go_wp2_with fail
        have HO7 := Lib.hid hown7;clear hown7;go_ret
        rw [HOV.out];refine MvPost.own (n := 1 + (catN ms).length) ?_ hb7;have := HO7.out;simpa [flat, Nd.cells] using this
    ·
     go_wp2_with fail
     refine wp_region_hd (S := fun W' => MBox m vals w.heap.size W' ∧ NdAt W' b of x) [false, false, false, false, false, true, true, false] (by kernel_rfl) (by kernel_rfl) (fun _ _ _ _ _ h => h) ⟨⟨HMr.out.c0, HMr.out.c1, HMr.out.c2, HMr.out.c3⟩, ⟨HD.out.c0, HD.out.c1, HD.out.c2, HD.out.c3⟩⟩ (fun hW' => ?_);simp only [List.zip_cons_cons, List.zip_nil_left];(repeat (first | (refine hd_take (v := ?_) (by rfl) ?_ ?_; rotate_left; (focus (intro W hW; obtain ⟨⟨s0, s1, s2, s3⟩, ⟨s4, s5, s6, s7⟩⟩ := hW; go_simp; try with_reducible rfl)); simp only [Act.put, List.setIfInBounds_toArray, List.set_cons_zero, List.set_cons_succ]) | (refine hd_skip (by rfl) ?_; simp only [Act.put, List.setIfInBounds_toArray, List.set_cons_zero, List.set_cons_succ])))
     refine hd_call (fun K hK => ?_);go_simp
     refine (HNM.out _).mono ?_;rintro r w2 ⟨rfl, hb2'⟩;have hb2 := below_of_drew hb2';refine hK _ _ ⟨HMr.out.later hb2 hlw, ⟨(hb2.cell (p := ⟨b, of, none⟩) hbr').trans HD.out.c0, (hb2.cell (p := ⟨b, of + 1, none⟩) hbr').trans HD.out.c1, (hb2.cell (p := ⟨b, of + 2, none⟩) hbr').trans HD.out.c2, (hb2.cell (p := ⟨b, of + 3, none⟩) hbr').trans HD.out.c3⟩⟩ ?_;clear hK K;have hb3 : RowKit.Below w.heap.size w w2 := hwr.trans (hb2.mono hwr.size);have hz3 := hb3.size;refine hd_call (fun K hK => ?_);go_simp
     refine hK _ _ ⟨(HMr.out.later hb2 hlw).later (RowKit.Below.alloc (RowKit.Below.refl w2.heap.size w2) (Nat.le_refl _) _) (by have := hb2.size; omega), HD.out.keep (B := wr.heap.size) hbr' (fun p hp => ((RowKit.Below.alloc (RowKit.Below.refl w2.heap.size w2) (Nat.le_refl _) _).cell (by have := hb2.size; omega)).trans (hb2.cell hp))⟩ ?_;clear hK K;(repeat (first | (refine hd_take (v := ?_) (by rfl) ?_ ?_; rotate_left; (focus (intro W hW; obtain ⟨⟨s0, s1, s2, s3⟩, ⟨s4, s5, s6, s7⟩⟩ := hW; go_simp; try with_reducible rfl)); simp only [Act.put, List.setIfInBounds_toArray, List.set_cons_zero, List.set_cons_succ]) | (refine hd_skip (by rfl) ?_; simp only [Act.put, List.setIfInBounds_toArray, List.set_cons_zero, List.set_cons_succ])))
     refine hd_nil ?_;have HOL := Lib.hid (World.ownsRow_lit (base := w.heap.size) (e := 37) (size := 4) w2 #[.int .i64 (ren m x).op, .int .i64 (ren m x).n, .string (ren m x).s, .string (ren m x).t] 1 (by omega) (by decide) (by simp));have hb4 : RowKit.Below w2.heap.size w2 (w2.alloc (.cells #[.int .i64 (ren m x).op, .int .i64 (ren m x).n, .string (ren m x).s, .string (ren m x).t] 37)) := (by (repeat (first | assumption | exact Below.refl _ _ | apply Below.drew | apply below_drewN | (refine Below.alloc ?_ (by first | exact Nat.le_refl _ | omega | (simp; done) | (simp; omega)) _))));have HN4 := Lib.hid ((HNS.out.later hb2).later hb4);have hb5 : RowKit.Below w.heap.size w (w2.alloc (.cells #[.int .i64 (ren m x).op, .int .i64 (ren m x).n, .string (ren m x).s, .string (ren m x).t] 37)) := hb3.trans (hb4.mono hz3);generalize w2.alloc (.cells #[.int .i64 (ren m x).op, .int .i64 (ren m x).n, .string (ren m x).s, .string (ren m x).t] 37) = w3 at *;clear hb4;go_wp2_with fail
     refine (concat_nodes ms Ap cp w3 HN4.out HPE.out (by omega) (by omega)).mono ?_;rintro r w4 ⟨A4, c4, rfl, h41, h42, h43, h44, h45⟩;have hb6 : RowKit.Below w.heap.size w w4 := hb5.trans (h44.mono hb5.size);have HO4 := Lib.hid (own_keep HOL.out h44);by_cases hcn : catN ms = []
     · have HCN := Lib.hid hcn;rw [hcn] at h41 h43;try rw [hcn]
       clear hcn h43 h44 h45 h41;cases A4 with
       | none =>
        go_wp2_with (at_builtin; refine wpList_append_zero rfl (.tmp 88) (.tmp 90) 22 rfl w.heap.size 37 j0 4 Tryz.underlying22 hj _ 1 _ rfl HO4.out c4 rfl ?_)
        go_ret
        rw [HOV.out, HCN.out];exact MvPost.own (n := 1) HO4.out hb6
       | some ad =>
        go_wp2_with (at_builtin; refine wpList_append_own _ rfl (.tmp 88) (.tmp 90) 22 rfl w.heap.size 37 j0 _ 4 48 Tryz.underlying22 hj hy0 hy1 hy2 rfl (by omega) _ 1 _ rfl HO4.out ad 0 c4 [] rfl rfl (by simp) (by simp) (by unfold maxLen; omega) (by omega) (by have := hb6.size; omega) ?_; intro v7 w7 hown7 hgrow7 _)
        have hb7 : RowKit.Below w.heap.size w w7 := hb6.grown hgrow7 hb6.size (fun q hq => (HO4.out.lt q hq).1);go_wp2_with fail
        have HO7 := Lib.hid hown7;clear hown7;go_ret
        rw [HOV.out, HCN.out];exact MvPost.own (n := 1) (by have := HO7.out; rw [List.append_nil] at this; exact this) hb7
     · obtain ⟨b4, o4, rfl, hb4, hs4⟩ := h43 hcn;have HS4 := Lib.hid (fun j u hu => NdSl.flat h43 j u hu);clear h43 h44 h45 hs4 hcn;go_wp2_with (at_builtin; refine wpList_append_own _ rfl (.tmp 88) (.tmp 90) 22 rfl w.heap.size 37 j0 _ 4 48 Tryz.underlying22 hj hy0 hy1 hy2 rfl (by omega) _ 1 _ rfl HO4.out ⟨b4, o4, none⟩ (catN ms).length c4 (flat (catN ms)) rfl (flat_len _) HS4.out (flat_one_cell _) (by unfold maxLen; omega) (by omega) (by have := hb6.size; omega) ?_; intro v7 w7 hown7 hgrow7 _)
       have hb7 : RowKit.Below w.heap.size w w7 := hb6.grown hgrow7 hb6.size (fun q hq => (HO4.out.lt q hq).1);go_wp2_with fail
       have HO7 := Lib.hid hown7;clear hown7;go_ret
       rw [HOV.out];refine MvPost.own (n := 1 + (catN ms).length) ?_ hb7;have := HO7.out;simpa [flat, Nd.cells] using this
end Go.Proofs.YtpheiojmcafolaaGreatDoor
namespace Go.Proofs.YtpheiojmcafolaaGreatDoor
open Go.RowKit Go.Sort
theorem sort_parts {w : World} {base : Nat} {v : Value} {ms : List NsM} (h : w.ownsRow base 22 1 v ms.length (flatG NsM.cells ms)) (hl : ms.length < 4611686018427387904) (hQ : ∀ y ∈ ms, y.e ≠ []) (hof : ∀ y ∈ ms, NsOff w v.ownBlock y) :
 Calls Tryz.prog 132 #[v, .func (.func 133) #[] #[]] w fun r w' => r = .returned (.tuple #[]) ∧ ∃ ds : List NsM, ds.Perm ms ∧ RiseN (ds.map NsM.e) ∧
  w'.ownsRow base 22 1 v ms.length (flatG NsM.cells ds) ∧ (∀ y ∈ ds, NsOff w' v.ownBlock y) ∧ w.grownBy w' v.ownBlock := by
 refine (sort_lists Tryz.sortL rfl (enters_of Tryz.func133 (by kernel_rfl) rfl) nmCmp h hl (fun y => y.e ≠ []) hQ hof (swo_names fun y : {x : NsM // x.e ≠ []} => (headS y.1.e).toList)
  (fun x y W hx hy gx gy => part1_cmp x y W hx hy gx gy)).mono ?_
 rintro r w' ⟨rfl, ds, h1, h2, h3, h4, h5⟩;refine ⟨rfl, ds, h1, ?_, h3, h4, h5⟩;intro i j a b ha hb hij;rw [List.getElem?_map] at ha hb;obtain ⟨a', ha', rfl⟩ := Option.map_eq_some_iff.1 ha;obtain ⟨b', hb', rfl⟩ := Option.map_eq_some_iff.1 hb;have := h2 i j a' b' ha' hb' hij;unfold nmCmp at this;rw [cmp_neg] at this;exact this
set_option maxRecDepth 100000 in
set_option maxHeartbeats 4000000 in
theorem mpart_rec (m : Mv) (vals : Bool) (k : Nat) (e : List Nd) (x : Nd) (ps : List (List Nd)) (hP : Pcs m vals k e x ps) (h6 : x.op = 6) : PartM m vals (k + 1) e := by
 intro w A c hc hcm hsl;obtain ⟨i0, hi, hz0, hz1, hz2⟩ := info_parts kid_info;obtain ⟨j0, hj, hy0, hy1, hy2⟩ := info_parts nd_info;obtain ⟨o, ho⟩ : ∃ o, movGo m vals (k + 1) e = o := ⟨_, rfl⟩;have HV : Hid (o = match allSome (ps.map (movGo m vals k)) with | none => none | some qs => if (namesOf qs).Nodup then some (ren m x :: (sortN qs).flatten) else none) := by
  show _ = _;rw [← ho, hP.he, movGo_any m vals k x hP.ex];cases allSome (ps.map (movGo m vals k)) with
  | none => rfl
  | some qs => simp only; rw [if_pos h6]
 rw [ho];obtain ⟨n1, n2, n3⟩ := hP.len;have hne : e ≠ [] := by rw [hP.he]; simp
 obtain ⟨b, of, rfl, hb, hcs⟩ := hsl hne;obtain ⟨d0, d1, d2, d3⟩ := hcs 0 x (by rw [hP.he]; rfl);rw [Nat.zero_mul, Nat.add_zero] at d0 d1 d2 d3;have hel := hP.hl;have HP := Lib.hid hP;have HS := Lib.hid hsl;have HL1 := Lib.hid n1;have HNE := Lib.hid n3;have hps : ps.length ≤ 199 := n2;have he0 : (0 : Int) < (e.length : Int) := by omega
 have e6 : (x.op == 6) = true := by simp [h6]
 have e5 : (x.op == 5) = false := by simp [h6]
 clear h6;clear hP hsl n1 n2 n3 ho hne hcs;go_enter Tryz.func101, Tryz.ntmps101
 go_wp2_with fail
 obtain ⟨W, hW⟩ : ∃ W, w.alloc (.cells #[.int .i64 m.what, .string m.fr, .string m.to_, .bool vals] 128) = W := ⟨_, rfl⟩;have hbW : RowKit.Below w.heap.size w W := by rw [← hW]; (repeat (first | assumption | exact Below.refl _ _ | apply Below.drew | apply below_drewN | (refine Below.alloc ?_ (by first | exact Nat.le_refl _ | omega | (simp; done) | (simp; omega)) _)))
 have hWz : W.heap.size = w.heap.size + 1 := by rw [← hW]; simp
 have HMB : Hid (MBox m vals w.heap.size W) := by rw [← hW]; exact MBox.new m vals w
 rw [hW];go_loopw [5, 6] (fun pv av wr => ∃ (j : Nat) (ms : List NsM) (a : Nat), av = .int .i64 a ∧ j ≤ ps.length ∧ a ≤ e.length ∧ Hid (a = 1 + (ps.take j).flatten.length) ∧ Hid (allSome ((ps.take j).map (movGo m vals k)) = some (ms.map NsM.e)) ∧ ms.length ≤ 199 ∧ Hid (wr.ownsRow W.heap.size 22 1 pv ms.length (flatG NsM.cells ms)) ∧ Hid (∀ y ∈ ms, NsOff wr pv.ownBlock y) ∧ RowKit.Below W.heap.size W wr) (fun _ av _ => e.length - (intOf av).toNat)
 case atStart => exact ⟨0, [], 1, rfl, by omega, by omega, rfl, rfl, by simp, World.ownsRow_nil _ _ _ _, by simp [Hid], RowKit.Below.refl _ _⟩
 case round =>
  obtain ⟨j, ms, a, rfl, hj1, ha, HA, HM, hms, HO, HN, hbr⟩ := hrel;have hzr := hbr.size;have hwr : RowKit.Below w.heap.size w wr := hbW.trans (hbr.mono (by omega));have hml : Hid (ms.length = j) := by
   show _ = _;rcases allSome_cases (movGo m vals k) (ps.take j) with h | ⟨qs, h, h', _⟩
   · rw [HM.out] at h; cases h
   · rw [HM.out] at h;injection h with h
     rw [← h] at h';rw [List.length_map, List.length_take] at h';omega
  by_cases hlt : j < ps.length
  · obtain ⟨p, hp⟩ : ∃ p, ps[j]? = some p := ⟨_, List.getElem?_eq_getElem hlt⟩;have hpm := List.mem_of_getElem? hp;have hpn := List.length_pos_iff.2 (HNE.out p hpm);obtain ⟨z, hz⟩ : ∃ z, a + p.length = z := ⟨_, rfl⟩;have hpz : Hid (piece e a z = p) := (by show _ = _; rw [← hz, HA.out, HP.out.he]; exact cut_piece hp);have hsk : skP (e.drop a) 1 a = some z := (by rw [← hz, HA.out, HP.out.he]; exact cut_skip hp (HP.out.ex p hpm));have hze : z ≤ e.length := by
     have h1 := flat_step hp;have h2 := flat_take_le ps (j + 1);have := HA.out;have := HL1.out;omega
    have hae : a < e.length := (by omega);have HSK := Lib.hid (tree_Skip e (some ⟨b, of, none⟩) c a z wr hel ((HS.out.below hwr).more hwr.size) HP.out.par hsk ha);have HZ := Lib.hid hz;have HPP := Lib.hid hp;have haz : a < z := (by omega);have HC := Lib.hid (show ∀ W', RowKit.Below w.heap.size w W' → Calls Tryz.prog 101 #[.agg #[.int .i64 m.what, .string m.fr, .string m.to_, .bool vals], .slice (some ⟨b, of + a * 4, none⟩) (z - a) (c - a)] W' (MvPost W' (movGo m vals k p)) from fun W' hW' => by
     have h := HP.out.ih p hpm W' (some ⟨b, of + a * 4, none⟩) (c - a) (by omega) (by omega) (by have := ((HS.out.below hW').more hW'.size).piece a z; rw [hpz.out] at this; exact this);have hl : p.length = z - a := (by omega);rw [hl] at h; exact h)
    clear hsk hz hp;have q : ∀ (W : World), (Instr.slice 22 (.slice (some ⟨b, of, none⟩) e.length c) (some (.int .i64 (a : Int))) (some (.int .i64 (z : Int))) none).run Tryz.prog W = .ok (.slice (some ⟨b, of + a * 4, none⟩) (z - a) (c - a)) W := by
     intro W;go_simp
     rw [if_pos (show z ≤ c by omega), if_pos (show a ≤ z by omega), if_neg (show ¬ c = a by omega)]
    go_wp2_with fail
    refine HSK.out.mono ?_;rintro r w1 ⟨rfl, hb1⟩;obtain ⟨hcc1, hff1⟩ := bcell hb1;have hw1 : RowKit.Below W.heap.size W w1 := hbr.trans (hb1.mono hzr);go_wp2_with fail
    have HM1 := Lib.hid (HMB.out.later hw1 (by omega));clear hcc1 hff1;refine wp_region_hd (S := MBox m vals w.heap.size) [false, false, false, false, false, false, true, true, true, false] (by kernel_rfl) (by kernel_rfl) (fun _ _ _ _ _ h => h) ⟨HM1.out.c0, HM1.out.c1, HM1.out.c2, HM1.out.c3⟩ (fun hW' => ?_);simp only [List.zip_cons_cons, List.zip_nil_left];(repeat (first | (refine hd_take (v := ?_) (by rfl) ?_ ?_; rotate_left; (focus (intro W hW; obtain ⟨s0, s1, s2, s3⟩ := hW; go_simp; try with_reducible rfl)); simp only [Act.put, List.setIfInBounds_toArray, List.set_cons_zero, List.set_cons_succ]) | (refine hd_skip (by rfl) ?_; simp only [Act.put, List.setIfInBounds_toArray, List.set_cons_zero, List.set_cons_succ])))
    refine hd_call (fun K hK => ?_);go_simp
    refine (HC.out w1.drew (hwr.trans (hb1.mono hwr.size)).drew).mono ?_;rintro r w2 hpost;cases hq : movGo m vals k p with
    | none =>
     obtain ⟨rfl, hb2⟩ := hpost.2 hq;clear hpost;have HQ := Lib.hid hq;clear hq;have HO : Hid (o = none) := (by show _ = _; rw [HV.out, allSome_none _ ps p (List.mem_of_getElem? HPP.out) HQ.out]);dsimp only;clear hK K;go_wp2_with fail
     rw [HO.out];exact ⟨rfl, MvPost.twice ((hwr.trans (hb1.mono hwr.size)).trans ((below_of_drew hb2).mono (by have := hb1.size; have := hwr.size; omega)))⟩
    | some q1 =>
     obtain ⟨A2, c2, rfl, hc2, hcm2, hs2, hb2', hn2⟩ := hpost.1 q1 hq;clear hpost;have HQ := Lib.hid hq;clear hq;have hb2 := below_of_drew hb2';have hv1 := hb1.size;have hv2 := hb2.size;have hw2 : RowKit.Below W.heap.size W w2 := hw1.trans (hb2.mono hw1.size);refine hK _ _ (HMB.out.later hw2 (by omega)) ?_;clear hK K;have hw3 : RowKit.Below W.heap.size W (w2.alloc (.cells #[.slice A2 q1.length c2] 22)) := hw2.alloc (by omega) _;refine hd_call (fun K hK => ?_);go_simp
     refine hK _ _ (HMB.out.later hw3 (by omega)) ?_;clear hK K;have HO2 := Lib.hid (own_keep (own_keep (own_keep HO.out hb1) hb2) (by (repeat (first | assumption | exact Below.refl _ _ | apply Below.drew | apply below_drewN | (refine Below.alloc ?_ (by first | exact Nat.le_refl _ | omega | (simp; done) | (simp; omega)) _))) : RowKit.Below w2.heap.size w2 (w2.alloc (.cells #[.slice A2 q1.length c2] 22))));refine hd_append_own_at (by rfl) (.tmp 19) (.tmp 26) 152 rfl W.heap.size 22 i0 _ 1 24 Tryz.underlying152 hi hz0 hz1 hz2 rfl (by omega) u5 ms.length (flatG NsM.cells ms) rfl HO2.out ⟨w2.heap.size, 0, none⟩ 1 1 [.slice A2 q1.length c2] rfl rfl (cell_one_new _ _ _) (by simp [Value.oneCell']) (by unfold maxLen; omega) (by omega) (by simp; omega) ?_;intro v6 w6 hown6 hgrow6 _ hloc6;have hb6 : RowKit.Below W.heap.size W w6 := hw3.grown hgrow6 (by simp; omega) (fun q hq => (own_lt HO.out hq).1);refine ⟨HMB.out.later hb6 (by omega), ?_⟩;(repeat (first | (refine hd_take (v := ?_) (by rfl) ?_ ?_; rotate_left; (focus (intro W hW; obtain ⟨s0, s1, s2, s3⟩ := hW; go_simp; try with_reducible rfl)); simp only [Act.put, List.setIfInBounds_toArray, List.set_cons_zero, List.set_cons_succ]) | (refine hd_skip (by rfl) ?_; simp only [Act.put, List.setIfInBounds_toArray, List.set_cons_zero, List.set_cons_succ])))
     refine hd_nil ?_;have hq1 := HP.out.out p (List.mem_of_getElem? HPP.out) q1 HQ.out;have HN2 : Hid (NsOff w2 u5.ownBlock ⟨A2, c2, q1⟩) := NsGood.fresh (B := w1.heap.size) ⟨hs2, hc2, hcm2⟩ hn2 (fun b hb => Nat.lt_of_lt_of_le (own_lt HO.out hb).2 hv1);have HN6 := Lib.hid (collect (x := ⟨A2, c2, q1⟩) (wr := w2) (by (repeat (first | assumption | exact Below.refl _ _ | apply Below.drew | apply below_drewN | (refine Below.alloc ?_ (by first | exact Nat.le_refl _ | omega | (simp; done) | (simp; omega)) _)))) (fun y hy => ((HN.out y hy).later hb1).later hb2) (HN2.out.later (by (repeat (first | assumption | exact Below.refl _ _ | apply Below.drew | apply below_drewN | (refine Below.alloc ?_ (by first | exact Nat.le_refl _ | omega | (simp; done) | (simp; omega)) _))))) hgrow6 hloc6);have HM6 : Hid (allSome ((ps.take (j + 1)).map (movGo m vals k)) = some ((ms ++ [(⟨A2, c2, q1⟩ : NsM)]).map NsM.e)) := by
      show _ = _;rw [allSome_snoc _ ps _ j p q1 HM.out HPP.out HQ.out, List.map_append]; rfl
     have HA6 : Hid (z = 1 + (ps.take (j + 1)).flatten.length) := (by show _ = _; rw [flat_step HPP.out, ← HZ.out, HA.out]; omega);have hm6 : (ms ++ [(⟨A2, c2, q1⟩ : NsM)]).length ≤ 199 := (by rw [List.length_append, List.length_singleton]; have := hml.out; omega);go_wp2_with fail
     exact ⟨⟨j + 1, ms ++ [⟨A2, c2, q1⟩], z, by go_num, by omega, hze, HA6, HM6, hm6, by rw [List.length_append, ns_snoc]; exact hown6, HN6, hb6⟩, by simp [intOf]; omega⟩
  · have hjp : j = ps.length := (by omega);have HM2 : Hid (allSome (ps.map (movGo m vals k)) = some (ms.map NsM.e)) := by
     have := HM.out;rw [hjp, List.take_of_length_le (Nat.le_refl _)] at this;exact this
    have hae : ¬ a < e.length := by
     have h1 := HA.out;have h2 := HL1.out;rw [hjp, List.take_of_length_le (Nat.le_refl _)] at h1;omega
    have HPE : Hid (∀ y ∈ ms, y.e ≠ []) := by
     intro y hy;rcases allSome_cases (movGo m vals k) ps with h | ⟨qs, h, _, h'⟩
     · rw [HM2.out] at h; cases h
     · rw [HM2.out] at h;injection h with h
       obtain ⟨p, hp, hpq⟩ := h' y.e (by rw [← h]; exact List.mem_map_of_mem hy);obtain ⟨⟨b, hb⟩, _⟩ := HP.out.out p hp _ hpq;obtain ⟨z, r, e, _⟩ := ex_ne hb;rw [e]; simp
    have hcl : (catN ms).length ≤ 199 := by
     have h1 := allSome_len _ _ _ HM2.out (fun p hp q hq => (HP.out.out p hp q hq).2);rw [← nss_map' rfl] at h1;have := HL1.out;omega
    obtain ⟨-, Ap, cp, hv, hcp, hcm', hsp⟩ := own_formG ns_ok HO.out;subst hv;have hbr' : b < wr.heap.size := (by have := hwr.size; omega);have HD : Hid (NdAt wr b of x) := ⟨(hwr.cell (p := ⟨b, of, none⟩) hb).trans d0, (hwr.cell (p := ⟨b, of + 1, none⟩) hb).trans d1, (hwr.cell (p := ⟨b, of + 2, none⟩) hb).trans d2, (hwr.cell (p := ⟨b, of + 3, none⟩) hb).trans d3⟩;have f0 := HD.out.c0;have HSRT := Lib.hid (sort_parts HO.out (by omega) HPE.out HN.out);have hbg : ∀ b', (Value.slice Ap ms.length cp).ownBlock = some b' → W.heap.size ≤ b' := fun b' h => (own_lt HO.out h).1;have HBG := Lib.hid hbg;clear d0 d1 d2 d3 hsp HO HN HM hml HA hbg;go_wp2_with fail
    refine HSRT.out.mono ?_;rintro r w5 ⟨rfl, ds, hp5, hs5, ho5, hn5, hg5⟩;obtain ⟨-, Ap2, cp2, hv2, hcp2, hcm2', hsp2⟩ := own_formG ns_ok ho5;injection hv2 with hva hvb hvc
    subst hva hvc;have hl5 : ds.length = ms.length := hp5.length_eq;have hb5 : RowKit.Below W.heap.size W w5 := hbr.grown hg5 hzr (fun q hq => HBG.out q hq);have hw5 : RowKit.Below w.heap.size w w5 := hbW.trans (hb5.mono (by omega));have HN5 := Lib.hid hn5;have HS5 : Hid (NssAt w5 Ap ds) := ⟨by rw [hl5] at *; exact hsp2, fun y hy => (hn5 y hy).good⟩;have HR5 := Lib.hid hs5;have HP5 := Lib.hid hp5;have HQ5 : Hid (∀ y ∈ ds, y.e ≠ []) := fun y hy => HPE.out y (hp5.mem_iff.1 hy);have HL5 := Lib.hid hl5;have HD5 : Hid (NdAt w5 b of x) := HD.out.keep (B := w.heap.size) hb (fun p hp => (hw5.cell hp).trans (hwr.cell hp).symm);have HM5 := Lib.hid (HMB.out.later hb5 (by omega));have hz5 : wr.heap.size ≤ w5.heap.size := hg5.size;have hbw5 : b < w5.heap.size := (by omega);have hlw5 : w.heap.size < w5.heap.size := (by have := hb5.size; omega);clear hsp2 hn5 hs5 hp5 ho5 hg5 HD HSRT f0 hbr' hbr hwr hae hl5;obtain ⟨wo, hwo⟩ : ∃ wo : World, wo = wr := ⟨_, rfl⟩;clear hwo;go_wp2_with fail
    go_loopw [39] (fun kk wr => ∃ i : Nat, kk = .int .i64 i ∧ i ≤ ms.length ∧ Hid (∀ (t : Nat) (y z : NsM), t + 1 < i → ds[t]? = some y → ds[t + 1]? = some z → (headS z.e).toList ≠ (headS y.e).toList) ∧ RowKit.Below w5.heap.size w5 wr) (fun kk _ => ms.length - (intOf kk).toNat)
    case atStart => exact ⟨0, rfl, by omega, fun t y z h => by omega, RowKit.Below.refl _ _⟩
    case round =>
     obtain ⟨i, rfl, hi', HI, hbi⟩ := hrel;have hzi := hbi.size;by_cases hlt : i < ms.length
     · cases i with
       | zero =>
        go_wp2_with fail
        go_quiet (fail)
        go_wp2_with fail
        exact ⟨⟨1, by go_num, by omega, fun t y z h => by omega, below_drewN hbi _⟩, by simp [intOf]; omega⟩
       | succ t =>
        obtain ⟨⟨A1, c1, e1⟩, hx1⟩ : ∃ y, ds[t]? = some y := ⟨_, List.getElem?_eq_getElem (by rw [HL5.out]; omega)⟩;obtain ⟨⟨A2, c2, e2⟩, hx2⟩ : ∃ y, ds[t + 1]? = some y := ⟨_, List.getElem?_eq_getElem (by rw [HL5.out]; omega)⟩;have hN := HS5.out.later hbi;obtain ⟨b1, o1, hA1, hb1, hc1⟩ := nsSl_at hN.sl hx1;obtain ⟨b2, o2, hA2, hb2, hc2⟩ := nsSl_at hN.sl hx2;rw [hA1] at hA2;injection hA2 with hA2
        injection hA2 with hA2 hA3
        subst hA2 hA3;obtain ⟨y1, r1, he1⟩ := List.exists_cons_of_ne_nil (HQ5.out _ (List.mem_of_getElem? hx1));obtain ⟨y2, r2, he2⟩ := List.exists_cons_of_ne_nil (HQ5.out _ (List.mem_of_getElem? hx2));simp only at he1 he2;subst he1 he2;obtain ⟨g1, p1, hg1, hgb1, hgc1⟩ := (hN.good _ (List.mem_of_getElem? hx1)).sl (by simp);obtain ⟨g2, p2, hg2, hgb2, hgc2⟩ := (hN.good _ (List.mem_of_getElem? hx2)).sl (by simp);simp only at hg1 hg2;subst hg1 hg2;have a1 := (hgc1 0 y1 rfl).c2;have a2 := (hgc2 0 y2 rfl).c2;rw [Nat.zero_mul, Nat.add_zero] at a1 a2;simp only [List.length_cons] at hc1 hc2;have HX1 := Lib.hid hx1;have HX2 := Lib.hid hx2;subst hA1;clear hgc1 hgc2 hN hx1 hx2;have i1 : (0 : Int) < ((r1.length + 1 : Nat) : Int) := (by omega);have i2 : (0 : Int) < ((r2.length + 1 : Nat) : Int) := (by omega);generalize r1.length + 1 = n1 at *;generalize r2.length + 1 = n2 at *;have lt1 : t < ms.length := (by omega);have j1 : IntKind.i64.wrap ((t : Int) + 1 - 1) = (t : Int) := (by rw [show (t : Int) + 1 - 1 = t from by omega, IntKind.wrap_i64]; omega);have ld : decide (0 < t + 1) = true := (by simp);by_cases hqq : y2.s.toList = y1.s.toList
        · have tq : (y2.s.toList == y1.s.toList) = true := (by simp [hqq]);have HOT : Hid (o = none) := by
           show _ = _;rw [HV.out, HM2.out];simp only;rw [if_neg (rise_twice (HP5.out.map NsM.e) (j := t) (a := y1 :: r1) (b := y2 :: r2) (by rw [List.getElem?_map, HX1.out]; rfl) (by rw [List.getElem?_map, HX2.out]; rfl) (by rw [headS_cons, headS_cons]; exact hqq))]
          clear hqq;go_wp2_with fail
          go_quiet (fail)
          go_wp2_with fail
          rw [HOT.out];exact ⟨rfl, MvPost.twice (below_drewN (hw5.trans (hbi.mono hw5.size)) _)⟩
        · have tq : (y2.s.toList == y1.s.toList) = false := (by simp [hqq]);have HI2 : Hid (∀ (t' : Nat) (y z : NsM), t' + 1 < t + 1 + 1 → ds[t']? = some y → ds[t' + 1]? = some z → (headS z.e).toList ≠ (headS y.e).toList) := by
           intro t' y z h1 h2 h3;by_cases ht : t' = t
           · subst ht;have e1 := HX1.out;have e2 := HX2.out;rw [h2] at e1;rw [h3] at e2;injection e1 with e1
             injection e2 with e2
             subst e1 e2;exact hqq
           · exact HI.out t' y z (by omega) h2 h3
          clear hqq;go_wp2_with fail
          go_quiet (fail)
          go_wp2_with fail
          exact ⟨⟨t + 1 + 1, by go_num, by omega, HI2, below_drewN hbi _⟩, by simp [intOf]; omega⟩
     · have hin : i = ms.length := (by omega);have HSO := Lib.hid (rise_done (HP5.out.map NsM.e) HR5.out (by
        intro j a b ha hb;rw [List.getElem?_map] at ha hb;obtain ⟨a', ha', rfl⟩ := Option.map_eq_some_iff.1 ha;obtain ⟨b', hb', rfl⟩ := Option.map_eq_some_iff.1 hb;exact HI.out j a' b' (by have := (List.getElem?_eq_some_iff.1 hb').1; have := HL5.out; omega) ha' hb'))
       have HOV : Hid (o = some (ren m x :: catN ds)) := by
        show _ = _;rw [HV.out, HM2.out];simp only;rw [if_pos HSO.out.1, ← HSO.out.2, nss_map' rfl]
       have hcl5 : (catN ds).length ≤ 199 := by
        have e1 : (catN ds).length = (catN ms).length := by
         rw [nss_map' (ms := ds) rfl, nss_map' (ms := ms) rfl];exact (HP5.out.map NsM.e).flatten.length_eq
        omega
       have hmd : ds.length = ms.length := HL5.out;have hmd2 : ds.length ≤ 199 := (by omega);rw [← hmd];have hwr : RowKit.Below w.heap.size w wr := hw5.trans (hbi.mono hw5.size);have hbr' : b < wr.heap.size := (by omega);have hlw : w.heap.size < wr.heap.size := (by omega);have HD : Hid (NdAt wr b of x) := HD5.out.keep (B := w5.heap.size) hbw5 (fun p hp => hbi.cell hp);have f0 := HD.out.c0;have HMr := Lib.hid (HM5.out.later hbi hlw5);have HNS : Hid (NssAt wr Ap ds) := HS5.out.later hbi;have HNM := Lib.hid (fun W => move_named m x W);have qi : ∀ W, (Instr.indexAt 22 (.slice (some ⟨b, of, none⟩) e.length c) (.int .i64 0)).run Tryz.prog W = .ok (.pointer (some ⟨b, of, none⟩)) W := by
        intro W;go_simp
        intro h;rw [h] at he0;simp at he0
       have hlt2 : ¬ i < ds.length := (by omega);clear HSO HI HV hmd hin;go_wp2_with fail
       refine wp_region_hd (S := fun W' => MBox m vals w.heap.size W' ∧ NdAt W' b of x) [false, false, false, false, false, true, true, false] (by kernel_rfl) (by kernel_rfl) (fun _ _ _ _ _ h => h) ⟨⟨HMr.out.c0, HMr.out.c1, HMr.out.c2, HMr.out.c3⟩, ⟨HD.out.c0, HD.out.c1, HD.out.c2, HD.out.c3⟩⟩ (fun hW' => ?_);simp only [List.zip_cons_cons, List.zip_nil_left];(repeat (first | (refine hd_take (v := ?_) (by rfl) ?_ ?_; rotate_left; (focus (intro W hW; obtain ⟨⟨s0, s1, s2, s3⟩, ⟨s4, s5, s6, s7⟩⟩ := hW; go_simp; try with_reducible rfl)); simp only [Act.put, List.setIfInBounds_toArray, List.set_cons_zero, List.set_cons_succ]) | (refine hd_skip (by rfl) ?_; simp only [Act.put, List.setIfInBounds_toArray, List.set_cons_zero, List.set_cons_succ])))
       refine hd_call (fun K hK => ?_);go_simp
       refine (HNM.out _).mono ?_;rintro r w2 ⟨rfl, hb2'⟩;have hb2 := below_of_drew hb2';refine hK _ _ ⟨HMr.out.later hb2 hlw, ⟨(hb2.cell (p := ⟨b, of, none⟩) hbr').trans HD.out.c0, (hb2.cell (p := ⟨b, of + 1, none⟩) hbr').trans HD.out.c1, (hb2.cell (p := ⟨b, of + 2, none⟩) hbr').trans HD.out.c2, (hb2.cell (p := ⟨b, of + 3, none⟩) hbr').trans HD.out.c3⟩⟩ ?_;clear hK K;have hb3 : RowKit.Below w.heap.size w w2 := hwr.trans (hb2.mono hwr.size);have hz3 := hb3.size;refine hd_call (fun K hK => ?_);go_simp
       refine hK _ _ ⟨(HMr.out.later hb2 hlw).later (RowKit.Below.alloc (RowKit.Below.refl w2.heap.size w2) (Nat.le_refl _) _) (by have := hb2.size; omega), HD.out.keep (B := wr.heap.size) hbr' (fun p hp => ((RowKit.Below.alloc (RowKit.Below.refl w2.heap.size w2) (Nat.le_refl _) _).cell (by have := hb2.size; omega)).trans (hb2.cell hp))⟩ ?_;clear hK K;(repeat (first | (refine hd_take (v := ?_) (by rfl) ?_ ?_; rotate_left; (focus (intro W hW; obtain ⟨⟨s0, s1, s2, s3⟩, ⟨s4, s5, s6, s7⟩⟩ := hW; go_simp; try with_reducible rfl)); simp only [Act.put, List.setIfInBounds_toArray, List.set_cons_zero, List.set_cons_succ]) | (refine hd_skip (by rfl) ?_; simp only [Act.put, List.setIfInBounds_toArray, List.set_cons_zero, List.set_cons_succ])))
       refine hd_nil ?_;have HOL := Lib.hid (World.ownsRow_lit (base := w.heap.size) (e := 37) (size := 4) w2 #[.int .i64 (ren m x).op, .int .i64 (ren m x).n, .string (ren m x).s, .string (ren m x).t] 1 (by omega) (by decide) (by simp));have hb4 : RowKit.Below w2.heap.size w2 (w2.alloc (.cells #[.int .i64 (ren m x).op, .int .i64 (ren m x).n, .string (ren m x).s, .string (ren m x).t] 37)) := (by (repeat (first | assumption | exact Below.refl _ _ | apply Below.drew | apply below_drewN | (refine Below.alloc ?_ (by first | exact Nat.le_refl _ | omega | (simp; done) | (simp; omega)) _))));have HN4 := Lib.hid ((HNS.out.later hb2).later hb4);have hb5 : RowKit.Below w.heap.size w (w2.alloc (.cells #[.int .i64 (ren m x).op, .int .i64 (ren m x).n, .string (ren m x).s, .string (ren m x).t] 37)) := hb3.trans (hb4.mono hz3);generalize w2.alloc (.cells #[.int .i64 (ren m x).op, .int .i64 (ren m x).n, .string (ren m x).s, .string (ren m x).t] 37) = w3 at *;clear hb4;go_wp2_with fail
       refine (concat_nodes ds Ap cp w3 HN4.out HQ5.out (by omega) (by omega)).mono ?_;rintro r w4 ⟨A4, c4, rfl, h41, h42, h43, h44, h45⟩;have hb6 : RowKit.Below w.heap.size w w4 := hb5.trans (h44.mono hb5.size);have HO4 := Lib.hid (own_keep HOL.out h44);by_cases hcn : catN ds = []
       · have HCN := Lib.hid hcn;rw [hcn] at h41 h43;try rw [hcn]
         clear hcn h43 h44 h45 h41;cases A4 with
         | none =>
          go_wp2_with (at_builtin; refine wpList_append_zero rfl (.tmp 88) (.tmp 90) 22 rfl w.heap.size 37 j0 4 Tryz.underlying22 hj _ 1 _ rfl HO4.out c4 rfl ?_)
          go_ret
          rw [HOV.out, HCN.out];exact MvPost.own (n := 1) HO4.out hb6
         | some ad =>
          go_wp2_with (at_builtin; refine wpList_append_own _ rfl (.tmp 88) (.tmp 90) 22 rfl w.heap.size 37 j0 _ 4 48 Tryz.underlying22 hj hy0 hy1 hy2 rfl (by omega) _ 1 _ rfl HO4.out ad 0 c4 [] rfl rfl (by simp) (by simp) (by unfold maxLen; omega) (by omega) (by have := hb6.size; omega) ?_; intro v7 w7 hown7 hgrow7 _)
          have hb7 : RowKit.Below w.heap.size w w7 := hb6.grown hgrow7 hb6.size (fun q hq => (HO4.out.lt q hq).1);go_wp2_with fail
          have HO7 := Lib.hid hown7;clear hown7;go_ret
          rw [HOV.out, HCN.out];exact MvPost.own (n := 1) (by have := HO7.out; rw [List.append_nil] at this; exact this) hb7
       · obtain ⟨b4, o4, rfl, hb4, hs4⟩ := h43 hcn;have HS4 := Lib.hid (fun j u hu => NdSl.flat h43 j u hu);clear h43 h44 h45 hs4 hcn;go_wp2_with (at_builtin; refine wpList_append_own _ rfl (.tmp 88) (.tmp 90) 22 rfl w.heap.size 37 j0 _ 4 48 Tryz.underlying22 hj hy0 hy1 hy2 rfl (by omega) _ 1 _ rfl HO4.out ⟨b4, o4, none⟩ (catN ds).length c4 (flat (catN ds)) rfl (flat_len _) HS4.out (flat_one_cell _) (by unfold maxLen; omega) (by omega) (by have := hb6.size; omega) ?_; intro v7 w7 hown7 hgrow7 _)
         have hb7 : RowKit.Below w.heap.size w w7 := hb6.grown hgrow7 hb6.size (fun q hq => (HO4.out.lt q hq).1);go_wp2_with fail
         have HO7 := Lib.hid hown7;clear hown7;go_ret
         rw [HOV.out];refine MvPost.own (n := 1 + (catN ds).length) ?_ hb7;have := HO7.out;simpa [flat, Nd.cells] using this
end Go.Proofs.YtpheiojmcafolaaGreatDoor
