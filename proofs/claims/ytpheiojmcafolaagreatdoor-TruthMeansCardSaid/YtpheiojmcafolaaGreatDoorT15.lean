/-
  THE WALKS: (*eval.evaluation).double.
  SLICES OF STRINGS in memory; slices.Sort on a row of the call's own.
  THE WALKS: slices.Values of texts, and what collects and sorts them.
  THE WALKS: val.RecOf, of values with good names.
  THE WALKS: val.RecOf.
-/
import Derived.Test.YtpheiojmcafolaaGreatDoorT14
import Derived.Test.YtpheiojmcafolaaGreatDoorT01
import Derived.Test.YtpheiojmcafolaaGreatDoorT07
import Derived.Sort.OwnSorted
import Derived.Test.YtpheiojmcafolaaGreatDoorT09
import Derived.RangeFuncBox
import Derived.RangeFuncLeaves
import Derived.Shelf.Abstract
import Derived.OwnWalkIn
import Derived.TacticsInMore
import Derived.LoopNIn
import Derived.LoopIn
import Derived.Maps.AppendAt
import Derived.Test.YtpheiojmcafolaaGreatDoorT13
import Derived.Test.YtpheiojmcafolaaGreatDoorT02
import Derived.Maps.OwnSet
import Derived.StringKeys
import Derived.Maps.Views
namespace Go.Proofs.YtpheiojmcafolaaGreatDoor
set_option maxRecDepth 100000
open Go.RowKit Go.Sort
theorem one_bad {a b : List Nd} {k : Int} (ha : valErr a = 0) (hb : valErr b = 0) (h : bagHas a b = .bad k) : k ≠ 0 := by
  unfold bagHas at h
  rw [if_neg (by simp [ha]), if_neg (by simp [hb])] at h
  split at h
  · cases h
  · injection h with h; omega
theorem two_bad {f : List (List Nd) → List (List Nd) → Bool} {a b : List Nd} {k : Int} (ha : valErr a = 0) (hb : valErr b = 0) (h : bagTwo f a b = .bad k) : k ≠ 0 := by
  rw [bagTwo_of f ha hb] at h
  split at h
  · cases h
  · injection h with h; omega
theorem all_bad' {a b : List Nd} {k : Int} (ha : valErr a = 0) (hb : valErr b = 0) (h : bagAll a b = .bad k) : k ≠ 0 := two_bad ha hb h
theorem any_bad {a b : List Nd} {k : Int} (ha : valErr a = 0) (hb : valErr b = 0) (h : bagAny a b = .bad k) : k ≠ 0 := two_bad ha hb h
set_option maxHeartbeats 6400000 in
theorem double_eq (xb : Nat) (a b : List Nd) (A B : Option Addr) (c d : Nat) (w : World) (es : List En) (ha : ValIn a A c w) (hb : ValIn b B d w) :
    Calls Tryz.prog 90 #[.pointer (some ⟨xb, 0, none⟩), .int .i64 14, .slice A a.length c, .slice B b.length d] w fun r w' => RsBack w r w' (doubleR es 14 a b) := by
  have HE := Lib.hid (equal_val a b A B c d w ha.sl hb.sl (by have := ha.le; have := ha.max; omega))
  have HQ : Hid (doubleR es 14 a b = .ok [bN (decide (a = b))]) := rfl
  rw [HQ.out]
  generalize decide (a = b) = q at HE ⊢
  clear ha hb HQ
  go_enter Tryz.func90, Tryz.ntmps90
  go_wp2_with fail
  refine HE.out.mono ?_
  rintro r w1 ⟨rfl, hb1⟩
  have HB1 := Lib.hid hb1
  clear hb1
  go_wp2_with fail
  refine (eval_truth q w1).mono ?_
  rintro r w2 hnew
  have HN := Lib.hid (NdsNew.from hnew HB1.out)
  obtain ⟨A2, c2, rfl, -⟩ := hnew
  go_wp2_with fail
  go_ret
  exact RsBack.ok HN.out
set_option maxHeartbeats 6400000 in
theorem double_in (xb : Nat) (a b : List Nd) (A B : Option Addr) (c d : Nat) (w : World) (x : Evl) (i : Nat) (hx : EvIn x xb w) (hB : Blk w xb 99 (x.cells i)) (ha : ValIn a A c w) (hb : ValIn b B d w) :
    Calls Tryz.prog 90 #[.pointer (some ⟨xb, 0, none⟩), .int .i64 20, .slice A a.length c, .slice B b.length d] w fun r w' => RsBack w r w' (doubleR x.es 20 a b) := by
  have HI := Lib.hid (eval_in x xb i a b A B c d w hx hB ha hb)
  have HQ : Hid (doubleR x.es 20 a b = (inR' x.es a b).bind fun r => .ok [bN r]) := rfl
  rw [HQ.out]
  generalize inR' x.es a b = q at HI ⊢
  clear hx hB ha hb HQ
  go_enter Tryz.func90, Tryz.ntmps90
  go_wp2_with fail
  refine HI.out.mono ?_
  rintro r w1 ⟨hr1, hr2, hb1⟩
  have HB1 := Lib.hid hb1
  clear hb1
  cases q with
  | ok t =>
    have hr := hr1 t rfl
    subst hr
    clear hr1 hr2
    go_wp2_with fail
    refine (eval_truth t w1).mono ?_
    rintro r w2 hnew
    have HN := Lib.hid (NdsNew.from hnew HB1.out)
    obtain ⟨A2, c2, rfl, -⟩ := hnew
    go_wp2_with fail
    go_ret
    exact RsBack.ok HN.out
  | bad k =>
    have hr := hr2 k rfl
    subst hr
    clear hr1 hr2
    go_wp2_with fail
    exact ⟨rfl, RsBack.no HB1.out⟩
set_option maxHeartbeats 6400000 in
theorem double_one (xb : Nat) (a b : List Nd) (A B : Option Addr) (c d : Nat) (w : World) (es : List En) (ha : ValIn a A c w) (hb : ValIn b B d w) (hg : ErrCell w) :
    Calls Tryz.prog 90 #[.pointer (some ⟨xb, 0, none⟩), .int .i64 25, .slice A a.length c, .slice B b.length d] w fun r w' => RsBack w r w' (doubleR es 25 a b) := by
  have HI := Lib.hid (bag_Has a b A B c d w ha hb)
  have HERR := Lib.hid (fun W (hW : RowKit.Below w.heap.size w W) => hg.below hW hg.lt)
  have HQ : Hid (doubleR es 25 a b = (bagHas a b).bind fun r => .ok [bN r]) := rfl
  rw [HQ.out]
  have HQE : Hid (∀ k, bagHas a b = .bad k → k ≠ 0) := fun k hk => one_bad ha.ok hb.ok hk
  generalize bagHas a b = q at HI HQE ⊢
  clear ha hb HQ hg
  go_enter Tryz.func90, Tryz.ntmps90
  go_wp2_with fail
  refine HI.out.mono ?_
  rintro r w1 ⟨rfl, hb1⟩
  have HB1 := Lib.hid hb1
  clear hb1
  go_wp2_with fail
  refine (told_bool (.bool (rsB q)) (rsE q) w1 (HERR.out w1 HB1.out)).mono ?_
  rintro r w2 ⟨hr, hb2⟩
  have HB2 := Lib.hid (HB1.out.trans (hb2.mono HB1.out.size))
  clear hb2
  cases q with
  | ok t =>
    have hr2 := hr.1 rfl
    subst hr2
    clear hr
    go_wp2_with fail
    refine (eval_truth t w2).mono ?_
    rintro r w3 hnew
    have HN := Lib.hid (NdsNew.from hnew HB2.out)
    obtain ⟨A2, c2, rfl, -⟩ := hnew
    go_wp2_with fail
    go_ret
    exact RsBack.ok HN.out
  | bad k =>
    have hr2 := hr.2 (HQE.out k rfl)
    subst hr2
    clear hr
    go_wp2_with fail
    exact ⟨rfl, RsBack.no HB2.out⟩
set_option maxHeartbeats 6400000 in
theorem double_all (xb : Nat) (a b : List Nd) (A B : Option Addr) (c d : Nat) (w : World) (es : List En) (ha : ValIn a A c w) (hb : ValIn b B d w) (hg : ErrCell w) :
    Calls Tryz.prog 90 #[.pointer (some ⟨xb, 0, none⟩), .int .i64 26, .slice A a.length c, .slice B b.length d] w fun r w' => RsBack w r w' (doubleR es 26 a b) := by
  have HI := Lib.hid (bag_All a b A B c d w ha hb)
  have HERR := Lib.hid (fun W (hW : RowKit.Below w.heap.size w W) => hg.below hW hg.lt)
  have HQ : Hid (doubleR es 26 a b = (bagAll a b).bind fun r => .ok [bN r]) := rfl
  rw [HQ.out]
  have HQE : Hid (∀ k, bagAll a b = .bad k → k ≠ 0) := fun k hk => all_bad' ha.ok hb.ok hk
  generalize bagAll a b = q at HI HQE ⊢
  clear ha hb HQ hg
  go_enter Tryz.func90, Tryz.ntmps90
  go_wp2_with fail
  refine HI.out.mono ?_
  rintro r w1 ⟨rfl, hb1⟩
  have HB1 := Lib.hid hb1
  clear hb1
  go_wp2_with fail
  refine (told_bool (.bool (rsB q)) (rsE q) w1 (HERR.out w1 HB1.out)).mono ?_
  rintro r w2 ⟨hr, hb2⟩
  have HB2 := Lib.hid (HB1.out.trans (hb2.mono HB1.out.size))
  clear hb2
  cases q with
  | ok t =>
    have hr2 := hr.1 rfl
    subst hr2
    clear hr
    go_wp2_with fail
    refine (eval_truth t w2).mono ?_
    rintro r w3 hnew
    have HN := Lib.hid (NdsNew.from hnew HB2.out)
    obtain ⟨A2, c2, rfl, -⟩ := hnew
    go_wp2_with fail
    go_ret
    exact RsBack.ok HN.out
  | bad k =>
    have hr2 := hr.2 (HQE.out k rfl)
    subst hr2
    clear hr
    go_wp2_with fail
    exact ⟨rfl, RsBack.no HB2.out⟩
set_option maxHeartbeats 6400000 in
theorem double_any (xb : Nat) (a b : List Nd) (A B : Option Addr) (c d : Nat) (w : World) (es : List En) (ha : ValIn a A c w) (hb : ValIn b B d w) (hg : ErrCell w) :
    Calls Tryz.prog 90 #[.pointer (some ⟨xb, 0, none⟩), .int .i64 27, .slice A a.length c, .slice B b.length d] w fun r w' => RsBack w r w' (doubleR es 27 a b) := by
  have HI := Lib.hid (bag_Any a b A B c d w ha hb)
  have HERR := Lib.hid (fun W (hW : RowKit.Below w.heap.size w W) => hg.below hW hg.lt)
  have HQ : Hid (doubleR es 27 a b = (bagAny a b).bind fun r => .ok [bN r]) := rfl
  rw [HQ.out]
  have HQE : Hid (∀ k, bagAny a b = .bad k → k ≠ 0) := fun k hk => any_bad ha.ok hb.ok hk
  generalize bagAny a b = q at HI HQE ⊢
  clear ha hb HQ hg
  go_enter Tryz.func90, Tryz.ntmps90
  go_wp2_with fail
  refine HI.out.mono ?_
  rintro r w1 ⟨rfl, hb1⟩
  have HB1 := Lib.hid hb1
  clear hb1
  go_wp2_with fail
  refine (told_bool (.bool (rsB q)) (rsE q) w1 (HERR.out w1 HB1.out)).mono ?_
  rintro r w2 ⟨hr, hb2⟩
  have HB2 := Lib.hid (HB1.out.trans (hb2.mono HB1.out.size))
  clear hb2
  cases q with
  | ok t =>
    have hr2 := hr.1 rfl
    subst hr2
    clear hr
    go_wp2_with fail
    refine (eval_truth t w2).mono ?_
    rintro r w3 hnew
    have HN := Lib.hid (NdsNew.from hnew HB2.out)
    obtain ⟨A2, c2, rfl, -⟩ := hnew
    go_wp2_with fail
    go_ret
    exact RsBack.ok HN.out
  | bad k =>
    have hr2 := hr.2 (HQE.out k rfl)
    subst hr2
    clear hr
    go_wp2_with fail
    exact ⟨rfl, RsBack.no HB2.out⟩
structure DbS (b1 o1 b2 o2 : Nat) (m n : Int) (w0 W : World) : Prop where
  s0 : W.cell? ⟨b1, o1 + 1, none⟩ = some (.int .i64 m)
  s1 : W.cell? ⟨b2, o2 + 1, none⟩ = some (.int .i64 n)
  eq : W = w0.drew
theorem doubleR_num {es : List En} {op : Int} {a b : List Nd} (ho : op = 15 ∨ op = 16 ∨ op = 17 ∨ op = 18 ∨ op = 19) : doubleR es op a b = if opH a = 2 then (if opH b = 2 then (if op = 15 then .ok [bN (decide (nH a < nH b))] else if op = 16 then .ok [bN (decide (nH a ≤ nH b))] else (numR op (nH a) (nH b)).bind fun n => .ok [nN n]) else .bad 2) else .bad 2 := by
  unfold doubleR mustV
  rw [if_neg (show ¬ op = 14 by omega), if_neg (show ¬ op = 20 by omega), if_neg (show ¬ op = 25 by omega), if_neg (show ¬ op = 26 by omega), if_neg (show ¬ op = 27 by omega)]
  simp only [Rs.bind]
  by_cases h1 : opH a = 2
  · simp only [h1, if_true]
    by_cases h2 : opH b = 2
    · simp only [h2, if_true]
    · simp only [h2, if_false]
  · simp only [h1, if_false]
set_option maxHeartbeats 6400000 in
theorem double_lt (xb : Nat) (a b : List Nd) (A B : Option Addr) (c d : Nat) (w : World) (es : List En) (ha : ValIn a A c w) (hb : ValIn b B d w) :
    Calls Tryz.prog 90 #[.pointer (some ⟨xb, 0, none⟩), .int .i64 15, .slice A a.length c, .slice B b.length d] w fun r w' => RsBack w r w' (doubleR es 15 a b) := by
  have HMA := Lib.hid (eval_must a 2 A c w.drew (ha.later (by (repeat (first | assumption | exact Below.refl _ _ | apply Below.drew | apply below_drewN | (refine Below.alloc ?_ (by first | exact Nat.le_refl _ | omega | (simp; done) | (simp; omega)) _))))))
  have HMB := Lib.hid (eval_must b 2 B d w.drew (hb.later (by (repeat (first | assumption | exact Below.refl _ _ | apply Below.drew | apply below_drewN | (refine Below.alloc ?_ (by first | exact Nat.le_refl _ | omega | (simp; done) | (simp; omega)) _))))))
  rw [doubleR_num (by omega)]
  obtain ⟨y, yr, b1, o1, hy, rfl, hb1, ⟨-, y1, -, -⟩, -, hny, -, -, hyl⟩ := ha.head
  obtain ⟨z, zr, b2, o2, hz, rfl, hb2, ⟨-, z1, -, -⟩, -, hnz, -, -, hzl⟩ := hb.head
  rw [hny, hnz]
  have hia := val_at0 b1 o1 a.length c hyl
  have hib := val_at0 b2 o2 b.length d hzl
  rw [if_pos rfl]
  obtain ⟨tq, htq⟩ : ∃ tq, decide (y.n < z.n) = tq := ⟨_, rfl⟩
  rw [htq]
  have HS0 : Hid (DbS b1 o1 b2 o2 y.n z.n w w.drew) := ⟨y1, z1, rfl⟩
  have HD : Hid (RowKit.Below w.heap.size w w.drew) := by show RowKit.Below _ _ _; (repeat (first | assumption | exact Below.refl _ _ | apply Below.drew | apply below_drewN | (refine Below.alloc ?_ (by first | exact Nat.le_refl _ | omega | (simp; done) | (simp; omega)) _)))
  have heq : (15 : Int) = 15 := rfl
  clear ha hb hy hz hny hnz hyl hzl heq
  by_cases h1 : opH a = 2
  · rw [if_pos h1]
    have H1 := Lib.hid h1
    clear h1
    by_cases h2 : opH b = 2
    · rw [if_pos h2]
      have H2 := Lib.hid h2
      clear h2
      go_enter Tryz.func90, Tryz.ntmps90
      go_wp2_with fail
      refine wp_region_ord (S := DbS b1 o1 b2 o2 y.n z.n w) [(0, false), (5, false), (1, true), (2, false), (3, false), (4, false), (6, true), (7, false), (8, false), (9, false), (10, false), (11, false)] (by kernel_rfl) (by kernel_rfl) (fun _ _ _ _ _ h => h) HS0.out (fun hW' => ?_)
      simp only [ordOps, List.filterMap_cons, List.filterMap_nil, List.getElem?_cons_zero, List.getElem?_cons_succ, Option.map_some]
      (repeat (first | (refine hd_take (v := ?_) (by rfl) ?_ ?_; rotate_left; (focus (intro W hW; obtain ⟨s0, s1, s2⟩ := hW; go_simp; try with_reducible rfl)); simp only [Act.put, List.setIfInBounds_toArray, List.set_cons_zero, List.set_cons_succ]) | (refine hd_skip (by rfl) ?_; simp only [Act.put, List.setIfInBounds_toArray, List.set_cons_zero, List.set_cons_succ])))
      refine hd_call (fun K hK => ?_)
      go_simp
      refine HMA.out.mono ?_
      rintro r w1 ⟨hr, rfl⟩
      have hr2 := hr.1 H1.out
      subst hr2
      refine hK _ _ HS0.out ?_
      clear hK K hr
      (repeat (first | (refine hd_take (v := ?_) (by rfl) ?_ ?_; rotate_left; (focus (intro W hW; obtain ⟨s0, s1, s2⟩ := hW; go_simp; try with_reducible rfl)); simp only [Act.put, List.setIfInBounds_toArray, List.set_cons_zero, List.set_cons_succ]) | (refine hd_skip (by rfl) ?_; simp only [Act.put, List.setIfInBounds_toArray, List.set_cons_zero, List.set_cons_succ])))
      refine hd_call (fun K hK => ?_)
      go_simp
      refine HMB.out.mono ?_
      rintro r w1 ⟨hr, rfl⟩
      have hr2 := hr.1 H2.out
      subst hr2
      refine hK _ _ HS0.out ?_
      clear hK K hr
      (repeat (first | (refine hd_take (v := ?_) (by rfl) ?_ ?_; rotate_left; (focus (intro W hW; obtain ⟨s0, s1, s2⟩ := hW; go_simp; try with_reducible rfl)); simp only [Act.put, List.setIfInBounds_toArray, List.set_cons_zero, List.set_cons_succ]) | (refine hd_skip (by rfl) ?_; simp only [Act.put, List.setIfInBounds_toArray, List.set_cons_zero, List.set_cons_succ])))
      refine hd_nil ?_
      go_wp2_with fail
      refine (eval_truth tq _).mono ?_
      rintro r w2 hnew
      have HN := Lib.hid (NdsNew.from hnew HD.out)
      obtain ⟨A2, c2, rfl, -⟩ := hnew
      go_wp2_with fail
      go_ret
      exact RsBack.ok HN.out
    · rw [if_neg h2]
      have H2 := Lib.hid h2
      clear h2
      go_enter Tryz.func90, Tryz.ntmps90
      go_wp2_with fail
      refine wp_region_ord (S := DbS b1 o1 b2 o2 y.n z.n w) [(0, false), (5, false), (1, true), (2, false), (3, false), (4, false), (6, true), (7, false), (8, false), (9, false), (10, false), (11, false)] (by kernel_rfl) (by kernel_rfl) (fun _ _ _ _ _ h => h) HS0.out (fun hW' => ?_)
      simp only [ordOps, List.filterMap_cons, List.filterMap_nil, List.getElem?_cons_zero, List.getElem?_cons_succ, Option.map_some]
      (repeat (first | (refine hd_take (v := ?_) (by rfl) ?_ ?_; rotate_left; (focus (intro W hW; obtain ⟨s0, s1, s2⟩ := hW; go_simp; try with_reducible rfl)); simp only [Act.put, List.setIfInBounds_toArray, List.set_cons_zero, List.set_cons_succ]) | (refine hd_skip (by rfl) ?_; simp only [Act.put, List.setIfInBounds_toArray, List.set_cons_zero, List.set_cons_succ])))
      refine hd_call (fun K hK => ?_)
      go_simp
      refine HMA.out.mono ?_
      rintro r w1 ⟨hr, rfl⟩
      have hr2 := hr.1 H1.out
      subst hr2
      refine hK _ _ HS0.out ?_
      clear hK K hr
      (repeat (first | (refine hd_take (v := ?_) (by rfl) ?_ ?_; rotate_left; (focus (intro W hW; obtain ⟨s0, s1, s2⟩ := hW; go_simp; try with_reducible rfl)); simp only [Act.put, List.setIfInBounds_toArray, List.set_cons_zero, List.set_cons_succ]) | (refine hd_skip (by rfl) ?_; simp only [Act.put, List.setIfInBounds_toArray, List.set_cons_zero, List.set_cons_succ])))
      refine hd_call (fun K hK => ?_)
      go_simp
      refine HMB.out.mono ?_
      rintro r w1 ⟨hr, rfl⟩
      have hr2 := hr.2 H2.out
      subst hr2
      dsimp only
      clear hK K hr
      go_wp2_with fail
      exact ⟨rfl, RsBack.no HD.out⟩
  · rw [if_neg h1]
    have H1 := Lib.hid h1
    clear h1
    go_enter Tryz.func90, Tryz.ntmps90
    go_wp2_with fail
    refine wp_region_ord (S := DbS b1 o1 b2 o2 y.n z.n w) [(0, false), (5, false), (1, true), (2, false), (3, false), (4, false), (6, true), (7, false), (8, false), (9, false), (10, false), (11, false)] (by kernel_rfl) (by kernel_rfl) (fun _ _ _ _ _ h => h) HS0.out (fun hW' => ?_)
    simp only [ordOps, List.filterMap_cons, List.filterMap_nil, List.getElem?_cons_zero, List.getElem?_cons_succ, Option.map_some]
    (repeat (first | (refine hd_take (v := ?_) (by rfl) ?_ ?_; rotate_left; (focus (intro W hW; obtain ⟨s0, s1, s2⟩ := hW; go_simp; try with_reducible rfl)); simp only [Act.put, List.setIfInBounds_toArray, List.set_cons_zero, List.set_cons_succ]) | (refine hd_skip (by rfl) ?_; simp only [Act.put, List.setIfInBounds_toArray, List.set_cons_zero, List.set_cons_succ])))
    refine hd_call (fun K hK => ?_)
    go_simp
    refine HMA.out.mono ?_
    rintro r w1 ⟨hr, rfl⟩
    have hr2 := hr.2 H1.out
    subst hr2
    dsimp only
    clear hK K hr
    go_wp2_with fail
    exact ⟨rfl, RsBack.no HD.out⟩
set_option maxHeartbeats 6400000 in
theorem double_le (xb : Nat) (a b : List Nd) (A B : Option Addr) (c d : Nat) (w : World) (es : List En) (ha : ValIn a A c w) (hb : ValIn b B d w) :
    Calls Tryz.prog 90 #[.pointer (some ⟨xb, 0, none⟩), .int .i64 16, .slice A a.length c, .slice B b.length d] w fun r w' => RsBack w r w' (doubleR es 16 a b) := by
  have HMA := Lib.hid (eval_must a 2 A c w.drew (ha.later (by (repeat (first | assumption | exact Below.refl _ _ | apply Below.drew | apply below_drewN | (refine Below.alloc ?_ (by first | exact Nat.le_refl _ | omega | (simp; done) | (simp; omega)) _))))))
  have HMB := Lib.hid (eval_must b 2 B d w.drew (hb.later (by (repeat (first | assumption | exact Below.refl _ _ | apply Below.drew | apply below_drewN | (refine Below.alloc ?_ (by first | exact Nat.le_refl _ | omega | (simp; done) | (simp; omega)) _))))))
  rw [doubleR_num (by omega)]
  obtain ⟨y, yr, b1, o1, hy, rfl, hb1, ⟨-, y1, -, -⟩, -, hny, -, -, hyl⟩ := ha.head
  obtain ⟨z, zr, b2, o2, hz, rfl, hb2, ⟨-, z1, -, -⟩, -, hnz, -, -, hzl⟩ := hb.head
  rw [hny, hnz]
  have hia := val_at0 b1 o1 a.length c hyl
  have hib := val_at0 b2 o2 b.length d hzl
  rw [if_neg (show ¬ (16 : Int) = 15 by omega), if_pos rfl]
  obtain ⟨tq, htq⟩ : ∃ tq, decide (y.n ≤ z.n) = tq := ⟨_, rfl⟩
  rw [htq]
  have HS0 : Hid (DbS b1 o1 b2 o2 y.n z.n w w.drew) := ⟨y1, z1, rfl⟩
  have HD : Hid (RowKit.Below w.heap.size w w.drew) := by show RowKit.Below _ _ _; (repeat (first | assumption | exact Below.refl _ _ | apply Below.drew | apply below_drewN | (refine Below.alloc ?_ (by first | exact Nat.le_refl _ | omega | (simp; done) | (simp; omega)) _)))
  have heq : (16 : Int) = 16 := rfl
  clear ha hb hy hz hny hnz hyl hzl heq
  by_cases h1 : opH a = 2
  · rw [if_pos h1]
    have H1 := Lib.hid h1
    clear h1
    by_cases h2 : opH b = 2
    · rw [if_pos h2]
      have H2 := Lib.hid h2
      clear h2
      go_enter Tryz.func90, Tryz.ntmps90
      go_wp2_with fail
      refine wp_region_ord (S := DbS b1 o1 b2 o2 y.n z.n w) [(0, false), (5, false), (1, true), (2, false), (3, false), (4, false), (6, true), (7, false), (8, false), (9, false), (10, false), (11, false)] (by kernel_rfl) (by kernel_rfl) (fun _ _ _ _ _ h => h) HS0.out (fun hW' => ?_)
      simp only [ordOps, List.filterMap_cons, List.filterMap_nil, List.getElem?_cons_zero, List.getElem?_cons_succ, Option.map_some]
      (repeat (first | (refine hd_take (v := ?_) (by rfl) ?_ ?_; rotate_left; (focus (intro W hW; obtain ⟨s0, s1, s2⟩ := hW; go_simp; try with_reducible rfl)); simp only [Act.put, List.setIfInBounds_toArray, List.set_cons_zero, List.set_cons_succ]) | (refine hd_skip (by rfl) ?_; simp only [Act.put, List.setIfInBounds_toArray, List.set_cons_zero, List.set_cons_succ])))
      refine hd_call (fun K hK => ?_)
      go_simp
      refine HMA.out.mono ?_
      rintro r w1 ⟨hr, rfl⟩
      have hr2 := hr.1 H1.out
      subst hr2
      refine hK _ _ HS0.out ?_
      clear hK K hr
      (repeat (first | (refine hd_take (v := ?_) (by rfl) ?_ ?_; rotate_left; (focus (intro W hW; obtain ⟨s0, s1, s2⟩ := hW; go_simp; try with_reducible rfl)); simp only [Act.put, List.setIfInBounds_toArray, List.set_cons_zero, List.set_cons_succ]) | (refine hd_skip (by rfl) ?_; simp only [Act.put, List.setIfInBounds_toArray, List.set_cons_zero, List.set_cons_succ])))
      refine hd_call (fun K hK => ?_)
      go_simp
      refine HMB.out.mono ?_
      rintro r w1 ⟨hr, rfl⟩
      have hr2 := hr.1 H2.out
      subst hr2
      refine hK _ _ HS0.out ?_
      clear hK K hr
      (repeat (first | (refine hd_take (v := ?_) (by rfl) ?_ ?_; rotate_left; (focus (intro W hW; obtain ⟨s0, s1, s2⟩ := hW; go_simp; try with_reducible rfl)); simp only [Act.put, List.setIfInBounds_toArray, List.set_cons_zero, List.set_cons_succ]) | (refine hd_skip (by rfl) ?_; simp only [Act.put, List.setIfInBounds_toArray, List.set_cons_zero, List.set_cons_succ])))
      refine hd_nil ?_
      go_wp2_with fail
      refine (eval_truth tq _).mono ?_
      rintro r w2 hnew
      have HN := Lib.hid (NdsNew.from hnew HD.out)
      obtain ⟨A2, c2, rfl, -⟩ := hnew
      go_wp2_with fail
      go_ret
      exact RsBack.ok HN.out
    · rw [if_neg h2]
      have H2 := Lib.hid h2
      clear h2
      go_enter Tryz.func90, Tryz.ntmps90
      go_wp2_with fail
      refine wp_region_ord (S := DbS b1 o1 b2 o2 y.n z.n w) [(0, false), (5, false), (1, true), (2, false), (3, false), (4, false), (6, true), (7, false), (8, false), (9, false), (10, false), (11, false)] (by kernel_rfl) (by kernel_rfl) (fun _ _ _ _ _ h => h) HS0.out (fun hW' => ?_)
      simp only [ordOps, List.filterMap_cons, List.filterMap_nil, List.getElem?_cons_zero, List.getElem?_cons_succ, Option.map_some]
      (repeat (first | (refine hd_take (v := ?_) (by rfl) ?_ ?_; rotate_left; (focus (intro W hW; obtain ⟨s0, s1, s2⟩ := hW; go_simp; try with_reducible rfl)); simp only [Act.put, List.setIfInBounds_toArray, List.set_cons_zero, List.set_cons_succ]) | (refine hd_skip (by rfl) ?_; simp only [Act.put, List.setIfInBounds_toArray, List.set_cons_zero, List.set_cons_succ])))
      refine hd_call (fun K hK => ?_)
      go_simp
      refine HMA.out.mono ?_
      rintro r w1 ⟨hr, rfl⟩
      have hr2 := hr.1 H1.out
      subst hr2
      refine hK _ _ HS0.out ?_
      clear hK K hr
      (repeat (first | (refine hd_take (v := ?_) (by rfl) ?_ ?_; rotate_left; (focus (intro W hW; obtain ⟨s0, s1, s2⟩ := hW; go_simp; try with_reducible rfl)); simp only [Act.put, List.setIfInBounds_toArray, List.set_cons_zero, List.set_cons_succ]) | (refine hd_skip (by rfl) ?_; simp only [Act.put, List.setIfInBounds_toArray, List.set_cons_zero, List.set_cons_succ])))
      refine hd_call (fun K hK => ?_)
      go_simp
      refine HMB.out.mono ?_
      rintro r w1 ⟨hr, rfl⟩
      have hr2 := hr.2 H2.out
      subst hr2
      dsimp only
      clear hK K hr
      go_wp2_with fail
      exact ⟨rfl, RsBack.no HD.out⟩
  · rw [if_neg h1]
    have H1 := Lib.hid h1
    clear h1
    go_enter Tryz.func90, Tryz.ntmps90
    go_wp2_with fail
    refine wp_region_ord (S := DbS b1 o1 b2 o2 y.n z.n w) [(0, false), (5, false), (1, true), (2, false), (3, false), (4, false), (6, true), (7, false), (8, false), (9, false), (10, false), (11, false)] (by kernel_rfl) (by kernel_rfl) (fun _ _ _ _ _ h => h) HS0.out (fun hW' => ?_)
    simp only [ordOps, List.filterMap_cons, List.filterMap_nil, List.getElem?_cons_zero, List.getElem?_cons_succ, Option.map_some]
    (repeat (first | (refine hd_take (v := ?_) (by rfl) ?_ ?_; rotate_left; (focus (intro W hW; obtain ⟨s0, s1, s2⟩ := hW; go_simp; try with_reducible rfl)); simp only [Act.put, List.setIfInBounds_toArray, List.set_cons_zero, List.set_cons_succ]) | (refine hd_skip (by rfl) ?_; simp only [Act.put, List.setIfInBounds_toArray, List.set_cons_zero, List.set_cons_succ])))
    refine hd_call (fun K hK => ?_)
    go_simp
    refine HMA.out.mono ?_
    rintro r w1 ⟨hr, rfl⟩
    have hr2 := hr.2 H1.out
    subst hr2
    dsimp only
    clear hK K hr
    go_wp2_with fail
    exact ⟨rfl, RsBack.no HD.out⟩
set_option maxHeartbeats 6400000 in
theorem double_add (xb : Nat) (a b : List Nd) (A B : Option Addr) (c d : Nat) (w : World) (es : List En) (ha : ValIn a A c w) (hb : ValIn b B d w) (hai : NdI a) (hbi : NdI b) (hg : ErrCell w) :
    Calls Tryz.prog 90 #[.pointer (some ⟨xb, 0, none⟩), .int .i64 17, .slice A a.length c, .slice B b.length d] w fun r w' => RsBack w r w' (doubleR es 17 a b) := by
  have HMA := Lib.hid (eval_must a 2 A c w.drew (ha.later (by (repeat (first | assumption | exact Below.refl _ _ | apply Below.drew | apply below_drewN | (refine Below.alloc ?_ (by first | exact Nat.le_refl _ | omega | (simp; done) | (simp; omega)) _))))))
  have HMB := Lib.hid (eval_must b 2 B d w.drew (hb.later (by (repeat (first | assumption | exact Below.refl _ _ | apply Below.drew | apply below_drewN | (refine Below.alloc ?_ (by first | exact Nat.le_refl _ | omega | (simp; done) | (simp; omega)) _))))))
  rw [doubleR_num (by omega)]
  obtain ⟨y, yr, b1, o1, hy, rfl, hb1, ⟨-, y1, -, -⟩, -, hny, -, -, hyl⟩ := ha.head
  obtain ⟨z, zr, b2, o2, hz, rfl, hb2, ⟨-, z1, -, -⟩, -, hnz, -, -, hzl⟩ := hb.head
  rw [hny, hnz]
  have hia := val_at0 b1 o1 a.length c hyl
  have hib := val_at0 b2 o2 b.length d hzl
  have hyi : I64 y.n := hai y (by rw [hy]; simp)
  have hzi : I64 z.n := hbi z (by rw [hz]; simp)
  rw [if_neg (show ¬ (17 : Int) = 15 by omega), if_neg (show ¬ (17 : Int) = 16 by omega)]
  have HDO := Lib.hid (num_Do 17 y.n z.n w.drew (by omega) hyi hzi)
  have HQE : Hid (∀ k, numR 17 y.n z.n = .bad k → k ≠ 0) := by
    intro k hk
    rw [numR_add] at hk
    split at hk
    · cases hk
    · injection hk with hk; omega
  obtain ⟨q, hq⟩ : ∃ q, numR 17 y.n z.n = q := ⟨_, rfl⟩
  rw [hq] at HDO HQE ⊢
  have HTD := Lib.hid (told_int (.int .i64 (rsN q)) (rsE q) w.drew hg)
  clear hq hyi hzi hai hbi hg
  have HS0 : Hid (DbS b1 o1 b2 o2 y.n z.n w w.drew) := ⟨y1, z1, rfl⟩
  have HD : Hid (RowKit.Below w.heap.size w w.drew) := by show RowKit.Below _ _ _; (repeat (first | assumption | exact Below.refl _ _ | apply Below.drew | apply below_drewN | (refine Below.alloc ?_ (by first | exact Nat.le_refl _ | omega | (simp; done) | (simp; omega)) _)))
  have heq : (17 : Int) = 17 := rfl
  clear ha hb hy hz hny hnz hyl hzl heq
  by_cases h1 : opH a = 2
  · rw [if_pos h1]
    have H1 := Lib.hid h1
    clear h1
    by_cases h2 : opH b = 2
    · rw [if_pos h2]
      have H2 := Lib.hid h2
      clear h2
      go_enter Tryz.func90, Tryz.ntmps90
      go_wp2_with fail
      refine wp_region_ord (S := DbS b1 o1 b2 o2 y.n z.n w) [(0, false), (5, false), (1, true), (2, false), (3, false), (4, false), (6, true), (7, false), (8, false), (9, false), (10, false), (11, false)] (by kernel_rfl) (by kernel_rfl) (fun _ _ _ _ _ h => h) HS0.out (fun hW' => ?_)
      simp only [ordOps, List.filterMap_cons, List.filterMap_nil, List.getElem?_cons_zero, List.getElem?_cons_succ, Option.map_some]
      (repeat (first | (refine hd_take (v := ?_) (by rfl) ?_ ?_; rotate_left; (focus (intro W hW; obtain ⟨s0, s1, s2⟩ := hW; go_simp; try with_reducible rfl)); simp only [Act.put, List.setIfInBounds_toArray, List.set_cons_zero, List.set_cons_succ]) | (refine hd_skip (by rfl) ?_; simp only [Act.put, List.setIfInBounds_toArray, List.set_cons_zero, List.set_cons_succ])))
      refine hd_call (fun K hK => ?_)
      go_simp
      refine HMA.out.mono ?_
      rintro r w1 ⟨hr, rfl⟩
      have hr2 := hr.1 H1.out
      subst hr2
      refine hK _ _ HS0.out ?_
      clear hK K hr
      (repeat (first | (refine hd_take (v := ?_) (by rfl) ?_ ?_; rotate_left; (focus (intro W hW; obtain ⟨s0, s1, s2⟩ := hW; go_simp; try with_reducible rfl)); simp only [Act.put, List.setIfInBounds_toArray, List.set_cons_zero, List.set_cons_succ]) | (refine hd_skip (by rfl) ?_; simp only [Act.put, List.setIfInBounds_toArray, List.set_cons_zero, List.set_cons_succ])))
      refine hd_call (fun K hK => ?_)
      go_simp
      refine HMB.out.mono ?_
      rintro r w1 ⟨hr, rfl⟩
      have hr2 := hr.1 H2.out
      subst hr2
      refine hK _ _ HS0.out ?_
      clear hK K hr
      (repeat (first | (refine hd_take (v := ?_) (by rfl) ?_ ?_; rotate_left; (focus (intro W hW; obtain ⟨s0, s1, s2⟩ := hW; go_simp; try with_reducible rfl)); simp only [Act.put, List.setIfInBounds_toArray, List.set_cons_zero, List.set_cons_succ]) | (refine hd_skip (by rfl) ?_; simp only [Act.put, List.setIfInBounds_toArray, List.set_cons_zero, List.set_cons_succ])))
      refine hd_nil ?_
      go_wp2_with fail
      refine HDO.out.mono ?_
      rintro r w2 ⟨hr, rfl⟩
      unfold NumRet at hr
      subst hr
      go_wp2_with fail
      refine HTD.out.mono ?_
      rintro r w3 ⟨hr, hb3⟩
      have hw3 := HD.out.trans (hb3.mono HD.out.size)
      clear hb3
      cases q with
      | ok n =>
        have hr2 := hr.1 rfl
        subst hr2
        clear hr
        go_wp2_with fail
        go_ret
        exact RsBack.ok (new_val (nN n) w 37 hw3)
      | bad k =>
        have hr2 := hr.2 (HQE.out k rfl)
        subst hr2
        clear hr
        go_wp2_with fail
        exact ⟨rfl, RsBack.no hw3⟩
    · rw [if_neg h2]
      have H2 := Lib.hid h2
      clear h2
      go_enter Tryz.func90, Tryz.ntmps90
      go_wp2_with fail
      refine wp_region_ord (S := DbS b1 o1 b2 o2 y.n z.n w) [(0, false), (5, false), (1, true), (2, false), (3, false), (4, false), (6, true), (7, false), (8, false), (9, false), (10, false), (11, false)] (by kernel_rfl) (by kernel_rfl) (fun _ _ _ _ _ h => h) HS0.out (fun hW' => ?_)
      simp only [ordOps, List.filterMap_cons, List.filterMap_nil, List.getElem?_cons_zero, List.getElem?_cons_succ, Option.map_some]
      (repeat (first | (refine hd_take (v := ?_) (by rfl) ?_ ?_; rotate_left; (focus (intro W hW; obtain ⟨s0, s1, s2⟩ := hW; go_simp; try with_reducible rfl)); simp only [Act.put, List.setIfInBounds_toArray, List.set_cons_zero, List.set_cons_succ]) | (refine hd_skip (by rfl) ?_; simp only [Act.put, List.setIfInBounds_toArray, List.set_cons_zero, List.set_cons_succ])))
      refine hd_call (fun K hK => ?_)
      go_simp
      refine HMA.out.mono ?_
      rintro r w1 ⟨hr, rfl⟩
      have hr2 := hr.1 H1.out
      subst hr2
      refine hK _ _ HS0.out ?_
      clear hK K hr
      (repeat (first | (refine hd_take (v := ?_) (by rfl) ?_ ?_; rotate_left; (focus (intro W hW; obtain ⟨s0, s1, s2⟩ := hW; go_simp; try with_reducible rfl)); simp only [Act.put, List.setIfInBounds_toArray, List.set_cons_zero, List.set_cons_succ]) | (refine hd_skip (by rfl) ?_; simp only [Act.put, List.setIfInBounds_toArray, List.set_cons_zero, List.set_cons_succ])))
      refine hd_call (fun K hK => ?_)
      go_simp
      refine HMB.out.mono ?_
      rintro r w1 ⟨hr, rfl⟩
      have hr2 := hr.2 H2.out
      subst hr2
      dsimp only
      clear hK K hr
      go_wp2_with fail
      exact ⟨rfl, RsBack.no HD.out⟩
  · rw [if_neg h1]
    have H1 := Lib.hid h1
    clear h1
    go_enter Tryz.func90, Tryz.ntmps90
    go_wp2_with fail
    refine wp_region_ord (S := DbS b1 o1 b2 o2 y.n z.n w) [(0, false), (5, false), (1, true), (2, false), (3, false), (4, false), (6, true), (7, false), (8, false), (9, false), (10, false), (11, false)] (by kernel_rfl) (by kernel_rfl) (fun _ _ _ _ _ h => h) HS0.out (fun hW' => ?_)
    simp only [ordOps, List.filterMap_cons, List.filterMap_nil, List.getElem?_cons_zero, List.getElem?_cons_succ, Option.map_some]
    (repeat (first | (refine hd_take (v := ?_) (by rfl) ?_ ?_; rotate_left; (focus (intro W hW; obtain ⟨s0, s1, s2⟩ := hW; go_simp; try with_reducible rfl)); simp only [Act.put, List.setIfInBounds_toArray, List.set_cons_zero, List.set_cons_succ]) | (refine hd_skip (by rfl) ?_; simp only [Act.put, List.setIfInBounds_toArray, List.set_cons_zero, List.set_cons_succ])))
    refine hd_call (fun K hK => ?_)
    go_simp
    refine HMA.out.mono ?_
    rintro r w1 ⟨hr, rfl⟩
    have hr2 := hr.2 H1.out
    subst hr2
    dsimp only
    clear hK K hr
    go_wp2_with fail
    exact ⟨rfl, RsBack.no HD.out⟩
set_option maxHeartbeats 6400000 in
theorem double_sub (xb : Nat) (a b : List Nd) (A B : Option Addr) (c d : Nat) (w : World) (es : List En) (ha : ValIn a A c w) (hb : ValIn b B d w) (hai : NdI a) (hbi : NdI b) (hg : ErrCell w) :
    Calls Tryz.prog 90 #[.pointer (some ⟨xb, 0, none⟩), .int .i64 18, .slice A a.length c, .slice B b.length d] w fun r w' => RsBack w r w' (doubleR es 18 a b) := by
  have HMA := Lib.hid (eval_must a 2 A c w.drew (ha.later (by (repeat (first | assumption | exact Below.refl _ _ | apply Below.drew | apply below_drewN | (refine Below.alloc ?_ (by first | exact Nat.le_refl _ | omega | (simp; done) | (simp; omega)) _))))))
  have HMB := Lib.hid (eval_must b 2 B d w.drew (hb.later (by (repeat (first | assumption | exact Below.refl _ _ | apply Below.drew | apply below_drewN | (refine Below.alloc ?_ (by first | exact Nat.le_refl _ | omega | (simp; done) | (simp; omega)) _))))))
  rw [doubleR_num (by omega)]
  obtain ⟨y, yr, b1, o1, hy, rfl, hb1, ⟨-, y1, -, -⟩, -, hny, -, -, hyl⟩ := ha.head
  obtain ⟨z, zr, b2, o2, hz, rfl, hb2, ⟨-, z1, -, -⟩, -, hnz, -, -, hzl⟩ := hb.head
  rw [hny, hnz]
  have hia := val_at0 b1 o1 a.length c hyl
  have hib := val_at0 b2 o2 b.length d hzl
  have hyi : I64 y.n := hai y (by rw [hy]; simp)
  have hzi : I64 z.n := hbi z (by rw [hz]; simp)
  rw [if_neg (show ¬ (18 : Int) = 15 by omega), if_neg (show ¬ (18 : Int) = 16 by omega)]
  have HDO := Lib.hid (num_Do 18 y.n z.n w.drew (by omega) hyi hzi)
  have HQE : Hid (∀ k, numR 18 y.n z.n = .bad k → k ≠ 0) := by
    intro k hk
    rw [numR_sub] at hk
    split at hk
    · cases hk
    · injection hk with hk; omega
  obtain ⟨q, hq⟩ : ∃ q, numR 18 y.n z.n = q := ⟨_, rfl⟩
  rw [hq] at HDO HQE ⊢
  have HTD := Lib.hid (told_int (.int .i64 (rsN q)) (rsE q) w.drew hg)
  clear hq hyi hzi hai hbi hg
  have HS0 : Hid (DbS b1 o1 b2 o2 y.n z.n w w.drew) := ⟨y1, z1, rfl⟩
  have HD : Hid (RowKit.Below w.heap.size w w.drew) := by show RowKit.Below _ _ _; (repeat (first | assumption | exact Below.refl _ _ | apply Below.drew | apply below_drewN | (refine Below.alloc ?_ (by first | exact Nat.le_refl _ | omega | (simp; done) | (simp; omega)) _)))
  have heq : (18 : Int) = 18 := rfl
  clear ha hb hy hz hny hnz hyl hzl heq
  by_cases h1 : opH a = 2
  · rw [if_pos h1]
    have H1 := Lib.hid h1
    clear h1
    by_cases h2 : opH b = 2
    · rw [if_pos h2]
      have H2 := Lib.hid h2
      clear h2
      go_enter Tryz.func90, Tryz.ntmps90
      go_wp2_with fail
      refine wp_region_ord (S := DbS b1 o1 b2 o2 y.n z.n w) [(0, false), (5, false), (1, true), (2, false), (3, false), (4, false), (6, true), (7, false), (8, false), (9, false), (10, false), (11, false)] (by kernel_rfl) (by kernel_rfl) (fun _ _ _ _ _ h => h) HS0.out (fun hW' => ?_)
      simp only [ordOps, List.filterMap_cons, List.filterMap_nil, List.getElem?_cons_zero, List.getElem?_cons_succ, Option.map_some]
      (repeat (first | (refine hd_take (v := ?_) (by rfl) ?_ ?_; rotate_left; (focus (intro W hW; obtain ⟨s0, s1, s2⟩ := hW; go_simp; try with_reducible rfl)); simp only [Act.put, List.setIfInBounds_toArray, List.set_cons_zero, List.set_cons_succ]) | (refine hd_skip (by rfl) ?_; simp only [Act.put, List.setIfInBounds_toArray, List.set_cons_zero, List.set_cons_succ])))
      refine hd_call (fun K hK => ?_)
      go_simp
      refine HMA.out.mono ?_
      rintro r w1 ⟨hr, rfl⟩
      have hr2 := hr.1 H1.out
      subst hr2
      refine hK _ _ HS0.out ?_
      clear hK K hr
      (repeat (first | (refine hd_take (v := ?_) (by rfl) ?_ ?_; rotate_left; (focus (intro W hW; obtain ⟨s0, s1, s2⟩ := hW; go_simp; try with_reducible rfl)); simp only [Act.put, List.setIfInBounds_toArray, List.set_cons_zero, List.set_cons_succ]) | (refine hd_skip (by rfl) ?_; simp only [Act.put, List.setIfInBounds_toArray, List.set_cons_zero, List.set_cons_succ])))
      refine hd_call (fun K hK => ?_)
      go_simp
      refine HMB.out.mono ?_
      rintro r w1 ⟨hr, rfl⟩
      have hr2 := hr.1 H2.out
      subst hr2
      refine hK _ _ HS0.out ?_
      clear hK K hr
      (repeat (first | (refine hd_take (v := ?_) (by rfl) ?_ ?_; rotate_left; (focus (intro W hW; obtain ⟨s0, s1, s2⟩ := hW; go_simp; try with_reducible rfl)); simp only [Act.put, List.setIfInBounds_toArray, List.set_cons_zero, List.set_cons_succ]) | (refine hd_skip (by rfl) ?_; simp only [Act.put, List.setIfInBounds_toArray, List.set_cons_zero, List.set_cons_succ])))
      refine hd_nil ?_
      go_wp2_with fail
      refine HDO.out.mono ?_
      rintro r w2 ⟨hr, rfl⟩
      unfold NumRet at hr
      subst hr
      go_wp2_with fail
      refine HTD.out.mono ?_
      rintro r w3 ⟨hr, hb3⟩
      have hw3 := HD.out.trans (hb3.mono HD.out.size)
      clear hb3
      cases q with
      | ok n =>
        have hr2 := hr.1 rfl
        subst hr2
        clear hr
        go_wp2_with fail
        go_ret
        exact RsBack.ok (new_val (nN n) w 37 hw3)
      | bad k =>
        have hr2 := hr.2 (HQE.out k rfl)
        subst hr2
        clear hr
        go_wp2_with fail
        exact ⟨rfl, RsBack.no hw3⟩
    · rw [if_neg h2]
      have H2 := Lib.hid h2
      clear h2
      go_enter Tryz.func90, Tryz.ntmps90
      go_wp2_with fail
      refine wp_region_ord (S := DbS b1 o1 b2 o2 y.n z.n w) [(0, false), (5, false), (1, true), (2, false), (3, false), (4, false), (6, true), (7, false), (8, false), (9, false), (10, false), (11, false)] (by kernel_rfl) (by kernel_rfl) (fun _ _ _ _ _ h => h) HS0.out (fun hW' => ?_)
      simp only [ordOps, List.filterMap_cons, List.filterMap_nil, List.getElem?_cons_zero, List.getElem?_cons_succ, Option.map_some]
      (repeat (first | (refine hd_take (v := ?_) (by rfl) ?_ ?_; rotate_left; (focus (intro W hW; obtain ⟨s0, s1, s2⟩ := hW; go_simp; try with_reducible rfl)); simp only [Act.put, List.setIfInBounds_toArray, List.set_cons_zero, List.set_cons_succ]) | (refine hd_skip (by rfl) ?_; simp only [Act.put, List.setIfInBounds_toArray, List.set_cons_zero, List.set_cons_succ])))
      refine hd_call (fun K hK => ?_)
      go_simp
      refine HMA.out.mono ?_
      rintro r w1 ⟨hr, rfl⟩
      have hr2 := hr.1 H1.out
      subst hr2
      refine hK _ _ HS0.out ?_
      clear hK K hr
      (repeat (first | (refine hd_take (v := ?_) (by rfl) ?_ ?_; rotate_left; (focus (intro W hW; obtain ⟨s0, s1, s2⟩ := hW; go_simp; try with_reducible rfl)); simp only [Act.put, List.setIfInBounds_toArray, List.set_cons_zero, List.set_cons_succ]) | (refine hd_skip (by rfl) ?_; simp only [Act.put, List.setIfInBounds_toArray, List.set_cons_zero, List.set_cons_succ])))
      refine hd_call (fun K hK => ?_)
      go_simp
      refine HMB.out.mono ?_
      rintro r w1 ⟨hr, rfl⟩
      have hr2 := hr.2 H2.out
      subst hr2
      dsimp only
      clear hK K hr
      go_wp2_with fail
      exact ⟨rfl, RsBack.no HD.out⟩
  · rw [if_neg h1]
    have H1 := Lib.hid h1
    clear h1
    go_enter Tryz.func90, Tryz.ntmps90
    go_wp2_with fail
    refine wp_region_ord (S := DbS b1 o1 b2 o2 y.n z.n w) [(0, false), (5, false), (1, true), (2, false), (3, false), (4, false), (6, true), (7, false), (8, false), (9, false), (10, false), (11, false)] (by kernel_rfl) (by kernel_rfl) (fun _ _ _ _ _ h => h) HS0.out (fun hW' => ?_)
    simp only [ordOps, List.filterMap_cons, List.filterMap_nil, List.getElem?_cons_zero, List.getElem?_cons_succ, Option.map_some]
    (repeat (first | (refine hd_take (v := ?_) (by rfl) ?_ ?_; rotate_left; (focus (intro W hW; obtain ⟨s0, s1, s2⟩ := hW; go_simp; try with_reducible rfl)); simp only [Act.put, List.setIfInBounds_toArray, List.set_cons_zero, List.set_cons_succ]) | (refine hd_skip (by rfl) ?_; simp only [Act.put, List.setIfInBounds_toArray, List.set_cons_zero, List.set_cons_succ])))
    refine hd_call (fun K hK => ?_)
    go_simp
    refine HMA.out.mono ?_
    rintro r w1 ⟨hr, rfl⟩
    have hr2 := hr.2 H1.out
    subst hr2
    dsimp only
    clear hK K hr
    go_wp2_with fail
    exact ⟨rfl, RsBack.no HD.out⟩
set_option maxHeartbeats 6400000 in
theorem double_mul (xb : Nat) (a b : List Nd) (A B : Option Addr) (c d : Nat) (w : World) (es : List En) (ha : ValIn a A c w) (hb : ValIn b B d w) (hai : NdI a) (hbi : NdI b) (hg : ErrCell w) :
    Calls Tryz.prog 90 #[.pointer (some ⟨xb, 0, none⟩), .int .i64 19, .slice A a.length c, .slice B b.length d] w fun r w' => RsBack w r w' (doubleR es 19 a b) := by
  have HMA := Lib.hid (eval_must a 2 A c w.drew (ha.later (by (repeat (first | assumption | exact Below.refl _ _ | apply Below.drew | apply below_drewN | (refine Below.alloc ?_ (by first | exact Nat.le_refl _ | omega | (simp; done) | (simp; omega)) _))))))
  have HMB := Lib.hid (eval_must b 2 B d w.drew (hb.later (by (repeat (first | assumption | exact Below.refl _ _ | apply Below.drew | apply below_drewN | (refine Below.alloc ?_ (by first | exact Nat.le_refl _ | omega | (simp; done) | (simp; omega)) _))))))
  rw [doubleR_num (by omega)]
  obtain ⟨y, yr, b1, o1, hy, rfl, hb1, ⟨-, y1, -, -⟩, -, hny, -, -, hyl⟩ := ha.head
  obtain ⟨z, zr, b2, o2, hz, rfl, hb2, ⟨-, z1, -, -⟩, -, hnz, -, -, hzl⟩ := hb.head
  rw [hny, hnz]
  have hia := val_at0 b1 o1 a.length c hyl
  have hib := val_at0 b2 o2 b.length d hzl
  have hyi : I64 y.n := hai y (by rw [hy]; simp)
  have hzi : I64 z.n := hbi z (by rw [hz]; simp)
  rw [if_neg (show ¬ (19 : Int) = 15 by omega), if_neg (show ¬ (19 : Int) = 16 by omega)]
  have HDO := Lib.hid (num_Do 19 y.n z.n w.drew (by omega) hyi hzi)
  have HQE : Hid (∀ k, numR 19 y.n z.n = .bad k → k ≠ 0) := by
    intro k hk
    rw [numR_mul] at hk
    split at hk
    · cases hk
    · injection hk with hk; omega
  obtain ⟨q, hq⟩ : ∃ q, numR 19 y.n z.n = q := ⟨_, rfl⟩
  rw [hq] at HDO HQE ⊢
  have HTD := Lib.hid (told_int (.int .i64 (rsN q)) (rsE q) w.drew hg)
  clear hq hyi hzi hai hbi hg
  have HS0 : Hid (DbS b1 o1 b2 o2 y.n z.n w w.drew) := ⟨y1, z1, rfl⟩
  have HD : Hid (RowKit.Below w.heap.size w w.drew) := by show RowKit.Below _ _ _; (repeat (first | assumption | exact Below.refl _ _ | apply Below.drew | apply below_drewN | (refine Below.alloc ?_ (by first | exact Nat.le_refl _ | omega | (simp; done) | (simp; omega)) _)))
  have heq : (19 : Int) = 19 := rfl
  clear ha hb hy hz hny hnz hyl hzl heq
  by_cases h1 : opH a = 2
  · rw [if_pos h1]
    have H1 := Lib.hid h1
    clear h1
    by_cases h2 : opH b = 2
    · rw [if_pos h2]
      have H2 := Lib.hid h2
      clear h2
      go_enter Tryz.func90, Tryz.ntmps90
      go_wp2_with fail
      refine wp_region_ord (S := DbS b1 o1 b2 o2 y.n z.n w) [(0, false), (5, false), (1, true), (2, false), (3, false), (4, false), (6, true), (7, false), (8, false), (9, false), (10, false), (11, false)] (by kernel_rfl) (by kernel_rfl) (fun _ _ _ _ _ h => h) HS0.out (fun hW' => ?_)
      simp only [ordOps, List.filterMap_cons, List.filterMap_nil, List.getElem?_cons_zero, List.getElem?_cons_succ, Option.map_some]
      (repeat (first | (refine hd_take (v := ?_) (by rfl) ?_ ?_; rotate_left; (focus (intro W hW; obtain ⟨s0, s1, s2⟩ := hW; go_simp; try with_reducible rfl)); simp only [Act.put, List.setIfInBounds_toArray, List.set_cons_zero, List.set_cons_succ]) | (refine hd_skip (by rfl) ?_; simp only [Act.put, List.setIfInBounds_toArray, List.set_cons_zero, List.set_cons_succ])))
      refine hd_call (fun K hK => ?_)
      go_simp
      refine HMA.out.mono ?_
      rintro r w1 ⟨hr, rfl⟩
      have hr2 := hr.1 H1.out
      subst hr2
      refine hK _ _ HS0.out ?_
      clear hK K hr
      (repeat (first | (refine hd_take (v := ?_) (by rfl) ?_ ?_; rotate_left; (focus (intro W hW; obtain ⟨s0, s1, s2⟩ := hW; go_simp; try with_reducible rfl)); simp only [Act.put, List.setIfInBounds_toArray, List.set_cons_zero, List.set_cons_succ]) | (refine hd_skip (by rfl) ?_; simp only [Act.put, List.setIfInBounds_toArray, List.set_cons_zero, List.set_cons_succ])))
      refine hd_call (fun K hK => ?_)
      go_simp
      refine HMB.out.mono ?_
      rintro r w1 ⟨hr, rfl⟩
      have hr2 := hr.1 H2.out
      subst hr2
      refine hK _ _ HS0.out ?_
      clear hK K hr
      (repeat (first | (refine hd_take (v := ?_) (by rfl) ?_ ?_; rotate_left; (focus (intro W hW; obtain ⟨s0, s1, s2⟩ := hW; go_simp; try with_reducible rfl)); simp only [Act.put, List.setIfInBounds_toArray, List.set_cons_zero, List.set_cons_succ]) | (refine hd_skip (by rfl) ?_; simp only [Act.put, List.setIfInBounds_toArray, List.set_cons_zero, List.set_cons_succ])))
      refine hd_nil ?_
      go_wp2_with fail
      refine HDO.out.mono ?_
      rintro r w2 ⟨hr, rfl⟩
      unfold NumRet at hr
      subst hr
      go_wp2_with fail
      refine HTD.out.mono ?_
      rintro r w3 ⟨hr, hb3⟩
      have hw3 := HD.out.trans (hb3.mono HD.out.size)
      clear hb3
      cases q with
      | ok n =>
        have hr2 := hr.1 rfl
        subst hr2
        clear hr
        go_wp2_with fail
        go_ret
        exact RsBack.ok (new_val (nN n) w 37 hw3)
      | bad k =>
        have hr2 := hr.2 (HQE.out k rfl)
        subst hr2
        clear hr
        go_wp2_with fail
        exact ⟨rfl, RsBack.no hw3⟩
    · rw [if_neg h2]
      have H2 := Lib.hid h2
      clear h2
      go_enter Tryz.func90, Tryz.ntmps90
      go_wp2_with fail
      refine wp_region_ord (S := DbS b1 o1 b2 o2 y.n z.n w) [(0, false), (5, false), (1, true), (2, false), (3, false), (4, false), (6, true), (7, false), (8, false), (9, false), (10, false), (11, false)] (by kernel_rfl) (by kernel_rfl) (fun _ _ _ _ _ h => h) HS0.out (fun hW' => ?_)
      simp only [ordOps, List.filterMap_cons, List.filterMap_nil, List.getElem?_cons_zero, List.getElem?_cons_succ, Option.map_some]
      (repeat (first | (refine hd_take (v := ?_) (by rfl) ?_ ?_; rotate_left; (focus (intro W hW; obtain ⟨s0, s1, s2⟩ := hW; go_simp; try with_reducible rfl)); simp only [Act.put, List.setIfInBounds_toArray, List.set_cons_zero, List.set_cons_succ]) | (refine hd_skip (by rfl) ?_; simp only [Act.put, List.setIfInBounds_toArray, List.set_cons_zero, List.set_cons_succ])))
      refine hd_call (fun K hK => ?_)
      go_simp
      refine HMA.out.mono ?_
      rintro r w1 ⟨hr, rfl⟩
      have hr2 := hr.1 H1.out
      subst hr2
      refine hK _ _ HS0.out ?_
      clear hK K hr
      (repeat (first | (refine hd_take (v := ?_) (by rfl) ?_ ?_; rotate_left; (focus (intro W hW; obtain ⟨s0, s1, s2⟩ := hW; go_simp; try with_reducible rfl)); simp only [Act.put, List.setIfInBounds_toArray, List.set_cons_zero, List.set_cons_succ]) | (refine hd_skip (by rfl) ?_; simp only [Act.put, List.setIfInBounds_toArray, List.set_cons_zero, List.set_cons_succ])))
      refine hd_call (fun K hK => ?_)
      go_simp
      refine HMB.out.mono ?_
      rintro r w1 ⟨hr, rfl⟩
      have hr2 := hr.2 H2.out
      subst hr2
      dsimp only
      clear hK K hr
      go_wp2_with fail
      exact ⟨rfl, RsBack.no HD.out⟩
  · rw [if_neg h1]
    have H1 := Lib.hid h1
    clear h1
    go_enter Tryz.func90, Tryz.ntmps90
    go_wp2_with fail
    refine wp_region_ord (S := DbS b1 o1 b2 o2 y.n z.n w) [(0, false), (5, false), (1, true), (2, false), (3, false), (4, false), (6, true), (7, false), (8, false), (9, false), (10, false), (11, false)] (by kernel_rfl) (by kernel_rfl) (fun _ _ _ _ _ h => h) HS0.out (fun hW' => ?_)
    simp only [ordOps, List.filterMap_cons, List.filterMap_nil, List.getElem?_cons_zero, List.getElem?_cons_succ, Option.map_some]
    (repeat (first | (refine hd_take (v := ?_) (by rfl) ?_ ?_; rotate_left; (focus (intro W hW; obtain ⟨s0, s1, s2⟩ := hW; go_simp; try with_reducible rfl)); simp only [Act.put, List.setIfInBounds_toArray, List.set_cons_zero, List.set_cons_succ]) | (refine hd_skip (by rfl) ?_; simp only [Act.put, List.setIfInBounds_toArray, List.set_cons_zero, List.set_cons_succ])))
    refine hd_call (fun K hK => ?_)
    go_simp
    refine HMA.out.mono ?_
    rintro r w1 ⟨hr, rfl⟩
    have hr2 := hr.2 H1.out
    subst hr2
    dsimp only
    clear hK K hr
    go_wp2_with fail
    exact ⟨rfl, RsBack.no HD.out⟩
theorem eval_double (x : Evl) (xb i : Nat) (op : Int) (a b : List Nd) (A B : Option Addr) (c d : Nat) (w : World) (hx : EvIn x xb w) (hB : Blk w xb 99 (x.cells i)) (ha : ValIn a A c w) (hb : ValIn b B d w) (hai : NdI a) (hbi : NdI b)
    (ho : op = 14 ∨ op = 15 ∨ op = 16 ∨ op = 17 ∨ op = 18 ∨ op = 19 ∨ op = 20 ∨ op = 25 ∨ op = 26 ∨ op = 27) :
    Calls Tryz.prog 90 #[.pointer (some ⟨xb, 0, none⟩), .int .i64 op, .slice A a.length c, .slice B b.length d] w fun r w' => RsBack w r w' (doubleR x.es op a b) := by
  rcases ho with rfl | rfl | rfl | rfl | rfl | rfl | rfl | rfl | rfl | rfl
  · exact double_eq xb a b A B c d w x.es ha hb
  · exact double_lt xb a b A B c d w x.es ha hb
  · exact double_le xb a b A B c d w x.es ha hb
  · exact double_add xb a b A B c d w x.es ha hb hai hbi hx.err
  · exact double_sub xb a b A B c d w x.es ha hb hai hbi hx.err
  · exact double_mul xb a b A B c d w x.es ha hb hai hbi hx.err
  · exact double_in xb a b A B c d w x i hx hB ha hb
  · exact double_one xb a b A B c d w x.es ha hb hx.err
  · exact double_all xb a b A B c d w x.es ha hb hx.err
  · exact double_any xb a b A B c d w x.es ha hb hx.err
end Go.Proofs.YtpheiojmcafolaaGreatDoor
namespace Go.Proofs.YtpheiojmcafolaaGreatDoor
open Go.RowKit Go.Sort
theorem sort_own {w : World} {base : Nat} {v : Value} {ss : List (List UInt8)} (h : w.ownsRow base 9 1 v ss.length (ss.map encStr)) (hl : ss.length < 4611686018427387904) :
    Calls Tryz.prog 196 #[v] w fun r w' => r = .returned (.tuple #[]) ∧ w'.ownsRow base 9 1 v ss.length ((sorted ss).map encStr) ∧ w.grownBy w' v.ownBlock := by
  rcases h.2 with ⟨hv, h0⟩ | ⟨g, cap, cur, hv, hbase, hb, h1, h2, h3, h4⟩
  · subst hv
    rw [h0]
    refine (Tryz.slices_Sort_string_none none 0 w).mono ?_
    rintro r w' ⟨rfl, rfl⟩
    have : ss = [] := List.eq_nil_of_length_eq_zero h0
    subst this
    exact ⟨rfl, by simpa [sorted] using World.ownsRow_nil _ base 9 1, World.grownBy.refl _ _⟩
  · subst hv
    have hH : Holds encStr w g 0 ss.toArray := holds_of_block hb (by simpa using h4)
    refine (Tryz.slices_Sort_string g 0 cap ss w hH (Array.getElem?_eq_some_iff.1 hb).1 hl).mono ?_
    rintro r w' ⟨rfl, n, os, rfl⟩
    exact ⟨rfl, ownsRow_sorted (by simp) hbase hb h1 h2 h3, grownBy_sorted _⟩
end Go.Proofs.YtpheiojmcafolaaGreatDoor
namespace Go.Proofs.YtpheiojmcafolaaGreatDoor
open Go.RowKit Go.Sort Go.Shelf
attribute [local go_sem] Oper.semAt_some
/-- Texts in a row of the call's own. -/
def SrowRet (w : World) (r : Ending) (w' : World) (xs : List (List UInt8)) : Prop :=
  ∃ v, r = .returned v ∧ w'.ownsRow w.heap.size 9 1 v xs.length (xs.map encStr) ∧ RowKit.Below w.heap.size w w'
set_option maxRecDepth 100000 in
set_option maxHeartbeats 2000000 in
theorem appendSeq_s (w : World) (g : Nat) (lb : Array Value) (xs : List (List UInt8)) (hlen : xs.length ≤ 1000) (eg : ∀ args w, (callFunc g args).run Tryz.prog w = .ok (.enter g args) w)
    (hseq : SeqStopsK Fence.wide 8 Tryz.prog g lb (fun b : List UInt8 => #[encStr b]) (RowKit.Below w.heap.size) (fun ys => ys = xs) (fun _ => True) xs.length w) :
    Calls Tryz.prog 213 #[.slice none 0 0, .func (.func g) #[] lb] w fun r w' => SrowRet w r w' xs := by
  refine (callsIn_wide (n := 9)).1 ?_
  have hro : Fence.wide.round = none := rfl
  obtain ⟨i0, hi, hz0, hz1, hz2⟩ := info_parts strn_info
  refine callsIn_of_wp_marks Tryz.func213 rfl trivial ?_ hro
  simp only [Tryz.ntmps213, List.size_toArray, List.length_cons, List.length_nil, Nat.reduceAdd, Nat.reduceSub, Array.replicate_succ, Array.replicate_zero, List.push_toArray, List.append_toArray, List.nil_append, List.cons_append]
  gi_wp2
  have bO := Boxed.new w 23 (.slice none 0 0)
  have hB0 : RowKit.Below w.heap.size w (w.alloc (.cells #[.slice none 0 0] 23)) := (RowKit.Below.refl _ w).alloc (Nat.le_refl _) _
  refine wpIn_rangeFunc_ownG hro (by omega) (gf := g) (lb := lb) rfl trivial eg hseq belowK_t (belowK_b (by simp)) hB0 (fun _ => rfl)
    (fun pre W => (∃ v, Boxed W w.heap.size 23 v ∧ W.ownsRow w.heap.size 9 1 v pre.length (pre.map encStr) ∧ True) ∧ RowKit.Below w.heap.size w W)
    (fun _ _ _ => False)
    (OwnFrom.and (Own.from (holdsRow_own w.heap.size w.heap.size 23 9 1 (fun pre : List (List UInt8) => pre.length) (fun pre => pre.map encStr) (fun pre v => True)) _) (ownFrom_below (Nat.le_refl _) (by simp)))
    (fun _ _ _ _ _ hs _ _ => hs)
    ⟨⟨_, bO, World.ownsRow_nil _ _ _ _, trivial⟩, hB0⟩
    (fun x => { tmps := #[.slice none 0 0, .func (.func g) #[] lb, .pointer (some ⟨w.heap.size, 0, none⟩), undef, .slice none 0 0, encStr x, .func (.func g) #[] lb, encStr x, undef, undef, undef, undef, undef], defers := [] }) ?assign ?body ?done ?stop
  case assign =>
    intro l x W K hK
    gi_wp2
    exact hK
  case body =>
    rintro l pre x W ⟨⟨v, hv, hrow, -⟩, hB⟩ hlt
    have hc := hv.cell
    gi_wp2_with (gi_at_builtin; refine wpListIn_append_own _ rfl _ _ 23 rfl w.heap.size 9 i0 (.string ⟨#[]⟩) 1 16 Tryz.underlying23 hi hz0 hz1 hz2 rfl (by decide) _ _ _ rfl (hrow.alloc _) ⟨W.heap.size, 0, none⟩ 1 1 [encStr x] rfl rfl (cell_one_new _ _ _) (by simp [encStr, Value.oneCell']) (by unfold maxLen; omega) (by omega) (by have := hB.size; simp; omega) ?_; intro v' w1 hown' hgrow _; obtain ⟨g', cap', rfl⟩ := ownsRow_succ hown'; obtain ⟨hv1, hv2, hr2, hk2, hb2⟩ := hv.appended (by decide) hrow hB.size (Nat.le_refl _) hown' hgrow; have hc1 := hv1.cell; have hf1 := hv1.frozen)
    exact ⟨hk2.from _, hb2, ⟨_, hv2, by simpa using hr2, trivial⟩, hB.trans hb2⟩
  case done =>
    rintro D ys W hD rfl ⟨⟨v, hv, hrow, -⟩, hB⟩ hK
    have hc := hv.cell
    obtain ⟨A, c, rfl, hcc⟩ := own_sl hrow
    gi_wp2
    refine ⟨by simp, .inl ⟨_, _, rfl, run_takeDeferred hK, ?_⟩⟩
    refine ⟨_, results_tmp rfl _ _ _, .slice A ys.length c, rfl, ?_, hB.trans (belowK_b (w := w) (Nat.le_refl _) W D _ _ (by simp at hD; omega) hK rfl rfl)⟩
    exact ownsRow_putObj hrow (.deferred none) hK rfl
  case stop =>
    rintro D c pre W _ _ h _
    exact h.elim
set_option maxHeartbeats 1000000 in
theorem collect_s (w : World) (g : Nat) (lb : Array Value) (xs : List (List UInt8)) (hlen : xs.length ≤ 1000) (eg : ∀ args w, (callFunc g args).run Tryz.prog w = .ok (.enter g args) w)
    (hseq : SeqStopsK Fence.wide 8 Tryz.prog g lb (fun b : List UInt8 => #[encStr b]) (RowKit.Below w.heap.size) (fun ys => ys = xs) (fun _ => True) xs.length w) :
    Calls Tryz.prog 195 #[.func (.func g) #[] lb] w fun r w' => SrowRet w r w' xs := by
  have H := Lib.hid (appendSeq_s w g lb xs hlen eg hseq)
  clear hseq eg
  go_enter Tryz.func195, Tryz.ntmps195
  go_wp2_with fail
  refine H.out.mono ?_
  rintro r w1 ⟨v, rfl, h3, h4⟩
  have HS := Lib.hid h3
  clear h3
  go_wp2_with fail
  go_ret
  exact ⟨v, rfl, HS.out, h4⟩
/-- Texts behind a box. -/
structure ValsAt (W : World) (n₀ nb : Nat) (An : Option Addr) (ss : List (List UInt8)) (cn : Nat) : Prop where
  nc : W.cell? ⟨nb, 0, none⟩ = some (.slice An ss.length cn)
  ns : StrSl W n₀ An ss
  nl : nb < n₀
theorem ValsAt.later {W W' : World} {n₀ nb : Nat} {An : Option Addr} {ss : List (List UInt8)} {cn : Nat} (h : ValsAt W n₀ nb An ss cn) (hb : RowKit.Below n₀ W W') : ValsAt W' n₀ nb An ss cn :=
  ⟨(hb.cell (p := ⟨nb, 0, none⟩) h.nl).trans h.nc, h.ns.below hb, h.nl⟩
set_option maxRecDepth 100000 in
set_option maxHeartbeats 2000000 in
theorem values1_in (l nb n₀ : Nat) (An : Option Addr) (ss : List (List UInt8)) (cn : Nat) (hl : ss.length ≤ 1000)
    (J Jx : List (List UInt8) → World → Prop)
    (hY : ∀ pre x W, J pre W → pre.length < ss.length → YieldAt Fence.wide 7 Tryz.prog l #[encStr x] W fun r W' =>
      (r = .returned (.bool true) ∧ J (pre ++ [x]) W' ∧ RowKit.Below n₀ W W') ∨ (r = .returned (.bool false) ∧ Jx (pre ++ [x]) W'))
    (W : World) (_hJ : AbidesFrom W.heap.size J) (_hn : n₀ ≤ W.heap.size) (hR : ValsAt W n₀ nb An ss cn) (h0 : J [] W) :
    CallsIn Fence.wide 8 Tryz.prog 197 #[.func (.yield l) #[] #[], .pointer (some ⟨nb, 0, none⟩)] W fun r W' => (∃ v, r = .returned v) ∧
      ((∃ ys, ys = ss ∧ J ys W') ∨ (∃ pre, True ∧ Jx pre W')) := by
  have hro : Fence.wide.round = none := rfl
  have HR := Lib.hid hR
  have c0 := hR.nc
  clear hR
  refine callsIn_of_wp Tryz.func197 rfl trivial ?_ hro
  simp only [Tryz.ntmps197, List.size_toArray, List.length_cons, List.length_nil, Nat.reduceAdd, Nat.reduceSub, Array.replicate_succ, Array.replicate_zero, List.push_toArray, List.append_toArray, List.nil_append, List.cons_append]
  gi_wp2
  gi_loopw [7] (fun kk wr => ∃ k : Nat, kk = .int .i64 k ∧ k ≤ ss.length ∧ J (ss.take k) wr ∧ RowKit.Below n₀ W wr) (fun kk _ => ss.length - (intOf kk).toNat)
  case atStart => exact ⟨0, rfl, by omega, h0, RowKit.Below.refl _ _⟩
  case round =>
    obtain ⟨k, rfl, hk, hJk, hbr⟩ := hrel
    have hRr := HR.out.later hbr
    have hWr : W.heap.size ≤ wr.heap.size := by have := hbr.size; omega
    clear c0
    by_cases hlt : k < ss.length
    · obtain ⟨x, hx⟩ : ∃ x, ss[k]? = some x := ⟨_, List.getElem?_eq_getElem hlt⟩
      obtain ⟨b1, o1, rfl, hb1, hcs⟩ := hRr.ns.at_ hlt
      have d0 := hcs k x hx
      have HST : Hid (ss.take (k + 1) = ss.take k ++ [x]) := by show _ = _; rw [List.take_add_one, hx]; rfl
      obtain ⟨fn, tmps, assign, body, hy, hRR⟩ := hY _ x wr hJk (by rw [List.length_take]; omega)
      clear hx hcs
      gi_wp2
      refine hRR.mono ?_
      rintro r W3 (⟨rfl, hJ3, hk3⟩ | ⟨rfl, hJx3⟩)
      · gi_wp2
        exact ⟨⟨k + 1, by go_num, by omega, by rw [HST.out]; exact hJ3, hbr.trans hk3⟩, by simp [intOf]; omega⟩
      · gi_wp2
        refine bodyPost_ret (results_none rfl _ _ _) rfl ?_
        exact ⟨⟨_, rfl⟩, .inr ⟨_, trivial, hJx3⟩⟩
    · have HTA : Hid (ss.take k = ss) := by show _ = _; rw [List.take_of_length_le (by omega)]
      gi_wp2
      go_end0
      exact ⟨⟨_, rfl⟩, .inl ⟨_, rfl, by rw [← HTA.out]; exact hJk⟩⟩
set_option maxHeartbeats 1000000 in
theorem slices_Values (An : Option Addr) (m cn : Nat) (w : World) : Calls Tryz.prog 170 #[.slice An m cn] w fun r w' => r = .returned (.func (.func 197) #[] #[.pointer (some ⟨w.heap.size, 0, none⟩)]) ∧ w' = w.alloc (.cells #[.slice An m cn] 23) := by
  go_enter Tryz.func170, Tryz.ntmps170
  go_wp2_with fail
  go_ret
  exact ⟨rfl, rfl⟩
set_option maxHeartbeats 1000000 in
theorem names_sorted (An : Option Addr) (ss : List (List UInt8)) (cn : Nat) (hl : ss.length ≤ 1000) (w : World) (hss : StrSl w w.heap.size An ss) :
    Calls Tryz.prog 169 #[.func (.func 197) #[] #[.pointer (some ⟨w.heap.size, 0, none⟩)]] (w.alloc (.cells #[.slice An ss.length cn] 23)) fun r w' => ∃ A c, r = .returned (.slice A ss.length c) ∧ StrSl w' w'.heap.size A (sorted ss) ∧ RowKit.Below w.heap.size w w' ∧ (∀ b o, A = some ⟨b, o, none⟩ → w.heap.size + 1 ≤ b) := by
  obtain ⟨w2, hw2⟩ : ∃ w2, w.alloc (.cells #[.slice An ss.length cn] 23) = w2 := ⟨_, rfl⟩
  have hb : RowKit.Below w.heap.size w w2 := by rw [← hw2]; (repeat (first | assumption | exact Below.refl _ _ | apply Below.drew | apply below_drewN | (refine Below.alloc ?_ (by first | exact Nat.le_refl _ | omega | (simp; done) | (simp; omega)) _)))
  have hz2 : w2.heap.size = w.heap.size + 1 := by rw [← hw2]; simp
  have hR : ValsAt w2 w2.heap.size w.heap.size An ss cn := by
    have c1 := (Blk.new w 23 #[.slice An ss.length cn]).cell 0
    rw [hw2] at c1
    exact ⟨c1, (hss.below hb).more hb.size, by omega⟩
  rw [hw2]
  have HC := Lib.hid (collect_s w2 197 #[.pointer (some ⟨w.heap.size, 0, none⟩)] ss hl (enters_of Tryz.func197 (by kernel_rfl) rfl)
    (fun l J Jx W hW hJ hJx hY h0 => values1_in l w.heap.size w2.heap.size An ss cn hl J Jx hY W hJ hW.size (hR.later hW) h0))
  have HB := Lib.hid hb
  have HZ2 := Lib.hid hz2
  clear hR hss hw2 hz2 hb
  go_enter Tryz.func169, Tryz.ntmps169
  go_wp2_with fail
  refine HC.out.mono ?_
  rintro r w3 ⟨v, rfl, hrow, hb3⟩
  have HS := Lib.hid (sort_own hrow (by omega))
  have HB3 := Lib.hid hb3
  have HOL : Hid (∀ b, v.ownBlock = some b → w2.heap.size ≤ b) := fun b h => (own_lt hrow h).1
  clear hrow hb3
  go_wp2_with fail
  refine HS.out.mono ?_
  rintro r w4 ⟨rfl, hrow4, hg4⟩
  have hw4 := HB3.out.grown hg4 HB3.out.size HOL.out
  obtain ⟨A, c, hv, hs⟩ := own_strs hrow4
  have hsl : (sorted ss).length = ss.length := by simp [sorted]
  rw [hsl] at hv
  have HAL : Hid (∀ b o, A = some ⟨b, o, none⟩ → w.heap.size + 1 ≤ b) := fun b o e => by
    have h1 := (own_lt hrow4 (b := b) (by rw [hv, e]; rfl)).1
    have := HZ2.out
    omega
  subst hv
  have HSS := Lib.hid hs
  clear hrow4 hg4 hs
  go_wp2_with fail
  go_ret
  exact ⟨A, c, rfl, HSS.out, HB.out.trans (hw4.mono HB.out.size), HAL.out⟩
end Go.Proofs.YtpheiojmcafolaaGreatDoor
namespace Go.Proofs.YtpheiojmcafolaaGreatDoor
set_option maxRecDepth 100000
open Go.RowKit Go.Sort Go.Maps
abbrev SlH := Option Addr × Nat × Nat
def slR (v : Value) : Option (DataW SlH × List MemPlace) := match v with
  | .slice A n c => some (.held (A, n, c), [])
  | _ => none
theorem slR_inv {v : Value} {z : DataW SlH × List MemPlace} (h : slR v = some z) : ∃ A n c, v = .slice A n c ∧ z = (.held (A, n, c), []) := by
  unfold slR at h
  split at h
  · injection h with h; exact ⟨_, _, _, rfl, h.symm⟩
  · cases h
theorem strk_law : Maps.Keyed Tryz.prog 9 := Maps.string_keyed Tryz.underlying9
theorem strk_eq {s : ByteArray} (h : s.size ≤ maxLen) : keyOf Tryz.prog 9 (.string s) = some (.string s.data.toList) := Go.WideMaps.keyOf_string_mk Tryz.underlying9 h
/-- Names and where their values lie: the first k of them. -/
def ByOk (ss : List (List UInt8)) (ms : List NsM) (k : Nat) (D : DataW SlH) : Prop := ∀ l : List UInt8, Maps.has D (.string l) = decide (l ∈ ss.take k) ∧ ∀ i y, i < k → ss[i]? = some l → ms[i]? = some y → ∀ z, D.atKey (.string l) z = .held (y.A, y.e.length, y.c)
def ByAt (w : World) (mb : Nat) (ss : List (List UInt8)) (ms : List NsM) (k : Nat) : Prop := ∃ D, w.ownsMap Tryz.prog 9 slR mb k D ∧ ByOk ss ms k D
theorem ByAt.kept {w w' : World} {mb k : Nat} {ss : List (List UInt8)} {ms : List NsM} (h : ByAt w mb ss ms k) {row : Option Nat} (hg : w.grownBy w' row) (hne : some mb ≠ row) : ByAt w' mb ss ms k := by
  obtain ⟨D, h1, h2⟩ := h
  exact ⟨D, h1.kept hg hne, h2⟩
theorem ByAt.lt {w : World} {mb k : Nat} {ss : List (List UInt8)} {ms : List NsM} (h : ByAt w mb ss ms k) : mb < w.heap.size := by
  obtain ⟨D, h1, _⟩ := h
  exact h1.lt
theorem ByAt.below {w w' : World} {mb k : Nat} {ss : List (List UInt8)} {ms : List NsM} (h : ByAt w mb ss ms k) (hb : RowKit.Below w.heap.size w w') : ByAt w' mb ss ms k :=
  h.kept (row := none) ⟨hb.os, hb.tape, hb.output, hb.size, fun k hk _ => hb.block k hk⟩ (by simp)
theorem by_made (w : World) (ss : List (List UInt8)) (ms : List NsM) : ByAt (w.alloc (.map #[] 0)) w.heap.size ss ms 0 :=
  ⟨_, World.ownsMap_made _ _ _ _, fun l => ⟨by simp [Maps.has], fun i y hi => by omega⟩⟩
theorem nds_zero (w : World) : (zeroValue 22).run Tryz.prog w = .ok (.slice none 0 0) w := by kernel_rfl
theorem lstr_key {s : ByteArray} : (Lit.string s.data.toList) = .string s.toList := by rw [ByteArray.toList_eq]
/-- Not there yet. -/
theorem by_miss {w : World} {mb k : Nat} {ss : List (List UInt8)} {ms : List NsM} (h : ByAt w mb ss ms k) {s : ByteArray} (hs : s.size ≤ maxLen) (hn : s.toList ∉ ss.take k) :
    (Instr.lookup 247 (.map (some mb)) (.string s) true).run Tryz.prog w = .ok (.tuple #[.slice none 0 0, .bool false]) w := by
  obtain ⟨D, h1, h2⟩ := h
  obtain ⟨v, ps, hr, hv⟩ := h1.look_ok strk_law Tryz.underlying247 (nds_zero w) (zd := .held (none, 0, 0)) (zp := []) rfl (strk_eq hs)
  rw [lstr_key] at hr hv
  have h0 : Maps.has D (.string s.toList) = false := by rw [(h2 s.toList).1]; simpa using hn
  rw [atKey_of_not_has h0] at hv
  obtain ⟨A, n, c, rfl, e⟩ := slR_inv hv
  simp only [Prod.mk.injEq, DataW.held.injEq] at e
  obtain ⟨⟨rfl, rfl, rfl⟩, _⟩ := e
  rw [hr, h0]
theorem by_hit {w : World} {mb k : Nat} {ss : List (List UInt8)} {ms : List NsM} (h : ByAt w mb ss ms k) {s : ByteArray} (hs : s.size ≤ maxLen) {i : Nat} {y : NsM} (hi : i < k) (h1 : ss[i]? = some s.toList) (h2 : ms[i]? = some y) :
    (Instr.lookup 247 (.map (some mb)) (.string s) false).run Tryz.prog w = .ok (.slice y.A y.e.length y.c) w := by
  obtain ⟨D, g1, g2⟩ := h
  obtain ⟨v, ps, hr, hv⟩ := g1.lookup strk_law Tryz.underlying247 (nds_zero w) (zd := .held (none, 0, 0)) (zp := []) rfl (strk_eq hs)
  rw [lstr_key] at hv
  rw [(g2 s.toList).2 i y hi h1 h2] at hv
  obtain ⟨A, n, c, rfl, e⟩ := slR_inv hv
  simp only [Prod.mk.injEq, DataW.held.injEq] at e
  obtain ⟨⟨rfl, rfl, rfl⟩, _⟩ := e
  exact hr
theorem by_put {w : World} {mb k : Nat} {ss : List (List UInt8)} {ms : List NsM} (h : ByAt w mb ss ms k) (hnd : ss.Nodup) {s : ByteArray} (hs : s.size ≤ maxLen) {y : NsM} (h1 : ss[k]? = some s.toList) (h2 : ms[k]? = some y) (hk : k ≤ 1000) :
    ∃ w', (Instr.mapUpdate 247 (.map (some mb)) (.string s) (.slice y.A y.e.length y.c)).run Tryz.prog w = .ok () w' ∧ ByAt w' mb ss ms (k + 1) ∧ w.grownBy w' (some mb) := by
  obtain ⟨D, g1, g2⟩ := h
  obtain ⟨w', hr, h3, h4⟩ := g1.update strk_law Tryz.underlying247 (by unfold maxLen; omega) (strk_eq hs) (val := .slice y.A y.e.length y.c) (d := .held (y.A, y.e.length, y.c)) (ps := []) rfl
  rw [lstr_key] at h3
  refine ⟨w', hr, ⟨_, h3, fun l => ?_⟩, h4⟩
  have hkey : WideAt.IsKeyLit (.string s.toList) := by rw [← lstr_key]; exact strk_law.key (strk_eq hs)
  by_cases e : l = s.toList
  · subst e
    rw [has_put_same g1.isMap hkey]
    refine ⟨by rw [List.take_add_one, h1]; simp, fun i z hi hl hz t => ?_⟩
    rw [atKey_put_same g1.isMap hkey]
    have : i = k := by
      obtain ⟨a1, a2⟩ := List.getElem?_eq_some_iff.1 hl
      obtain ⟨b1, b2⟩ := List.getElem?_eq_some_iff.1 h1
      exact (List.getElem_inj hnd).1 (a2.trans b2.symm)
    subst this
    rw [h2] at hz; injection hz with hz; subst hz; rfl
  · have hne : (Lit.string l) ≠ .string s.toList := fun h => e (by injection h)
    rw [has_put_other hne]
    refine ⟨by rw [(g2 l).1, List.take_add_one, h1]; simp [e], fun i z hi hl hz t => ?_⟩
    have hik : i < k := by
      rcases Nat.lt_or_ge i k with h | h
      · exact h
      · have : i = k := by omega
        subst this
        rw [h1] at hl; injection hl with hl; exact absurd hl.symm e
    rw [atKey_put_other hne, (g2 l).2 i z hik hl hz t]
end Go.Proofs.YtpheiojmcafolaaGreatDoor
namespace Go.Proofs.YtpheiojmcafolaaGreatDoor
set_option maxRecDepth 100000
open Go.RowKit Go.Sort Go.Maps
theorem StrSl.but {w w' : World} {B g : Nat} {A : Option Addr} {ss : List (List UInt8)} (h : StrSl w B A ss) (hne : ∀ b o, A = some ⟨b, o, none⟩ → b ≠ g) (hk : ∀ k, k < B → k ≠ g → w'.heap[k]? = w.heap[k]?) : StrSl w' B A ss := fun hn => by
  obtain ⟨b, o, e, hb, hc⟩ := h hn
  exact ⟨b, o, e, hb, fun i l hl => (World.cell?_of_block (a := ⟨b, o + i, none⟩) (hk b hb (hne b o e))).trans (hc i l hl)⟩
/-- The field of a name. -/
def fldOf (ss : List (List UInt8)) (ms : List NsM) (l : List UInt8) : List Nd := ⟨7, 0, bsL l, ⟨#[]⟩⟩ :: (((ms.map NsM.e)[ss.idxOf l]?).getD [])
theorem zip_flds (ss : List (List UInt8)) (ms : List NsM) (hl : ms.length = ss.length) (hnd : ss.Nodup) : (((ss.map bsL).zip (ms.map NsM.e)).map fun f => (⟨7, 0, f.1, ⟨#[]⟩⟩ : Nd) :: f.2) = ss.map (fldOf ss ms) := by
  apply List.ext_getElem
  · simp [hl]
  · intro i h1 h2
    have hi : i < ss.length := by simpa using h2
    have hid : ss.idxOf ss[i] = i := by
      have hk : ss.idxOf ss[i] < ss.length := List.idxOf_lt_length_iff.2 (List.getElem_mem hi)
      exact (List.getElem_inj hnd).1 (List.getElem_idxOf hk)
    have hm : i < (ms.map NsM.e).length := by simp; omega
    simp only [List.getElem_map, List.getElem_zip, fldOf, hid]
    rw [List.getElem?_eq_getElem hm]
    simp
theorem sort_flds (ss : List (List UInt8)) (ms : List NsM) : sortN (ss.map (fldOf ss ms)) = (sorted ss).map (fldOf ss ms) := by
  unfold sortN sorted
  rw [List.map_mergeSort]
  intro a _ b _
  show decide (a ≤ b) = decide ((bsL a).toList ≤ (bsL b).toList)
  rw [bsL_toList, bsL_toList]
/-- The fields so far. -/
def catF (ss : List (List UInt8)) (ms : List NsM) (L : List (List UInt8)) : List Nd := L.flatMap (fldOf ss ms)
theorem catF_step {ss : List (List UInt8)} {ms : List NsM} {L : List (List UInt8)} {k : Nat} {l : List UInt8} (h : L[k]? = some l) : catF ss ms (L.take (k + 1)) = catF ss ms (L.take k) ++ fldOf ss ms l := by
  unfold catF
  rw [List.take_add_one, h, List.flatMap_append]; simp
theorem catF_le {ss : List (List UInt8)} {ms : List NsM} {L : List (List UInt8)} (k : Nat) : (catF ss ms (L.take k)).length ≤ (catF ss ms L).length := by
  conv => rhs; rw [← List.take_append_drop k L]
  unfold catF
  rw [List.flatMap_append, List.length_append]; omega
theorem recR_cat (ss : List (List UInt8)) (ms : List NsM) (hl : ms.length = ss.length) (hnd : ss.Nodup) (hg : recGo ((ss.map bsL).zip (ms.map NsM.e)) [] = 0) :
    recR ((ss.map bsL).zip (ms.map NsM.e)) = if 200 < (⟨6, ss.length, ⟨#[]⟩, ⟨#[]⟩⟩ :: catF ss ms (sorted ss) : List Nd).length then .bad 4 else .ok (⟨6, ss.length, ⟨#[]⟩, ⟨#[]⟩⟩ :: catF ss ms (sorted ss)) := by
  unfold recR
  rw [if_neg (by simp [hg])]
  have e : recNodes ((ss.map bsL).zip (ms.map NsM.e)) = ⟨6, ss.length, ⟨#[]⟩, ⟨#[]⟩⟩ :: catF ss ms (sorted ss) := by
    unfold recNodes catF
    rw [zip_flds ss ms hl hnd, sort_flds, ← List.flatMap_def]
    simp [hl]
  rw [e]
set_option maxHeartbeats 12800000 in
theorem val_RecOf (ss : List (List UInt8)) (ms : List NsM) (An Av : Option Addr) (cn cv : Nat) (w : World) (hl : ms.length = ss.length) (hl2 : ss.length ≤ 1000) (hnd : ss.Nodup) (hsz : ∀ l ∈ ss, l.length ≤ 140737488351232) (hnm : ∀ l ∈ ss, nameErr l = 0)
    (hv : ∀ y ∈ ms, valErr y.e = 0 ∧ NdOk y.e) (hg : recGo ((ss.map bsL).zip (ms.map NsM.e)) [] = 0) (hss : StrSl w w.heap.size An ss) (hms : NssAt w Av ms) :
    Calls Tryz.prog 141 #[.slice An ss.length cn, .slice Av ms.length cv] w fun r w' => NdsNewE w r w' (rsL (recR ((ss.map bsL).zip (ms.map NsM.e)))) (rsE (recR ((ss.map bsL).zip (ms.map NsM.e)))) := by
  obtain ⟨j0, hj, hy0, hy1, hy2⟩ := info_parts nd_info
  rw [recR_cat ss ms hl hnd hg]
  have hmm := @run_makeMap Tryz.prog
  have HL := Lib.hid hl
  have hle1 : ms.length ≤ ss.length := by omega
  have hle2 : ss.length ≤ ms.length := by omega
  have tl : ((ss.length : Int) != (ms.length : Int)) = false := by simp; omega
  have HND := Lib.hid hnd
  have HSZ := Lib.hid hsz
  have HNM := Lib.hid hnm
  have HV := Lib.hid hv
  have HSS := Lib.hid hss
  have HMS := Lib.hid hms
  have hb0 : RowKit.Below w.heap.size w (w.alloc (.map #[] 0)) := by (repeat (first | assumption | exact Below.refl _ _ | apply Below.drew | apply below_drewN | (refine Below.alloc ?_ (by first | exact Nat.le_refl _ | omega | (simp; done) | (simp; omega)) _)))
  have HBY0 := Lib.hid (by_made w ss ms)
  obtain ⟨q, hq⟩ : ∃ q, (if 200 < (⟨6, ss.length, ⟨#[]⟩, ⟨#[]⟩⟩ :: catF ss ms (sorted ss) : List Nd).length then (.bad 4 : Rs (List Nd)) else .ok (⟨6, ss.length, ⟨#[]⟩, ⟨#[]⟩⟩ :: catF ss ms (sorted ss))) = q := ⟨_, rfl⟩
  rw [hq]
  have HQ := Lib.hid hq
  clear hl hnd hsz hnm hv hss hms hg hq
  go_enter Tryz.func141, Tryz.ntmps141
  go_wp2_with fail
  go_loopw [25] (fun kk wr => ∃ k : Nat, kk = .int .i64 k ∧ k ≤ ss.length ∧ Hid (ByAt wr w.heap.size ss ms k) ∧ RowKit.Below w.heap.size w wr) (fun kk _ => ss.length - (intOf kk).toNat)
  case atStart => exact ⟨0, rfl, by omega, HBY0.out, hb0⟩
  case round =>
    obtain ⟨k, rfl, hk, HBY, hbr⟩ := hrel
    have hzr := hbr.size
    by_cases hlt : k < ss.length
    · obtain ⟨l, hl⟩ : ∃ l, ss[k]? = some l := ⟨_, List.getElem?_eq_getElem hlt⟩
      have hlm := List.mem_of_getElem? hl
      obtain ⟨bn, on, rfl, hbn, hcs⟩ := (HSS.out.below hbr).at_ hlt
      have d0 : wr.cell? ⟨bn, on + k, none⟩ = some (.string (bsL l)) := hcs k l hl
      obtain ⟨y, hy⟩ : ∃ y, ms[k]? = some y := ⟨_, List.getElem?_eq_getElem (by omega)⟩
      have hym := List.mem_of_getElem? hy
      have HMr := Lib.hid (HMS.out.later hbr)
      obtain ⟨bm, om, rfl, hbm, d1⟩ := nsSl_at HMr.out.sl hy
      have hbs : (bsL l).size ≤ 140737488351232 := by have := HSZ.out l hlm; rw [← toList_len, bsL_toList]; exact this
      have hbs2 : (bsL l).size ≤ maxLen := by unfold maxLen; omega
      have HNC := Lib.hid (by
        have h := name_Check (bsL l) wr hbs
        rw [bsL_toList, HNM.out l hlm] at h
        exact h)
      have hn1 : l ∉ ss.take k := by
        intro hm
        have h1 := HND.out
        rw [← List.take_append_drop k ss, List.nodup_append] at h1
        exact h1.2.2 l hm l (List.mem_of_getElem? (i := 0) (by rw [List.getElem?_drop]; exact hl)) rfl
      have HMISS := Lib.hid (fun W (h : ByAt W w.heap.size ss ms k) => by_miss h hbs2 (by rw [bsL_toList]; exact hn1))
      have HVC := Lib.hid (fun W (hW : RowKit.Below wr.heap.size wr W) => by
        have g := (HMr.out.later hW).good y hym
        have h := val_Check y.e y.A y.c W g.le g.max (HV.out y hym).2 g.sl
        rw [(HV.out y hym).1] at h
        exact h)
      have HPUT := Lib.hid (fun W (h : ByAt W w.heap.size ss ms k) => by_put h HND.out hbs2 (by rw [bsL_toList]; exact hl) hy (by omega))
      clear hl hlm hcs hy hym hbs hn1
      obtain ⟨s, hs⟩ : ∃ s, bsL l = s := ⟨_, rfl⟩
      rw [hs] at d0 HNC HMISS HPUT hbs2
      clear hs
      go_wp2_with fail
      refine HNC.out.mono ?_
      rintro r w1 ⟨rfl, hb1⟩
      have e1 := (hb1.cell (p := ⟨bm, om + k, none⟩) (by show bm < _; exact hbm)).trans d1
      have HBY1 := Lib.hid (HBY.out.below hb1)
      have hlook := HMISS.out w1 HBY1.out
      have HB1 := Lib.hid hb1
      have HVC1 := Lib.hid (HVC.out w1 hb1)
      have hbm1 : bm < w1.heap.size := by have := hb1.size; omega
      clear hb1 d1 d0
      go_wp2_with fail
      refine HVC1.out.mono ?_
      rintro r w2 ⟨rfl, hb2⟩
      have e2 := (hb2.cell (p := ⟨bm, om + k, none⟩) hbm1).trans e1
      have HBY2 := Lib.hid (HBY1.out.below hb2)
      obtain ⟨w3, hput, hby3, hg3⟩ := HPUT.out w2 HBY2.out
      have HBY3 := Lib.hid hby3
      have hw2 := hbr.trans ((HB1.out.trans (hb2.mono HB1.out.size)).mono hzr)
      have hw3 : RowKit.Below w.heap.size w w3 := hw2.grown hg3 hw2.size (fun j hj => by injection hj with hj; omega)
      clear hb2 e1 hlook hby3 hg3 hw2
      go_wp2_with fail
      exact ⟨⟨k + 1, by go_num, by omega, HBY3, hw3⟩, by simp [intOf]; omega⟩
    · have HBYN : Hid (ByAt wr w.heap.size ss ms ss.length) := by
        have e : k = ss.length := by omega
        rw [← e]; exact HBY.out
      clear HBY
      obtain ⟨x0, hx0⟩ : ∃ x0 : Nd, x0 = ⟨6, ss.length, ⟨#[]⟩, ⟨#[]⟩⟩ := ⟨_, rfl⟩
      have HX0 := Lib.hid hx0
      rw [← hx0] at HQ
      have HOL := Lib.hid (World.ownsRow_lit (base := wr.heap.size) (e := 37) (size := 4) wr #[.int .i64 6, .int .i64 ss.length, .string ⟨#[]⟩, .string ⟨#[]⟩] 1 (Nat.le_refl _) (by decide) (by simp))
      obtain ⟨wA, hwA⟩ : ∃ wA, wr.alloc (.cells #[.int .i64 6, .int .i64 ss.length, .string ⟨#[]⟩, .string ⟨#[]⟩] 37) = wA := ⟨_, rfl⟩
      have hbA : RowKit.Below wr.heap.size wr wA := by rw [← hwA]; (repeat (first | assumption | exact Below.refl _ _ | apply Below.drew | apply below_drewN | (refine Below.alloc ?_ (by first | exact Nat.le_refl _ | omega | (simp; done) | (simp; omega)) _)))
      have hzA : wr.heap.size < wA.heap.size := by rw [← hwA]; simp
      have HO0 : Hid (wA.ownsRow wr.heap.size 37 4 (.slice (some ⟨wr.heap.size, 0, none⟩) 1 1) 1 (flat [x0])) := by
        have := HOL.out
        rw [hwA] at this
        rw [hx0]
        simpa [flat, Nd.cells, Hid] using this
      have HBYA := Lib.hid (HBYN.out.below hbA)
      have HWA := Lib.hid hwA
      have HBA := Lib.hid hbA
      have hwA2 := hbr.trans (hbA.mono hzr)
      have HSSA := Lib.hid ((HSS.out.below hwA2).more hwA2.size)
      have HSRT := Lib.hid (names_sorted An ss cn hl2 wA HSSA.out)
      have HVAL := Lib.hid (slices_Values An ss.length cn wA)
      clear hx0 HOL hwA hbA hwA2
      go_wp2_with fail
      rw [HWA.out]
      refine HVAL.out.mono ?_
      rintro r w1 ⟨rfl, rfl⟩
      go_wp2_with fail
      refine HSRT.out.mono ?_
      rintro r w2 ⟨As, cs, rfl, hst, hb2, hasb⟩
      have HASB : Hid (∀ b o, As = some ⟨b, o, none⟩ → b ≠ wr.heap.size) := fun b o e => by have := hasb b o e; omega
      have HST := Lib.hid hst
      have HO2 := Lib.hid (own_keep HO0.out hb2)
      have HBY2 := Lib.hid (HBYA.out.below hb2)
      have HB2 : Hid (RowKit.Below w.heap.size w w2) := hbr.trans ((HBA.out.trans (hb2.mono HBA.out.size)).mono hzr)
      have hz2 : wA.heap.size ≤ w2.heap.size := hb2.size
      have HSL : Hid ((sorted ss).length = ss.length) := by show _ = _; simp [sorted]
      have HSM : Hid (∀ l, l ∈ sorted ss → l ∈ ss) := fun l hl => (List.mergeSort_perm ss _).mem_iff.1 hl
      clear hst hb2 hasb
      generalize sorted ss = S at *
      have hS1 : S.length ≤ ss.length := by have := HSL.out; omega
      have hS2 : ss.length ≤ S.length := by have := HSL.out; omega
      obtain ⟨wo, rfl⟩ : ∃ wo : World, wo = wr := ⟨_, rfl⟩
      go_wp2_with fail
      go_loopw [13, 66] (fun ov kk wr => ∃ (k l : Nat), kk = .int .i64 k ∧ k ≤ S.length ∧ l ≤ 200 ∧ Hid (l = (x0 :: catF ss ms (S.take k)).length) ∧ Hid (wr.ownsRow wo.heap.size 37 4 ov l (flat (x0 :: catF ss ms (S.take k)))) ∧ Hid (ByAt wr w.heap.size ss ms ss.length) ∧ RowKit.Below w.heap.size w wr ∧ Hid (StrSl wr w2.heap.size As S) ∧ Hid (∀ b, ov.ownBlock = some b → b = wo.heap.size ∨ w2.heap.size ≤ b) ∧ w2.heap.size ≤ wr.heap.size) (fun _ kk _ => S.length - (intOf kk).toNat)
      case atStart => exact ⟨0, 1, rfl, by omega, by omega, by simp [catF, Hid], by simpa [catF, Hid] using HO2.out, HBY2.out, HB2.out, HST.out, fun b h => by injection h with h; exact .inl h.symm, Nat.le_refl _⟩
      case round =>
        obtain ⟨k, l, rfl, hk1, hl200, HLL, HOr, HBYr, hbr2, HSTr, HOWr, hzr2⟩ := hrel
        by_cases hlt2 : k < S.length
        · obtain ⟨nm, hnm⟩ : ∃ nm, S[k]? = some nm := ⟨_, List.getElem?_eq_getElem hlt2⟩
          have hns : nm ∈ ss := HSM.out nm (List.mem_of_getElem? hnm)
          obtain ⟨bs, os, rfl, hbs, hcs⟩ := HSTr.out.at_ hlt2
          have d0 : wr.cell? ⟨bs, os + k, none⟩ = some (.string (bsL nm)) := hcs k nm hnm
          have hik : ss.idxOf nm < ss.length := List.idxOf_lt_length_iff.2 hns
          have hig : ss[ss.idxOf nm]? = some nm := by rw [List.getElem?_eq_getElem hik, List.getElem_idxOf hik]
          obtain ⟨⟨Ay, cy, ey⟩, hy⟩ : ∃ y, ms[ss.idxOf nm]? = some y := ⟨_, List.getElem?_eq_getElem (by omega)⟩
          have hym := List.mem_of_getElem? hy
          have HFD : Hid (fldOf ss ms nm = ⟨7, 0, bsL nm, ⟨#[]⟩⟩ :: ey) := by show _ = _; unfold fldOf; rw [List.getElem?_map, hy]; rfl
          have HCT : Hid (catF ss ms (S.take (k + 1)) = catF ss ms (S.take k) ++ fldOf ss ms nm) := catF_step hnm
          have HCL : Hid ((catF ss ms (S.take (k + 1))).length ≤ (catF ss ms S).length) := catF_le (k + 1)
          have hvy := HV.out _ hym
          have hey200 : ey.length ≤ 200 := ((val_iff ey).1 hvy.1).1
          obtain ⟨yy, yr, hyy, -, -⟩ := ((val_iff ey).1 hvy.1).2.ne
          have hne : ey ≠ [] := by rw [hyy]; simp
          have hgy := HMS.out.good _ hym
          obtain ⟨be, oe, rfl, hbe, -⟩ := hgy.sl hne
          have HCE := Lib.hid (fun W (hW : RowKit.Below w.heap.size w W) j u hu => NdSl.flat (hgy.sl.below hW) j u hu)
          have hnz : (bsL nm).size ≤ maxLen := by have := HSZ.out nm hns; rw [← toList_len, bsL_toList]; unfold maxLen; omega
          have HLK := Lib.hid (fun W (h : ByAt W w.heap.size ss ms ss.length) => by_hit h hnz hik (by rw [bsL_toList]; exact hig) hy)
          have hwoz : w.heap.size < wo.heap.size := HBYN.out.lt
          have HZW : Hid (wo.heap.size < wr.heap.size) := by show _ < _; omega
          obtain ⟨s, hs⟩ : ∃ s, bsL nm = s := ⟨_, rfl⟩
          rw [hs] at d0 HLK HFD
          have hwB : RowKit.Below wr.heap.size wr (wr.alloc (.cells #[.int .i64 7, .int .i64 0, .string s, .string ⟨#[]⟩] 37)) := by (repeat (first | assumption | exact Below.refl _ _ | apply Below.drew | apply below_drewN | (refine Below.alloc ?_ (by first | exact Nat.le_refl _ | omega | (simp; done) | (simp; omega)) _)))
          have HOB := Lib.hid (own_keep HOr.out hwB)
          have HOG : Hid (∀ ov1 : Value, ov1 = ov1) := fun _ => rfl
          have hob : ∀ b, u13.ownBlock = some b → wo.heap.size ≤ b := fun b h => (own_lt HOr.out h).1
          have HBG := Lib.hid (fun (w5 : World) (hg : (wr.alloc (.cells #[.int .i64 7, .int .i64 0, .string s, .string ⟨#[]⟩] 37)).grownBy w5 u13.ownBlock) => RowKit.Below.grown (w := wr.alloc (.cells #[.int .i64 7, .int .i64 0, .string s, .string ⟨#[]⟩] 37)) (hbr2.trans (hwB.mono hbr2.size)) hg (by have := hbr2.size; simp; omega) (fun q hq => by have := hob q hq; omega))
          have HBYG := Lib.hid (fun (w5 : World) (hg : (wr.alloc (.cells #[.int .i64 7, .int .i64 0, .string s, .string ⟨#[]⟩] 37)).grownBy w5 u13.ownBlock) => (HBYr.out.below hwB).kept hg (fun e => by have := hob _ e.symm; omega))
          have HZG := Lib.hid (fun (w5 : World) (hg : (wr.alloc (.cells #[.int .i64 7, .int .i64 0, .string s, .string ⟨#[]⟩] 37)).grownBy w5 u13.ownBlock) => (show wr.heap.size + 1 ≤ w5.heap.size from by have := hg.size; simpa using this))
          have HL2 : Hid (l + 1 + ey.length = (x0 :: catF ss ms (S.take (k + 1))).length) := by
            show _ = _
            rw [HLL.out, HCT.out, HFD.out]; simp; omega
          have HLG := Lib.hid (fun (w5 : World) (v5 : Value) (hg : (wr.alloc (.cells #[.int .i64 7, .int .i64 0, .string s, .string ⟨#[]⟩] 37)).grownBy w5 u13.ownBlock) (hloc : v5.ownBlock = u13.ownBlock ∨ v5.ownBlock = some (wr.alloc (.cells #[.int .i64 7, .int .i64 0, .string s, .string ⟨#[]⟩] 37)).heap.size) =>
            (show (∀ b, v5.ownBlock = some b → b = wo.heap.size ∨ w2.heap.size ≤ b) ∧ StrSl w5 w2.heap.size (some ⟨bs, os, none⟩) S from
              ⟨fun b hb => by
                rcases hloc with h | h
                · exact HOWr.out b (h ▸ hb)
                · rw [h] at hb; injection hb with hb; simp at hb; right; omega,
               HSTr.out.but (g := wo.heap.size) (fun b o e => HASB.out b o e) (fun k hk hne => (hg.block k (by simp; omega) (fun e => by rcases HOWr.out k e.symm with h | h; exact hne h; omega)).trans (RowKit.Below.heap_alloc _ _ _ (by omega)))⟩))
          clear hcs hnm hns hig hy hym hvy hyy hne hgy hnz hs hwB hik
          by_cases h200 : 200 < l + 1 + ey.length
          · have HQV : Hid (q = .bad 4) := by
              show _ = _
              rw [← HQ.out, if_pos (by have := HL2.out; have := HCL.out; simp only [List.length_cons] at *; omega)]
            go_wp2_with (first
              | (at_builtin; refine wpList_append_own_at _ rfl (.tmp 70) (.tmp 73) 22 rfl wo.heap.size 37 j0 _ 4 48 Tryz.underlying22 hj hy0 hy1 hy2 rfl (by omega) _ l (flat (x0 :: catF ss ms (S.take k))) rfl HOB.out ⟨wr.heap.size, 0, none⟩ 1 1 (flat [⟨7, 0, s, ⟨#[]⟩⟩]) rfl rfl (fun j u hu => new_flat wr 37 ⟨7, 0, s, ⟨#[]⟩⟩ _ rfl j u hu) (flat_one_cell _) (by unfold maxLen; omega) (by omega) (by simp; omega) ?_; intro v1 w5 hown5 hgrow5 _ hloc5; obtain ⟨A5, c5, hv5, -⟩ := own_nodes' hown5; subst hv5; have HB5 := Lib.hid (HBG.out w5 hgrow5); have HBY5 := Lib.hid (HBYG.out w5 hgrow5); have hlook := HLK.out w5 HBY5.out; have HO5 := Lib.hid hown5; have HZ5 := Lib.hid (HZG.out w5 hgrow5); have HLC5 := Lib.hid (HLG.out w5 (.slice A5 (l + 1) c5) hgrow5 hloc5); clear hown5 hgrow5 hloc5)
              | (at_builtin; refine wpList_append_own_at _ rfl (.tmp 75) (.tmp 78) 22 rfl wo.heap.size 37 j0 _ 4 48 Tryz.underlying22 hj hy0 hy1 hy2 rfl (by omega) _ (l + 1) (flat (x0 :: catF ss ms (S.take k)) ++ flat [⟨7, 0, s, ⟨#[]⟩⟩]) rfl HO5.out ⟨be, oe, none⟩ ey.length cy (flat ey) rfl (flat_len ey) (HCE.out w5 HB5.out) (flat_one_cell ey) (by unfold maxLen; omega) (by omega) (by have := HZ5.out; omega) ?_; intro v2 w6 hown6 hgrow6 _ hloc6; obtain ⟨A6, c6, hv6, -⟩ := own_nodes' hown6; subst hv6))
            have hw6 := HB5.out.grown hgrow6 HB5.out.size (fun q hq => by have := (own_lt HO5.out hq).1; omega)
            clear hown6 hgrow6 hlook
            go_ret2
            rw [HQV.out]
            exact NdsNewE.none (k := 4) hw6
          · go_wp2_with (first
              | (at_builtin; refine wpList_append_own_at _ rfl (.tmp 70) (.tmp 73) 22 rfl wo.heap.size 37 j0 _ 4 48 Tryz.underlying22 hj hy0 hy1 hy2 rfl (by omega) _ l (flat (x0 :: catF ss ms (S.take k))) rfl HOB.out ⟨wr.heap.size, 0, none⟩ 1 1 (flat [⟨7, 0, s, ⟨#[]⟩⟩]) rfl rfl (fun j u hu => new_flat wr 37 ⟨7, 0, s, ⟨#[]⟩⟩ _ rfl j u hu) (flat_one_cell _) (by unfold maxLen; omega) (by omega) (by simp; omega) ?_; intro v1 w5 hown5 hgrow5 _ hloc5; obtain ⟨A5, c5, hv5, -⟩ := own_nodes' hown5; subst hv5; have HB5 := Lib.hid (HBG.out w5 hgrow5); have HBY5 := Lib.hid (HBYG.out w5 hgrow5); have hlook := HLK.out w5 HBY5.out; have HO5 := Lib.hid hown5; have HZ5 := Lib.hid (HZG.out w5 hgrow5); have HLC5 := Lib.hid (HLG.out w5 (.slice A5 (l + 1) c5) hgrow5 hloc5); clear hown5 hgrow5 hloc5)
              | (at_builtin; refine wpList_append_own_at _ rfl (.tmp 75) (.tmp 78) 22 rfl wo.heap.size 37 j0 _ 4 48 Tryz.underlying22 hj hy0 hy1 hy2 rfl (by omega) _ (l + 1) (flat (x0 :: catF ss ms (S.take k)) ++ flat [⟨7, 0, s, ⟨#[]⟩⟩]) rfl HO5.out ⟨be, oe, none⟩ ey.length cy (flat ey) rfl (flat_len ey) (HCE.out w5 HB5.out) (flat_one_cell ey) (by unfold maxLen; omega) (by omega) (by have := HZ5.out; omega) ?_; intro v2 w6 hown6 hgrow6 _ hloc6; obtain ⟨A6, c6, hv6, -⟩ := own_nodes' hown6; subst hv6))
            have hw6 := HB5.out.grown hgrow6 HB5.out.size (fun q hq => by have := (own_lt HO5.out hq).1; omega)
            have HO6 : Hid (w6.ownsRow wo.heap.size 37 4 (.slice A6 (l + 1 + ey.length) c6) (l + 1 + ey.length) (flat (x0 :: catF ss ms (S.take (k + 1))))) := by
              show World.ownsRow _ _ _ _ _ _ _
              rw [HCT.out, HFD.out, ← List.cons_append, show (⟨7, 0, s, ⟨#[]⟩⟩ :: ey : List Nd) = [⟨7, 0, s, ⟨#[]⟩⟩] ++ ey from rfl, ← List.append_assoc, flat_append, flat_append]
              exact hown6
            have HBY6 : Hid (ByAt w6 w.heap.size ss ms ss.length) := HBY5.out.kept hgrow6 (fun e => by have := (own_lt HO5.out e.symm).1; omega)
            have hz6 : w2.heap.size ≤ w6.heap.size := by have := HZ5.out; have := hgrow6.size; omega
            have HST6 : Hid (StrSl w6 w2.heap.size (some ⟨bs, os, none⟩) S) := HLC5.out.2.but (g := wo.heap.size) (fun b o e => HASB.out b o e) (fun k hk hne => hgrow6.block k (by have := HZ5.out; omega) (fun e => by rcases HLC5.out.1 k e.symm with h | h; exact hne h; omega))
            have HOW6 : Hid (∀ b, (Value.slice A6 (l + 1 + ey.length) c6).ownBlock = some b → b = wo.heap.size ∨ w2.heap.size ≤ b) := fun b hb => by
              rcases hloc6 with h | h
              · exact HLC5.out.1 b (h ▸ hb)
              · rw [h] at hb; injection hb with hb; right; have := HZ5.out; omega
            clear hown6 hgrow6 hlook
            exact ⟨⟨k + 1, l + 1 + ey.length, by go_num, by omega, by omega, HL2, HO6, HBY6, hw6, HST6, HOW6, hz6⟩, by simp [intOf]; omega⟩
        · have HT : Hid (S.take k = S) := by show _ = _; rw [List.take_of_length_le (by omega)]
          rw [HT.out] at HOr HLL
          have HQV : Hid (q = .ok (x0 :: catF ss ms S)) := by show _ = _; rw [← HQ.out, if_neg (by have := HLL.out; omega)]
          obtain ⟨Ao, co, hv, hco, hcm4, hso, hnew⟩ := own_form_new HOr.out
          subst hv
          have HSO2 := Lib.hid hso
          have HNW := Lib.hid hnew
          clear hso HOr hnew
          go_wp2_with fail
          go_ret2
          rw [HQV.out]
          have hll := HLL.out
          subst hll
          exact ⟨Ao, co, rfl, hco, hcm4, HSO2.out, hbr2, fun b o h => by have := HNW.out b o h; omega⟩
end Go.Proofs.YtpheiojmcafolaaGreatDoor
