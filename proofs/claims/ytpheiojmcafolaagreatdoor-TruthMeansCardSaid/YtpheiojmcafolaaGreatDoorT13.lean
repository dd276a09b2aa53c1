/-
  THE WALKS: package eval: is, truth, must, entity, uid, told.
  PLAIN LAWS: those above one in a store.
  MAPS KEYED BY UIDS: those that were met; a store by uid.
  THE WALKS: ent.Check$1, slices.IndexFunc and ContainsFunc over entities; ent.one.
  THE WALKS: ent.one.
  THE WALKS: ent.stored, (ent.store).above.
  THE WALKS: ent.Check.
  THE WALKS: ent.In.
  THE WALKS: an evaluation in memory; (*eval.evaluation).record.
  PLAIN LAWS: to go on from the last star is enough.
-/
import Derived.Test.YtpheiojmcafolaaGreatDoorT11
import Derived.Test.YtpheiojmcafolaaGreatDoorT12
import Derived.Test.YtpheiojmcafolaaGreatDoorT02
import Derived.Test.YtpheiojmcafolaaGreatDoorT07
import Derived.Maps.RangeWalk
import Derived.Test.YtpheiojmcafolaaGreatDoorT09
import Derived.Test.YtpheiojmcafolaaGreatDoorT05
import Derived.Test.YtpheiojmcafolaaGreatDoorT03
namespace Go.Proofs.YtpheiojmcafolaaGreatDoor
set_option maxRecDepth 100000
open Go.RowKit Go.Sort
/-- A panic with a number. -/
def noV (k : Int) : List PanicEntry := [{ v := .iface 96 (.int .i64 k), recovered := false }]
theorem val_lit (b : Nd) (W : World) (T : TypeId) : NdSl (W.alloc (.cells #[.int .i64 b.op, .int .i64 b.n, .string b.s, .string b.t] T)) (W.heap.size + 1) (some ⟨W.heap.size, 0, none⟩) [b] := fun _ =>
  ⟨W.heap.size, 0, rfl, by omega, fun i x hx => by
    cases i with
    | zero =>
      simp at hx; subst hx
      exact ⟨by simp [World.cell?_alloc_new], by simp [World.cell?_alloc_new], by simp [World.cell?_alloc_new], by simp [World.cell?_alloc_new]⟩
    | succ i => simp at hx⟩
theorem new_val (b : Nd) (w : World) (T : TypeId) {W : World} (hb : RowKit.Below w.heap.size w W) : NdsNew w (.returned (.slice (some ⟨W.heap.size, 0, none⟩) 1 1)) (W.alloc (.cells #[.int .i64 b.op, .int .i64 b.n, .string b.s, .string b.t] T)) [b] := by
  have := hb.size
  exact ⟨_, 1, rfl, by simp, by omega, by rw [World.size_alloc]; exact val_lit b W T, by (repeat (first | assumption | exact Below.refl _ _ | apply Below.drew | apply below_drewN | (refine Below.alloc ?_ (by first | exact Nat.le_refl _ | omega | (simp; done) | (simp; omega)) _))), fun b' o h => by injection h with h; injection h with h _; omega⟩
set_option maxHeartbeats 1600000 in
theorem eval_is (v : List Nd) (op : Int) (A : Option Addr) (c : Nat) (w : World) (hv : ValIn v A c w) : Calls Tryz.prog 140 #[.slice A v.length c, .int .i64 op] w fun r w' => r = .returned (.bool (opH v == op)) ∧ w' = w := by
  obtain ⟨x, xr, b, o, hx, rfl, hb, ⟨x0, -, -, -⟩, ho, -, -, -, hl⟩ := hv.head
  have hl' : (0 : Int) < (v.length : Int) := by omega
  rw [ho]
  clear hv hx ho hl
  go_enter Tryz.func140, Tryz.ntmps140
  go_wp2_with fail
  go_ret
  exact ⟨rfl, rfl⟩
set_option maxHeartbeats 1600000 in
theorem eval_truth (q : Bool) (w : World) : Calls Tryz.prog 111 #[.bool q] w fun r w' => NdsNew w r w' [bN q] := by
  cases q <;> (
    go_enter Tryz.func111, Tryz.ntmps111
    go_wp2_with fail
    go_ret
    exact new_val (bN _) w 37 (RowKit.Below.refl _ _))
set_option maxHeartbeats 1600000 in
theorem eval_must (v : List Nd) (op : Int) (A : Option Addr) (c : Nat) (w : World) (hv : ValIn v A c w) : Calls Tryz.prog 108 #[.slice A v.length c, .int .i64 op] w fun r w' => ((opH v = op → r = .returned (.slice A v.length c)) ∧ (opH v ≠ op → r = .panicked (noV 2))) ∧ w' = w := by
  have HI := Lib.hid (eval_is v op A c w hv)
  by_cases h : opH v = op
  · have t : (opH v == op) = true := by simp [h]
    rw [t] at HI
    have HH := Lib.hid h
    clear h hv t
    go_enter Tryz.func108, Tryz.ntmps108
    go_wp2_with fail
    refine HI.out.mono ?_
    rintro r w1 ⟨rfl, rfl⟩
    go_wp2_with fail
    go_ret
    exact ⟨⟨fun _ => rfl, fun h => absurd HH.out h⟩, rfl⟩
  · have t : (opH v == op) = false := by simp [h]
    rw [t] at HI
    have HH := Lib.hid h
    clear h hv t
    go_enter Tryz.func108, Tryz.ntmps108
    go_wp2_with fail
    refine HI.out.mono ?_
    rintro r w1 ⟨rfl, rfl⟩
    go_wp2_with fail
    exact ⟨rfl, ⟨fun h => absurd h HH.out, fun _ => rfl⟩, rfl⟩
set_option maxHeartbeats 1600000 in
theorem eval_entity (u : Ud) (w : World) : Calls Tryz.prog 107 #[.agg #[.string u.ty, .string u.id]] w fun r w' => NdsNew w r w' [eN u] := by
  go_enter Tryz.func107, Tryz.ntmps107
  go_wp2_with fail
  go_ret
  have h := new_val (eN u) w 37 (W := w.alloc (.cells #[.string u.ty, .string u.id] 34)) (by (repeat (first | assumption | exact Below.refl _ _ | apply Below.drew | apply below_drewN | (refine Below.alloc ?_ (by first | exact Nat.le_refl _ | omega | (simp; done) | (simp; omega)) _))))
  rw [World.size_alloc] at h
  exact h
theorem as_nil (t : Addr) (w : World) : Calls Tryz.prog 142 #[.nilIface, .iface 202 (.pointer (some t))] w fun r w' => r = .returned (.bool false) ∧ w' = w := by
  go_enter Tryz.func142, Tryz.ntmps142
  go_wp2_with fail
  go_ret
  exact ⟨rfl, rfl⟩
/-- errors.As on an error of ours, whose target is a cell of one's own. -/
theorem as_mine (k : Int) (w : World) (hg : ErrCell w) : Calls Tryz.prog 142 #[.iface 96 (.int .i64 k), .iface 202 (.pointer (some ⟨w.heap.size, 0, none⟩))] (w.alloc (.cells #[.int .i64 0] 96)) fun r w' =>
    r = .returned (.bool true) ∧ w'.cell? ⟨w.heap.size, 0, none⟩ = some (.int .i64 k) ∧ RowKit.Below w.heap.size w w' := by
  refine (as_hit k ⟨w.heap.size, 0, none⟩ (.int .i64 0) (w.alloc (.cells #[.int .i64 0] 96)) (by rw [World.cell?_alloc_lt _ _ ⟨0, 0, none⟩ hg.lt]; exact hg) (by simp) (by simp)).mono ?_
  rintro r w1 ⟨rfl, hw⟩
  refine ⟨rfl, by rw [hw]; simp [go_sem], ?_⟩
  rw [hw]
  exact RowKit.Below.setCell (B := w.heap.size) (p := ⟨w.heap.size, 0, none⟩) (by (repeat (first | assumption | exact Below.refl _ _ | apply Below.drew | apply below_drewN | (refine Below.alloc ?_ (by first | exact Nat.le_refl _ | omega | (simp; done) | (simp; omega)) _)))) (Nat.le_refl _) _
set_option maxHeartbeats 1600000 in
theorem told_int (x : Value) (k : Int) (w : World) (hg : ErrCell w) : Calls Tryz.prog 112 #[x, errV k] w fun r w' => ((k = 0 → r = .returned x) ∧ (k ≠ 0 → r = .panicked (noV k))) ∧ RowKit.Below w.heap.size w w' := by
  by_cases h0 : k = 0
  · have HH := Lib.hid h0
    have HN := Lib.hid (as_nil ⟨w.heap.size, 0, none⟩ (w.alloc (.cells #[.int .i64 0] 96)))
    have e : errV k = .nilIface := by rw [h0]; rfl
    rw [e]
    clear h0 e hg
    go_enter Tryz.func112, Tryz.ntmps112
    go_wp2_with fail
    refine HN.out.mono ?_
    rintro r w1 ⟨rfl, rfl⟩
    go_wp2_with fail
    go_ret
    exact ⟨⟨fun _ => rfl, fun h => absurd HH.out h⟩, by (repeat (first | assumption | exact Below.refl _ _ | apply Below.drew | apply below_drewN | (refine Below.alloc ?_ (by first | exact Nat.le_refl _ | omega | (simp; done) | (simp; omega)) _)))⟩
  · have HH := Lib.hid h0
    have HM := Lib.hid (as_mine k w hg)
    rw [errV_pos h0]
    clear h0 hg
    go_enter Tryz.func112, Tryz.ntmps112
    go_wp2_with fail
    refine HM.out.mono ?_
    rintro r w1 ⟨rfl, hc, hb⟩
    have HB := Lib.hid hb
    clear hb
    go_wp2_with fail
    exact ⟨rfl, ⟨fun h => absurd h HH.out, fun _ => rfl⟩, HB.out⟩
set_option maxHeartbeats 1600000 in
theorem told_bool (x : Value) (k : Int) (w : World) (hg : ErrCell w) : Calls Tryz.prog 114 #[x, errV k] w fun r w' => ((k = 0 → r = .returned x) ∧ (k ≠ 0 → r = .panicked (noV k))) ∧ RowKit.Below w.heap.size w w' := by
  by_cases h0 : k = 0
  · have HH := Lib.hid h0
    have HN := Lib.hid (as_nil ⟨w.heap.size, 0, none⟩ (w.alloc (.cells #[.int .i64 0] 96)))
    have e : errV k = .nilIface := by rw [h0]; rfl
    rw [e]
    clear h0 e hg
    go_enter Tryz.func114, Tryz.ntmps114
    go_wp2_with fail
    refine HN.out.mono ?_
    rintro r w1 ⟨rfl, rfl⟩
    go_wp2_with fail
    go_ret
    exact ⟨⟨fun _ => rfl, fun h => absurd HH.out h⟩, by (repeat (first | assumption | exact Below.refl _ _ | apply Below.drew | apply below_drewN | (refine Below.alloc ?_ (by first | exact Nat.le_refl _ | omega | (simp; done) | (simp; omega)) _)))⟩
  · have HH := Lib.hid h0
    have HM := Lib.hid (as_mine k w hg)
    rw [errV_pos h0]
    clear h0 hg
    go_enter Tryz.func114, Tryz.ntmps114
    go_wp2_with fail
    refine HM.out.mono ?_
    rintro r w1 ⟨rfl, hc, hb⟩
    have HB := Lib.hid hb
    clear hb
    go_wp2_with fail
    exact ⟨rfl, ⟨fun h => absurd h HH.out, fun _ => rfl⟩, HB.out⟩
set_option maxHeartbeats 1600000 in
theorem told_nds (x : Value) (k : Int) (w : World) (hg : ErrCell w) : Calls Tryz.prog 118 #[x, errV k] w fun r w' => ((k = 0 → r = .returned x) ∧ (k ≠ 0 → r = .panicked (noV k))) ∧ RowKit.Below w.heap.size w w' := by
  by_cases h0 : k = 0
  · have HH := Lib.hid h0
    have HN := Lib.hid (as_nil ⟨w.heap.size, 0, none⟩ (w.alloc (.cells #[.int .i64 0] 96)))
    have e : errV k = .nilIface := by rw [h0]; rfl
    rw [e]
    clear h0 e hg
    go_enter Tryz.func118, Tryz.ntmps118
    go_wp2_with fail
    refine HN.out.mono ?_
    rintro r w1 ⟨rfl, rfl⟩
    go_wp2_with fail
    go_ret
    exact ⟨⟨fun _ => rfl, fun h => absurd HH.out h⟩, by (repeat (first | assumption | exact Below.refl _ _ | apply Below.drew | apply below_drewN | (refine Below.alloc ?_ (by first | exact Nat.le_refl _ | omega | (simp; done) | (simp; omega)) _)))⟩
  · have HH := Lib.hid h0
    have HM := Lib.hid (as_mine k w hg)
    rw [errV_pos h0]
    clear h0 hg
    go_enter Tryz.func118, Tryz.ntmps118
    go_wp2_with fail
    refine HM.out.mono ?_
    rintro r w1 ⟨rfl, hc, hb⟩
    have HB := Lib.hid hb
    clear hb
    go_wp2_with fail
    exact ⟨rfl, ⟨fun h => absurd h HH.out, fun _ => rfl⟩, HB.out⟩
set_option maxHeartbeats 1600000 in
theorem told_lists (x : Value) (k : Int) (w : World) (hg : ErrCell w) : Calls Tryz.prog 147 #[x, errV k] w fun r w' => ((k = 0 → r = .returned x) ∧ (k ≠ 0 → r = .panicked (noV k))) ∧ RowKit.Below w.heap.size w w' := by
  by_cases h0 : k = 0
  · have HH := Lib.hid h0
    have HN := Lib.hid (as_nil ⟨w.heap.size, 0, none⟩ (w.alloc (.cells #[.int .i64 0] 96)))
    have e : errV k = .nilIface := by rw [h0]; rfl
    rw [e]
    clear h0 e hg
    go_enter Tryz.func147, Tryz.ntmps147
    go_wp2_with fail
    refine HN.out.mono ?_
    rintro r w1 ⟨rfl, rfl⟩
    go_wp2_with fail
    go_ret
    exact ⟨⟨fun _ => rfl, fun h => absurd HH.out h⟩, by (repeat (first | assumption | exact Below.refl _ _ | apply Below.drew | apply below_drewN | (refine Below.alloc ?_ (by first | exact Nat.le_refl _ | omega | (simp; done) | (simp; omega)) _)))⟩
  · have HH := Lib.hid h0
    have HM := Lib.hid (as_mine k w hg)
    rw [errV_pos h0]
    clear h0 hg
    go_enter Tryz.func147, Tryz.ntmps147
    go_wp2_with fail
    refine HM.out.mono ?_
    rintro r w1 ⟨rfl, hc, hb⟩
    have HB := Lib.hid hb
    clear hb
    go_wp2_with fail
    exact ⟨rfl, ⟨fun h => absurd h HH.out, fun _ => rfl⟩, HB.out⟩
theorem val_at0 (b o n c : Nat) (h : 0 < n) (W : World) : (Instr.indexAt 100 (.slice (some ⟨b, o, none⟩) n c) (.int .i64 0)).run Tryz.prog W = .ok (.pointer (some ⟨b, o, none⟩)) W := by
  have h0 : (0 : Int) < (n : Int) := by omega
  go_simp
structure UidS (b o : Nat) (x : Nd) (W : World) : Prop where
  s2 : W.cell? ⟨b, o + 2, none⟩ = some (.string x.s)
  s3 : W.cell? ⟨b, o + 3, none⟩ = some (.string x.t)
set_option maxHeartbeats 3200000 in
theorem eval_uid (v : List Nd) (A : Option Addr) (c : Nat) (w : World) (hv : ValIn v A c w) : Calls Tryz.prog 145 #[.slice A v.length c] w fun r w' => r = .returned (.agg #[.string (udH v).ty, .string (udH v).id]) ∧ RowKit.Below w.heap.size w w' := by
  obtain ⟨x, xr, b, o, hx, rfl, hb, ⟨-, -, x2, x3⟩, -, -, -, hu, hl⟩ := hv.head
  have hl' : (0 : Int) < (v.length : Int) := by omega
  rw [hu]
  have hia := val_at0 b o v.length c hl
  clear hv hx hu hl
  have hb0 : RowKit.Below w.heap.size w (w.alloc (.cells #[.string ⟨#[]⟩, .string ⟨#[]⟩] 34)) := by (repeat (first | assumption | exact Below.refl _ _ | apply Below.drew | apply below_drewN | (refine Below.alloc ?_ (by first | exact Nat.le_refl _ | omega | (simp; done) | (simp; omega)) _)))
  have e2 := (hb0.cell (p := ⟨b, o + 2, none⟩) hb).trans x2
  have e3 := (hb0.cell (p := ⟨b, o + 3, none⟩) hb).trans x3
  clear x2 x3
  go_enter Tryz.func145, Tryz.ntmps145
  go_wp2_with fail
  refine wp_region_hd (S := UidS b o x) [false, false, false, false, false, false, false, false, false, true] (by kernel_rfl) (by kernel_rfl) (fun _ _ _ _ _ h => h) ⟨e2, e3⟩ (fun hW' => ?_)
  simp only [List.zip_cons_cons, List.zip_nil_left]
  (repeat (first | (refine hd_take (v := ?_) (by rfl) ?_ ?_; rotate_left; (focus (intro W hW; obtain ⟨s2, s3⟩ := hW; go_simp; try with_reducible rfl)); simp only [Act.put, List.setIfInBounds_toArray, List.set_cons_zero, List.set_cons_succ]) | (refine hd_skip (by rfl) ?_; simp only [Act.put, List.setIfInBounds_toArray, List.set_cons_zero, List.set_cons_succ])))
  refine hd_call (fun K hK => ?_)
  go_simp
  have hb1 : RowKit.Below w.heap.size w (w.alloc (.cells #[.string x.s, .string x.t] 34)).drew := by (repeat (first | assumption | exact Below.refl _ _ | apply Below.drew | apply below_drewN | (refine Below.alloc ?_ (by first | exact Nat.le_refl _ | omega | (simp; done) | (simp; omega)) _)))
  have f2 := (hb1.cell (p := ⟨b, o + 2, none⟩) hb).trans ((hb0.cell (p := ⟨b, o + 2, none⟩) hb).symm.trans e2)
  have f3 := (hb1.cell (p := ⟨b, o + 3, none⟩) hb).trans ((hb0.cell (p := ⟨b, o + 3, none⟩) hb).symm.trans e3)
  refine hK _ _ ⟨f2, f3⟩ ?_
  clear hK K
  refine hd_nil ?_
  go_wp2_with fail
  exact bodyPost_ret (v := .agg #[.string x.s, .string x.t]) (by simp [results, Tryz.results145, go_sem]) rfl ⟨rfl, hb1⟩
end Go.Proofs.YtpheiojmcafolaaGreatDoor
namespace Go.Proofs.YtpheiojmcafolaaGreatDoor
def unm (es : List En) (met : List Ud) : Nat := ((es.flatMap En.up).filter fun p => decide (p ∉ met)).length
theorem filter_len_le {α : Type} (p q : α → Bool) : ∀ l : List α, (∀ x ∈ l, p x = true → q x = true) → (l.filter p).length ≤ (l.filter q).length
  | [], _ => by simp
  | x :: l, h => by
    have ih := filter_len_le p q l fun y hy => h y (by simp [hy])
    have hx := h x (by simp)
    cases hp : p x <;> cases hq : q x <;> simp [hp, hq]
    · exact ih
    · omega
    · rw [hp, hq] at hx; exact absurd (hx rfl) (by simp)
    · exact ih
theorem filter_len_lt {α : Type} (p q : α → Bool) : ∀ l : List α, (∀ x ∈ l, p x = true → q x = true) → ∀ x ∈ l, p x = false → q x = true → (l.filter p).length < (l.filter q).length
  | y :: l, h, x, hx, hp, hq => by
    have h' := fun z (hz : z ∈ l) => h z (by simp [hz])
    rcases List.mem_cons.1 hx with rfl | hx
    · have := filter_len_le p q l h'
      simp [hp, hq]; omega
    · have ih := filter_len_lt p q l h' x hx hp hq
      have hy := h y (by simp)
      cases hpy : p y <;> cases hqy : q y <;> simp [hpy, hqy]
      · exact ih
      · omega
      · rw [hpy, hqy] at hy; exact absurd (hy rfl) (by simp)
      · exact ih
theorem unm_le {es : List En} {m m' : List Ud} (h : ∀ x ∈ m, x ∈ m') : unm es m' ≤ unm es m :=
  filter_len_le _ _ _ fun x _ hx => by simp only [decide_eq_true_eq] at hx ⊢; exact fun hm => hx (h x hm)
theorem unm_lt {es : List En} {m : List Ud} {p : Ud} (hp : p ∈ es.flatMap En.up) (hm : p ∉ m) : unm es (m ++ [p]) < unm es m :=
  filter_len_lt _ _ _ (fun x _ hx => by simp only [decide_eq_true_eq, List.mem_append, not_or] at hx ⊢; exact hx.1) p hp (by simp) (by simpa using hm)
theorem upOf_mem {es : List En} {u p : Ud} (h : p ∈ upOf es u) : p ∈ es.flatMap En.up := by
  unfold upOf at h
  split at h
  · simp at h
  · rename_i e he
    exact List.mem_flatMap.2 ⟨e, List.mem_of_find?_eq_some he, h⟩
theorem unm_small {es : List En} (h16 : es.length ≤ 16) (h6 : ∀ e ∈ es, e.up.length ≤ 6) (m : List Ud) : unm es m ≤ 96 := by
  unfold unm
  refine Nat.le_trans (List.length_filter_le _ _) ?_
  have : ∀ l : List En, (∀ e ∈ l, e.up.length ≤ 6) → (l.flatMap En.up).length ≤ 6 * l.length := by
    intro l
    induction l with
    | nil => simp
    | cons e r ih =>
      intro h
      have h1 := h e (by simp)
      have h2 := ih fun x hx => h x (by simp [hx])
      rw [List.flatMap_cons, List.length_append, List.length_cons]; omega
  have := this es h6
  omega
def abvF (es : List En) (k : Nat) (m : List Ud) (ps : List Ud) : List Ud := ps.foldl (fun m p => if p ∈ m then m else abv es k p (m ++ [p])) m
theorem abv_succ (es : List En) (k : Nat) (u : Ud) (met : List Ud) : abv es (k + 1) u met = abvF es k met (upOf es u) := rfl
theorem abvF_snoc (es : List En) (k : Nat) (m ps : List Ud) (p : Ud) : abvF es k m (ps ++ [p]) = if p ∈ abvF es k m ps then abvF es k m ps else abv es k p (abvF es k m ps ++ [p]) := by
  unfold abvF
  rw [List.foldl_append]; rfl
theorem abv_more (es : List En) : ∀ (k : Nat) (u : Ud) (m : List Ud), ∀ x ∈ m, x ∈ abv es k u m
  | 0, _, _, x, hx => hx
  | k + 1, u, m, x, hx => by
    rw [abv_succ]
    have : ∀ (ps m : List Ud), x ∈ m → x ∈ abvF es k m ps := by
      intro ps
      induction ps with
      | nil => intro m h; exact h
      | cons p r ih =>
        intro m h
        show x ∈ abvF es k (if p ∈ m then m else abv es k p (m ++ [p])) r
        refine ih _ ?_
        split
        · exact h
        · exact abv_more es k p _ x (by simp [h])
    exact this _ _ hx
theorem abvF_more (es : List En) (k : Nat) : ∀ (ps m : List Ud), ∀ x ∈ m, x ∈ abvF es k m ps
  | [], m, x, h => h
  | p :: r, m, x, h => by
    show x ∈ abvF es k (if p ∈ m then m else abv es k p (m ++ [p])) r
    refine abvF_more es k r _ x ?_
    split
    · exact h
    · exact abv_more es k p _ x (by simp [h])
end Go.Proofs.YtpheiojmcafolaaGreatDoor
namespace Go.Proofs.YtpheiojmcafolaaGreatDoor
set_option maxRecDepth 100000
open Go.RowKit Go.Sort Go.Maps
theorem lits_str_inv {P : Program} {d t : Nat} {v : Value} {ls : List Lit} (hu : P.underlying t = some .string) (h : P.keyLits (d + 1) t [v] = some ls) : ∃ s, v = .string s ∧ s.size ≤ maxLen := by
  unfold Program.keyLits at h
  rw [hu] at h
  cases v <;> simp at h
  exact ⟨_, rfl, h.1⟩
/-- What reads as a key of this type is a uid. -/
theorem udV_inv {v : Value} {l : Lit} (h : keyOf Tryz.prog 34 v = some l) : ∃ u, v = udV u ∧ UdSm u ∧ l = udK u := by
  suffices hs : ∃ u, v = udV u ∧ UdSm u by
    obtain ⟨u, rfl, hu⟩ := hs
    refine ⟨u, rfl, hu, ?_⟩
    have := udK_eq hu
    rw [this] at h
    injection h with h
    exact h.symm
  obtain ⟨m, hm⟩ : ∃ m, Tryz.prog.types.size + 1 = m + 1 + 1 := ⟨Tryz.prog.types.size - 1, by have := ud_size; omega⟩
  unfold keyOf at h
  rw [Tryz.underlying34] at h
  simp only [ud_deep, Bool.true_and, hm] at h
  split at h
  · rename_i hf
    cases v with
    | agg cs =>
      have hc : cs.size = 2 := by
        have := hf
        unfold Value.formed at this
        rw [Tryz.underlying34] at this
        simpa [ud_cells] using this
      obtain ⟨c0, c1, rfl⟩ : ∃ c0 c1, cs = #[c0, c1] := by
        obtain ⟨l⟩ := cs
        match l, hc with
        | [c0, c1], _ => exact ⟨c0, c1, rfl⟩
      simp only [Option.map_eq_some_iff] at h
      obtain ⟨ls, h, -⟩ := h
      unfold Program.keyLits at h
      rw [Tryz.underlying34] at h
      simp [ud_cells, str_cells, Value.cells] at h
      cases e0 : Tryz.prog.keyLits (m + 1) 9 [c0] with
      | none => simp [e0] at h
      | some l0 =>
        cases e1 : Tryz.prog.keyLits (m + 1) 9 [c1] with
        | none => simp [e0, e1] at h
        | some l1 =>
          obtain ⟨a, rfl, ha⟩ := lits_str_inv Tryz.underlying9 e0
          obtain ⟨b, rfl, hb⟩ := lits_str_inv Tryz.underlying9 e1
          exact ⟨⟨a, b⟩, rfl, ha, hb⟩
    | _ => simp [Value.formed, Tryz.underlying34] at hf
  · cases h

def MetOk (met : List Ud) (D : DataW Unit) : Prop := ∀ u, UdSm u → Maps.has D (udK u) = decide (u ∈ met) ∧ (u ∈ met → ∀ z, D.atKey (udK u) z = .lit (.int .i64 1))
theorem metOk_nil : MetOk [] (.map [] : DataW Unit) := fun u _ => ⟨by simp [Maps.has], fun h => by simp at h⟩
theorem metOk_put {met : List Ud} {D : DataW Unit} (h : MetOk met D) (hD : Maps.IsMap D) {u : Ud} (hu : UdSm u) : MetOk (met ++ [u]) (D.put (udK u) (.lit (.int .i64 1))) := by
  intro d hd
  by_cases e : d = u
  · subst e
    rw [has_put_same hD (ud_law.key (udK_eq hd))]
    exact ⟨by simp, fun _ z => atKey_put_same hD (ud_law.key (udK_eq hd)) _ _⟩
  · have hk : udK d ≠ udK u := fun hh => e (udK_inj hd hu hh)
    rw [has_put_other hk]
    refine ⟨by rw [(h d hd).1]; simp [e], fun hm z => ?_⟩
    rcases List.mem_append.1 hm with h' | h'
    · rw [atKey_put_other hk, (h d hd).2 h' z]
    · simp at h'; exact absurd h' e
def MetAt (w : World) (mb : Nat) (met : List Ud) : Prop := ∃ D, w.ownsMap Tryz.prog 34 (plainElem (H := Unit) Tryz.prog 3) mb met.length D ∧ MetOk met D
theorem MetAt.kept {w w' : World} {mb : Nat} {met : List Ud} (h : MetAt w mb met) {row : Option Nat} (hg : w.grownBy w' row) (hne : some mb ≠ row) : MetAt w' mb met := by
  obtain ⟨D, h1, h2⟩ := h
  exact ⟨D, h1.kept hg hne, h2⟩
theorem MetAt.drewN {w : World} {mb : Nat} {met : List Ud} (h : MetAt w mb met) (n : Nat) : MetAt (w.drewN n) mb met := h.kept (row := none) ⟨rfl, rfl, rfl, Nat.le_refl _, fun _ _ _ => rfl⟩ (by simp)
theorem MetAt.lt {w : World} {mb : Nat} {met : List Ud} (h : MetAt w mb met) : mb < w.heap.size := by
  obtain ⟨D, h1, _⟩ := h
  exact h1.lt
theorem int_zero' (w : World) : (zeroValue 3).run Tryz.prog w = .ok (.int .i64 0) w := by kernel_rfl
/-- Is it met? -/
theorem met_look {w : World} {mb : Nat} {met : List Ud} (h : MetAt w mb met) {u : Ud} (hu : UdSm u) :
    (Instr.lookup 118 (.map (some mb)) (.agg #[.string u.ty, .string u.id]) false).run Tryz.prog w = .ok (.int .i64 (if u ∈ met then 1 else 0)) w := by
  obtain ⟨D, h1, h2⟩ := h
  obtain ⟨c, hr, hat, _⟩ := h1.lookup_int ud_law Tryz.underlying118 Tryz.underlying3 (int_zero' w) (udK_eq hu)
  show (Instr.lookup 118 (.map (some mb)) (udV u) false).run Tryz.prog w = _
  rw [hr]
  by_cases hm : u ∈ met
  · rw [(h2 u hu).2 hm] at hat
    injection hat with e; injection e with _ e
    rw [if_pos hm, ← e]
  · rw [atKey_of_not_has (by rw [(h2 u hu).1]; simpa using hm)] at hat
    injection hat with e; injection e with _ e
    rw [if_neg hm, ← e]
/-- Met now. -/
theorem met_put {w : World} {mb : Nat} {met : List Ud} (h : MetAt w mb met) {u : Ud} (hu : UdSm u) (hl : met.length ≤ 1000) :
    ∃ w', (Instr.mapUpdate 118 (.map (some mb)) (.agg #[.string u.ty, .string u.id]) (.int .i64 1)).run Tryz.prog w = .ok () w' ∧ MetAt w' mb (met ++ [u]) ∧ w.grownBy w' (some mb) := by
  obtain ⟨D, h1, h2⟩ := h
  have hv : plainElem (H := Unit) Tryz.prog 3 (.int .i64 1) = some (.lit (.int .i64 1), []) := plainElem_int Tryz.underlying3 (by decide)
  obtain ⟨w', hr, h3, h4⟩ := h1.update ud_law Tryz.underlying118 (by unfold maxLen; omega) (udK_eq hu) hv
  refine ⟨w', hr, ⟨_, ?_, metOk_put h2 h1.isMap hu⟩, h4⟩
  rw [List.length_append]
  exact h3

def ehR (v : Value) : Option (DataW Eh × List MemPlace) := match v with
  | .agg cs => match cs.toList with
    | [.string a, .string b, .slice ua un uc, .slice aa an ac] => some (.held ⟨⟨a, b⟩, ua, un, uc, aa, an, ac⟩, [])
    | _ => none
  | _ => none
def ehW (e : Eh) : Value := .agg #[.string e.u.ty, .string e.u.id, .slice e.ua e.un e.uc, .slice e.aa e.an e.ac]
theorem ehR_mk (e : Eh) : ehR (ehW e) = some (.held e, []) := rfl
theorem ehR_inv {v : Value} {z : DataW Eh × List MemPlace} (h : ehR v = some z) : ∃ e, v = ehW e ∧ z = (.held e, []) := by
  unfold ehR at h
  split at h
  · rename_i cs
    split at h
    · rename_i hcs
      injection h with h
      refine ⟨_, ?_, h.symm⟩
      obtain ⟨l⟩ := cs
      simp only at hcs
      subst hcs
      rfl
    · cases h
  · cases h
def StoOk (hs : List Eh) (D : DataW Eh) : Prop := ∀ u, UdSm u → Maps.has D (udK u) = decide (u ∈ hs.map Eh.u) ∧ ∀ h, hs.find? (fun e => decide (e.u = u)) = some h → ∀ z, D.atKey (udK u) z = .held h
theorem stoOk_nil : StoOk [] (.map [] : DataW Eh) := fun u _ => ⟨by simp [Maps.has], fun h hh => by simp at hh⟩
theorem stoOk_put {hs : List Eh} {D : DataW Eh} (h : StoOk hs D) (hD : Maps.IsMap D) {e : Eh} (hu : UdSm e.u) (hn : e.u ∉ hs.map Eh.u) : StoOk (hs ++ [e]) (D.put (udK e.u) (.held e)) := by
  intro d hd
  rw [List.map_append, List.find?_append]
  by_cases ee : d = e.u
  · subst ee
    rw [has_put_same hD (ud_law.key (udK_eq hd))]
    refine ⟨by simp, fun x hx z => ?_⟩
    have h0 : hs.find? (fun x => decide (x.u = e.u)) = none := by
      rw [List.find?_eq_none]
      intro y hy
      have : e.u ∉ hs.map Eh.u := hn
      simp only [decide_eq_true_eq]
      intro hh
      exact this (List.mem_map.2 ⟨y, hy, hh⟩)
    rw [h0] at hx
    simp at hx
    subst hx
    exact atKey_put_same hD (ud_law.key (udK_eq hd)) _ _
  · have hk : udK d ≠ udK e.u := fun hh => ee (udK_inj hd hu hh)
    rw [has_put_other hk]
    refine ⟨by rw [(h d hd).1]; simp [ee], fun x hx z => ?_⟩
    have hx' : hs.find? (fun x => decide (x.u = d)) = some x := by
      cases hf : hs.find? (fun x => decide (x.u = d)) with
      | some y => rw [hf] at hx; simpa using hx
      | none =>
        rw [hf] at hx
        have : ¬ e.u = d := fun hh => ee hh.symm
        simp [this] at hx
    rw [atKey_put_other hk, (h d hd).2 x hx' z]
def StoAt (w : World) (sb : Nat) (hs : List Eh) : Prop := ∃ D, w.ownsMap Tryz.prog 34 ehR sb hs.length D ∧ StoOk hs D
theorem StoAt.kept {w w' : World} {sb : Nat} {hs : List Eh} (h : StoAt w sb hs) {row : Option Nat} (hg : w.grownBy w' row) (hne : some sb ≠ row) : StoAt w' sb hs := by
  obtain ⟨D, h1, h2⟩ := h
  exact ⟨D, h1.kept hg hne, h2⟩
theorem StoAt.drewN {w : World} {sb : Nat} {hs : List Eh} (h : StoAt w sb hs) (n : Nat) : StoAt (w.drewN n) sb hs := h.kept (row := none) ⟨rfl, rfl, rfl, Nat.le_refl _, fun _ _ _ => rfl⟩ (by simp)
theorem StoAt.lt {w : World} {sb : Nat} {hs : List Eh} (h : StoAt w sb hs) : sb < w.heap.size := by
  obtain ⟨D, h1, _⟩ := h
  exact h1.lt
def eh0 : Eh := ⟨⟨⟨#[]⟩, ⟨#[]⟩⟩, none, 0, 0, none, 0, 0⟩
theorem ent_zero (w : World) : (zeroValue 109).run Tryz.prog w = .ok (ehW eh0) w := by kernel_rfl
/-- The header at a uid; else the empty one. -/
def atU (hs : List Eh) (u : Ud) : Eh := (hs.find? (fun e => decide (e.u = u))).getD eh0
theorem sto_look {w : World} {sb : Nat} {hs : List Eh} (h : StoAt w sb hs) {u : Ud} (hu : UdSm u) :
    (Instr.lookup 116 (.map (some sb)) (.agg #[.string u.ty, .string u.id]) false).run Tryz.prog w = .ok (ehW (atU hs u)) w := by
  obtain ⟨D, h1, h2⟩ := h
  obtain ⟨v, ps, hr, hv⟩ := h1.lookup ud_law Tryz.underlying116 (ent_zero w) (ehR_mk eh0) (udK_eq hu)
  show (Instr.lookup 116 (.map (some sb)) (udV u) false).run Tryz.prog w = _
  obtain ⟨e, rfl, he⟩ := ehR_inv hv
  rw [hr]
  simp only [Prod.mk.injEq] at he
  unfold atU
  cases hf : hs.find? (fun e => decide (e.u = u)) with
  | some x =>
    rw [(h2 u hu).2 x hf] at he
    have := he.1
    injection this with this
    rw [this]; rfl
  | none =>
    have hn : u ∉ hs.map Eh.u := by
      intro hh
      obtain ⟨y, hy, e⟩ := List.mem_map.1 hh
      have := List.find?_eq_none.1 hf y hy
      simp [e] at this
    rw [atKey_of_not_has (by rw [(h2 u hu).1]; simpa using hn)] at he
    have := he.1
    injection this with this
    rw [← this]; rfl
theorem sto_put {w : World} {sb : Nat} {hs : List Eh} (h : StoAt w sb hs) {e : Eh} (hu : UdSm e.u) (hn : e.u ∉ hs.map Eh.u) (hl : hs.length ≤ 1000) :
    ∃ w', (Instr.mapUpdate 116 (.map (some sb)) (.agg #[.string e.u.ty, .string e.u.id]) (ehW e)).run Tryz.prog w = .ok () w' ∧ StoAt w' sb (hs ++ [e]) ∧ w.grownBy w' (some sb) := by
  obtain ⟨D, h1, h2⟩ := h
  obtain ⟨w', hr, h3, h4⟩ := h1.update ud_law Tryz.underlying116 (by unfold maxLen; omega) (udK_eq hu) (ehR_mk e)
  refine ⟨w', hr, ⟨_, ?_, stoOk_put h2 h1.isMap hu hn⟩, h4⟩
  rw [List.length_append]
  exact h3
theorem sto_made (w : World) : StoAt (w.alloc (.map #[] 0)) w.heap.size [] := ⟨_, World.ownsMap_made _ _ _ _, stoOk_nil⟩
theorem met_made (w : World) : MetAt (w.alloc (.map #[] 0)) w.heap.size [] := ⟨_, World.ownsMap_made _ _ _ _, metOk_nil⟩
theorem abv_cnt (es : List En) : ∀ (k : Nat) (u : Ud) (m : List Ud), (abv es k u m).length + unm es (abv es k u m) ≤ m.length + unm es m
  | 0, _, _ => Nat.le_refl _
  | k + 1, u, m => by
    rw [abv_succ]
    have key : ∀ ps : List Ud, (∀ p ∈ ps, p ∈ es.flatMap En.up) → ∀ m : List Ud, (abvF es k m ps).length + unm es (abvF es k m ps) ≤ m.length + unm es m := by
      intro ps
      induction ps with
      | nil => intro _ m; exact Nat.le_refl _
      | cons p ps ih =>
        intro hp m
        have h1 := ih (fun q hq => hp q (by simp [hq])) (if p ∈ m then m else abv es k p (m ++ [p]))
        refine Nat.le_trans (by exact h1) ?_
        split
        · exact Nat.le_refl _
        · rename_i hm
          have h2 := abv_cnt es k p (m ++ [p])
          have h3 := unm_lt (hp p (by simp)) hm
          simp at h2
          omega
    exact key _ (fun p hp => upOf_mem hp) m
theorem Ens.tail {w : World} {B : Nat} {h : Eh} {hs : List Eh} {e : En} {es : List En} (k : Ens w B (h :: hs) (e :: es)) : Ens w B hs es :=
  ⟨by have := k.len; simpa using this, fun i x y hx hy => k.at_ (i + 1) x y (by simpa using hx) (by simpa using hy)⟩
/-- What stands above a uid, in memory. -/
theorem ens_up {w : World} {B : Nat} : ∀ {hs : List Eh} {es : List En}, Ens w B hs es → ∀ u, (atU hs u).un = (upOf es u).length ∧ UdSl w B (atU hs u).ua (upOf es u) ∧ (atU hs u).un ≤ (atU hs u).uc ∧ (atU hs u).uc ≤ 9223372036854775807
  | [], [], _, u => ⟨rfl, SlG.nil _ _ _, Nat.le_refl _, by simp [atU, eh0]⟩
  | [], _ :: _, h, _ => by have := h.len; simp at this
  | _ :: _, [], h, _ => by have := h.len; simp at this
  | x :: hs, e :: es, h, u => by
    have h0 := h.at_ 0 x e rfl rfl
    have ih := ens_up h.tail u
    by_cases hu : e.u = u
    · have e1 : atU (x :: hs) u = x := by simp [atU, h0.u, hu]
      have e2 : upOf (e :: es) u = e.up := by simp [upOf, hu]
      rw [e1, e2]
      exact ⟨h0.un, h0.up, h0.uc.1, h0.uc.2⟩
    · have e1 : atU (x :: hs) u = atU hs u := by simp [atU, h0.u, hu]
      have e2 : upOf (e :: es) u = upOf es u := by simp [upOf, hu]
      rw [e1, e2]
      exact ih
end Go.Proofs.YtpheiojmcafolaaGreatDoor
namespace Go.Proofs.YtpheiojmcafolaaGreatDoor
set_option maxRecDepth 100000
open Go.RowKit Go.Sort
/-- The uid at hand, boxed. -/
structure UCap (u : Ud) (b : Nat) (W : World) : Prop where
  c0 : W.cell? ⟨b, 0, none⟩ = some (.string u.ty)
  c1 : W.cell? ⟨b, 1, none⟩ = some (.string u.id)
  lt : b < W.heap.size
theorem UCap.later {u : Ud} {b : Nat} {W W' : World} (h : UCap u b W) (hb : RowKit.Below W.heap.size W W') : UCap u b W' :=
  ⟨(hb.cell (p := ⟨b, 0, none⟩) h.lt).trans h.c0, (hb.cell (p := ⟨b, 1, none⟩) h.lt).trans h.c1, Nat.lt_of_lt_of_le h.lt hb.size⟩
set_option maxHeartbeats 1600000 in
theorem entchk_clo (u : Ud) (h : Eh) (b : Nat) (w : World) (hc : UCap u b w) :
    Calls Tryz.prog 59 #[.agg #[.string h.u.ty, .string h.u.id, .slice h.ua h.un h.uc, .slice h.aa h.an h.ac], .pointer (some ⟨b, 0, none⟩)] w fun r w' => r = .returned (.bool (decide (h.u = u))) ∧ RowKit.Below w.heap.size w w' := by
  have HC := Lib.hid (hc.later (by (repeat (first | assumption | exact Below.refl _ _ | apply Below.drew | apply below_drewN | (refine Below.alloc ?_ (by first | exact Nat.le_refl _ | omega | (simp; done) | (simp; omega)) _))) : RowKit.Below w.heap.size w (w.alloc (.cells #[.string h.u.ty, .string h.u.id, .slice h.ua h.un h.uc, .slice h.aa h.an h.ac] 109))))
  clear hc
  have c0 := HC.out.c0
  have c1 := HC.out.c1
  have heq : ∀ W, (binOp .eql 34 (.agg #[.string h.u.ty, .string h.u.id]) (.agg #[.string u.ty, .string u.id])).run Tryz.prog W = .ok (.bool (decide (h.u = u))) W := fun W => eql_ud h.u u W
  generalize decide (h.u = u) = q at heq ⊢
  go_enter Tryz.func59, Tryz.ntmps59
  go_wp2_with fail
  go_ret
  exact ⟨rfl, by (repeat (first | assumption | exact Below.refl _ _ | apply Below.drew | apply below_drewN | (refine Below.alloc ?_ (by first | exact Nat.le_refl _ | omega | (simp; done) | (simp; omega)) _)))⟩
def anyU (hs : List Eh) (u : Ud) : Bool := hs.any fun h => decide (h.u = u)
theorem anyU_take {hs : List Eh} {u : Ud} {k : Nat} {x : Eh} (hx : hs[k]? = some x) (h : anyU (hs.take k) u = false) (hh : decide (x.u = u) = false) : anyU (hs.take (k + 1)) u = false := by
  unfold anyU at h ⊢
  rw [List.take_add_one, hx, List.any_append, h]
  simp [hh]
theorem anyU_hit {hs : List Eh} {u : Ud} {k : Nat} {x : Eh} (hx : hs[k]? = some x) (hh : decide (x.u = u) = true) : anyU hs u = true := List.any_eq_true.2 ⟨x, List.mem_of_getElem? hx, hh⟩
theorem ehSl_at {w : World} {B : Nat} {A : Option Addr} {xs : List Eh} (h : EhSl w B A xs) {i : Nat} {x : Eh} (hx : xs[i]? = some x) : ∃ b o, A = some ⟨b, o, none⟩ ∧ b < B ∧ w.cell? ⟨b, o + i * 4, none⟩ = some (.string x.u.ty) ∧ w.cell? ⟨b, o + i * 4 + 1, none⟩ = some (.string x.u.id) ∧
    w.cell? ⟨b, o + i * 4 + 2, none⟩ = some (.slice x.ua x.un x.uc) ∧ w.cell? ⟨b, o + i * 4 + 3, none⟩ = some (.slice x.aa x.an x.ac) := by
  obtain ⟨b, o, e, hb, hc⟩ := h.at_ (List.getElem?_eq_some_iff.1 hx).1
  have := hc i x hx
  exact ⟨b, o, e, hb, this 0 _ rfl, this 1 _ rfl, this 2 _ rfl, this 3 _ rfl⟩
set_option maxHeartbeats 1600000 in
theorem ent_index (u : Ud) (hs : List Eh) (A : Option Addr) (c b : Nat) (w : World) (hc : UCap u b w) (hl : hs.length ≤ 9223372036854775807) (hsl : EhSl w w.heap.size A hs) :
    Calls Tryz.prog 93 #[.slice A hs.length c, .func (.func 59) #[] #[.pointer (some ⟨b, 0, none⟩)]] w fun r w' => (∃ k : Int, r = .returned (.int .i64 k) ∧ decide (0 ≤ k) = anyU hs u) ∧ RowKit.Below w.heap.size w w' := by
  have HM := Lib.hid hc
  have HS := Lib.hid hsl
  clear hc hsl
  go_enter Tryz.func93, Tryz.ntmps93
  go_wp2_with fail
  go_loopw [8] (fun kk wr => ∃ k : Nat, kk = .int .i64 k ∧ k ≤ hs.length ∧ Hid (anyU (hs.take k) u = false) ∧ RowKit.Below w.heap.size w wr) (fun kk _ => hs.length - (intOf kk).toNat)
  case atStart => exact ⟨0, rfl, by omega, by simp [Hid, anyU], RowKit.Below.refl _ _⟩
  case round =>
    obtain ⟨k, rfl, hk, HK, hbr⟩ := hrel
    have hzr := hbr.size
    by_cases hlt : k < hs.length
    · obtain ⟨x, hx⟩ : ∃ x, hs[k]? = some x := ⟨_, List.getElem?_eq_getElem hlt⟩
      obtain ⟨b1, o1, rfl, hb1, d0, d1, d2, d3⟩ := ehSl_at (HS.out.below hbr) hx
      have HX := Lib.hid hx
      have HC := Lib.hid (entchk_clo u x b wr (HM.out.later hbr))
      clear hx
      cases hh : decide (x.u = u) with
      | true =>
        have HH := Lib.hid hh
        rw [hh] at HC
        clear hh
        go_wp2_with fail
        refine HC.out.mono ?_
        rintro r w1 ⟨rfl, hb2⟩
        have hw1 := hbr.trans (hb2.mono hbr.size)
        clear hb2 d0 d1 d2 d3
        go_wp2_with fail
        go_ret
        refine ⟨⟨k, rfl, ?_⟩, hw1⟩
        rw [anyU_hit HX.out HH.out]
        simp
      | false =>
        have HH := Lib.hid hh
        rw [hh] at HC
        clear hh
        go_wp2_with fail
        refine HC.out.mono ?_
        rintro r w1 ⟨rfl, hb2⟩
        have hw1 := hbr.trans (hb2.mono hbr.size)
        clear hb2 d0 d1 d2 d3
        go_wp2_with fail
        exact ⟨⟨k + 1, by go_num, by omega, anyU_take HX.out HK.out HH.out, hw1⟩, by simp [intOf]; omega⟩
    · have HE : Hid (anyU hs u = false) := by
        have := HK.out
        rw [List.take_of_length_le (by omega)] at this
        exact this
      go_wp2_with fail
      go_ret
      exact ⟨⟨-1, rfl, by rw [HE.out]; rfl⟩, hbr⟩
set_option maxHeartbeats 1600000 in
theorem ent_contains (u : Ud) (hs : List Eh) (A : Option Addr) (c b : Nat) (w : World) (hc : UCap u b w) (hl : hs.length ≤ 9223372036854775807) (hsl : EhSl w w.heap.size A hs) :
    Calls Tryz.prog 58 #[.slice A hs.length c, .func (.func 59) #[] #[.pointer (some ⟨b, 0, none⟩)]] w fun r w' => r = .returned (.bool (anyU hs u)) ∧ RowKit.Below w.heap.size w w' := by
  have HI := Lib.hid (ent_index u hs A c b w hc hl hsl)
  clear hc hsl
  generalize anyU hs u = q at HI ⊢
  go_enter Tryz.func58, Tryz.ntmps58
  go_wp2_with fail
  refine HI.out.mono ?_
  rintro r w1 ⟨⟨k, rfl, hk⟩, hb1⟩
  have HK := Lib.hid hk
  clear hk
  go_wp2_with fail
  go_ret
  exact ⟨ret_bool HK.out, hb1⟩
end Go.Proofs.YtpheiojmcafolaaGreatDoor
namespace Go.Proofs.YtpheiojmcafolaaGreatDoor
set_option maxRecDepth 100000
open Go.RowKit Go.Sort
/-- What the loop over those above reads. -/
structure OneS (b0 b1 : Nat) (h : Eh) (p : Ud) (W : World) : Prop where
  s0 : W.cell? ⟨b0, 2, none⟩ = some (.slice h.ua h.un h.uc)
  s1 : W.cell? ⟨b1, 0, none⟩ = some (.string p.ty)
  s2 : W.cell? ⟨b1, 1, none⟩ = some (.string p.id)
theorem SlG.take {α : Type} {enc : α → List Value} {k : Nat} {w : World} {B : Nat} {A : Option Addr} {xs : List α} (h : SlG enc k w B A xs) (n : Nat) : SlG enc k w B A (xs.take n) := fun hne => by
  have hx : xs ≠ [] := by rintro rfl; simp at hne
  obtain ⟨b, o, e, hb, hc⟩ := h hx
  refine ⟨b, o, e, hb, fun i x hi => hc i x ?_⟩
  rw [List.getElem?_take] at hi
  split at hi
  · exact hi
  · cases hi
theorem upAt_eq {ups : List Ud} {k : Nat} {p : Ud} (h : ups[k]? = some p) : upAt ups k = if udErr p ≠ 0 then udErr p else if p ∈ ups.take k then 6 else 0 := by unfold upAt; rw [h]
set_option maxHeartbeats 6400000 in
theorem ent_one (h : Eh) (e : En) (w : World) (hk : EhOk w w.heap.size h e) (hu : ∀ p ∈ e.up, UdOk p) (hok : NdOk e.at_) :
    Calls Tryz.prog 60 #[.agg #[.string h.u.ty, .string h.u.id, .slice h.ua h.un h.uc, .slice h.aa h.an h.ac]] w fun r w' => r = .returned (errV (entOne e)) ∧ RowKit.Below w.heap.size w w' := by
  obtain ⟨hh1, hun, huc, hup, han, hac, hat⟩ := hk
  obtain ⟨v, hv⟩ : ∃ v, entOne e = v := ⟨_, rfl⟩
  rw [hv]
  have HV := Lib.hid hv
  clear hv hh1
  obtain ⟨hu0, ua, un, uc, aa, an, ac⟩ := h
  simp only at hun huc hup han hac hat ⊢
  subst hun han
  have hw0 : RowKit.Below w.heap.size w (w.alloc (.cells #[.string hu0.ty, .string hu0.id, .slice ua e.up.length uc, .slice aa e.at_.length ac] 109)) := by (repeat (first | assumption | exact Below.refl _ _ | apply Below.drew | apply below_drewN | (refine Below.alloc ?_ (by first | exact Nat.le_refl _ | omega | (simp; done) | (simp; omega)) _)))
  have g2 : (w.alloc (.cells #[.string hu0.ty, .string hu0.id, .slice ua e.up.length uc, .slice aa e.at_.length ac] 109)).cell? ⟨w.heap.size, 2, none⟩ = some (.slice ua e.up.length uc) := by rw [World.cell?_alloc_new]; rfl
  have g3 : (w.alloc (.cells #[.string hu0.ty, .string hu0.id, .slice ua e.up.length uc, .slice aa e.at_.length ac] 109)).cell? ⟨w.heap.size, 3, none⟩ = some (.slice aa e.at_.length ac) := by rw [World.cell?_alloc_new]; rfl
  have HU := Lib.hid hup
  have HA := Lib.hid hat
  have HUU := Lib.hid hu
  have hac1 := hac.1
  have hac2 := hac.2
  have huc1 := huc.1
  have huc2 := huc.2
  clear hup hat hu hac huc
  by_cases h6 : 6 < e.up.length
  · have HE : Hid (v = 4) := by show _ = _; rw [← HV.out]; unfold entOne; rw [if_pos h6]
    have t6 : decide ((6 : Int) < (e.up.length : Int)) = true := by simp; omega
    go_enter Tryz.func60, Tryz.ntmps60
    go_wp2_with fail
    go_ret
    rw [HE.out]
    exact ⟨rfl, hw0⟩
  · have t6 : decide ((6 : Int) < (e.up.length : Int)) = false := by simp; omega
    have HE : Hid (v = if upsErr e.up ≠ 0 then upsErr e.up else if valErr e.at_ ≠ 0 then valErr e.at_ else if opH e.at_ = 6 then 0 else 2) := by
      show _ = _; rw [← HV.out]; unfold entOne; rw [if_neg h6]
    clear HV h6
    go_enter Tryz.func60, Tryz.ntmps60
    go_wp2_with fail
    obtain ⟨W, hW⟩ : ∃ W, w.alloc (.cells #[.string hu0.ty, .string hu0.id, .slice ua e.up.length uc, .slice aa e.at_.length ac] 109) = W := ⟨_, rfl⟩
    have hWz : W.heap.size = w.heap.size + 1 := by rw [← hW]; simp
    have HWZ := Lib.hid hWz
    rw [hW] at hw0 g2 g3 ⊢
    clear hW hWz t6
    have hWlt : w.heap.size < W.heap.size := by have := HWZ.out; omega
    go_loopw [16] (fun kk wr => ∃ k : Nat, kk = .int .i64 k ∧ k ≤ e.up.length ∧ Hid (∀ j, j < k → upAt e.up j = 0) ∧ RowKit.Below W.heap.size W wr) (fun kk _ => e.up.length - (intOf kk).toNat)
    case atStart => exact ⟨0, rfl, by omega, by intro j hj; omega, RowKit.Below.refl _ _⟩
    case round =>
      obtain ⟨k, rfl, hk, HK, hbr⟩ := hrel
      have hzr := hbr.size
      have f2 := (hbr.cell (p := ⟨w.heap.size, 2, none⟩) hWlt).trans g2
      have f3 := (hbr.cell (p := ⟨w.heap.size, 3, none⟩) hWlt).trans g3
      have hbw : RowKit.Below w.heap.size w wr := hw0.trans (hbr.mono (by omega))
      by_cases hlt : k < e.up.length
      · obtain ⟨p, hp⟩ : ∃ p, e.up[k]? = some p := ⟨_, List.getElem?_eq_getElem hlt⟩
        obtain ⟨b1, o1, rfl, hb1, d0, d1⟩ := udSl_at (HU.out.below hbw) hp
        have HP := Lib.hid hp
        have HW := Lib.hid (fun W => name_Write p W (HUU.out p (List.mem_of_getElem? hp)))
        clear hp
        by_cases he : udErr p = 0
        · have te : (udErr p != 0) = false := by simp [he]
          have HEP := Lib.hid he
          clear he
          go_wp2_with fail
          refine (HW.out _).mono ?_
          rintro r w1 ⟨rfl, hb1'⟩
          obtain ⟨hcc1, hff1⟩ := bcell hb1'
          have hw1 : RowKit.Below W.heap.size W w1 := (hbr.alloc hzr _).trans (hb1'.mono (by simp; omega))
          have hz1 := hw1.size
          have hz1' : wr.heap.size < w1.heap.size := by have := hb1'.size; simp at this; omega
          have e2 := (hw1.cell (p := ⟨w.heap.size, 2, none⟩) hWlt).trans g2
          clear hb1'
          have q : ∀ (W : World), (Instr.slice 107 (.slice (some ⟨b1, o1, none⟩) e.up.length uc) none (some (.int .i64 (k : Int))) none).run Tryz.prog W = .ok (.slice (some ⟨b1, o1, none⟩) k uc) W := by
            intro W
            go_simp
            intro h; omega
          have hb1w : b1 < w.heap.size := hb1
          have HCO := Lib.hid (fun W' (hW' : RowKit.Below w.heap.size w W') => by
            have h := ud_contains (e.up.take k) p (some ⟨b1, o1, none⟩) uc W' (by rw [List.length_take]; omega) (SlG.take ((HU.out.below hW').more hW'.size) k)
            rw [List.length_take, Nat.min_eq_left (by omega)] at h
            exact h)
          have ev0 : w1.cell? ⟨wr.heap.size, 0, none⟩ = some (.string p.ty) := by rw [hcc1 _ _ (by simp)]; simp [World.cell?_alloc_new]
          have ev1 : w1.cell? ⟨wr.heap.size, 1, none⟩ = some (.string p.id) := by rw [hcc1 _ _ (by simp)]; simp [World.cell?_alloc_new]
          clear hcc1 hff1 d0 d1
          cases hm : decide (p ∈ e.up.take k) with
          | true =>
            rw [hm] at HCO
            have HM := Lib.hid hm
            clear hm
            go_wp2_with fail
            refine wp_region_hd (S := OneS w.heap.size wr.heap.size ⟨hu0, some ⟨b1, o1, none⟩, e.up.length, uc, aa, e.at_.length, ac⟩ p) [false, false, false, false, false, true] (by kernel_rfl) (by kernel_rfl) (fun _ _ _ _ _ h => h) ⟨e2, ev0, ev1⟩ (fun hW' => ?_)
            simp only [List.zip_cons_cons, List.zip_nil_left]
            (repeat (first | (refine hd_take (v := ?_) (by rfl) ?_ ?_; rotate_left; (focus (intro W hW; obtain ⟨s0, s1, s2⟩ := hW; go_simp; try with_reducible rfl)); simp only [Act.put, List.setIfInBounds_toArray, List.set_cons_zero, List.set_cons_succ]) | (refine hd_skip (by rfl) ?_; simp only [Act.put, List.setIfInBounds_toArray, List.set_cons_zero, List.set_cons_succ])))
            refine hd_call (fun K hK => ?_)
            go_simp
            refine (HCO.out w1.drew (hw0.trans (hw1.drew.mono (by omega)))).mono ?_
            rintro r w2 ⟨rfl, hb2'⟩
            have hb2 := below_of_drew hb2'
            obtain ⟨hcc2, -⟩ := bcell hb2
            have hw2 : RowKit.Below W.heap.size W w2 := hw1.trans (hb2.mono hz1)
            refine hK _ _ ⟨(hcc2 _ _ (by omega)).trans e2, (hcc2 _ _ hz1').trans ev0, (hcc2 _ _ hz1').trans ev1⟩ ?_
            clear hK K hcc2 hb2'
            refine hd_nil ?_
            go_wp2_with fail
            go_ret
            have h1 : upAt e.up k = 6 := by
              have := HM.out
              rw [upAt_eq HP.out, if_neg (by simp [HEP.out]), if_pos (by simpa using this)]
            have h2 : upsErr e.up = 6 := by unfold upsErr; rw [fnz_at (k := k) HK.out (by rw [h1]; omega) hlt, h1]
            rw [HE.out, h2]
            exact ⟨rfl, hw0.trans (hw2.mono (by omega))⟩
          | false =>
            rw [hm] at HCO
            have HM := Lib.hid hm
            clear hm
            go_wp2_with fail
            refine wp_region_hd (S := OneS w.heap.size wr.heap.size ⟨hu0, some ⟨b1, o1, none⟩, e.up.length, uc, aa, e.at_.length, ac⟩ p) [false, false, false, false, false, true] (by kernel_rfl) (by kernel_rfl) (fun _ _ _ _ _ h => h) ⟨e2, ev0, ev1⟩ (fun hW' => ?_)
            simp only [List.zip_cons_cons, List.zip_nil_left]
            (repeat (first | (refine hd_take (v := ?_) (by rfl) ?_ ?_; rotate_left; (focus (intro W hW; obtain ⟨s0, s1, s2⟩ := hW; go_simp; try with_reducible rfl)); simp only [Act.put, List.setIfInBounds_toArray, List.set_cons_zero, List.set_cons_succ]) | (refine hd_skip (by rfl) ?_; simp only [Act.put, List.setIfInBounds_toArray, List.set_cons_zero, List.set_cons_succ])))
            refine hd_call (fun K hK => ?_)
            go_simp
            refine (HCO.out w1.drew (hw0.trans (hw1.drew.mono (by omega)))).mono ?_
            rintro r w2 ⟨rfl, hb2'⟩
            have hb2 := below_of_drew hb2'
            obtain ⟨hcc2, -⟩ := bcell hb2
            have hw2 : RowKit.Below W.heap.size W w2 := hw1.trans (hb2.mono hz1)
            refine hK _ _ ⟨(hcc2 _ _ (by omega)).trans e2, (hcc2 _ _ hz1').trans ev0, (hcc2 _ _ hz1').trans ev1⟩ ?_
            clear hK K hcc2 hb2'
            refine hd_nil ?_
            go_wp2_with fail
            have HK2 : Hid (∀ j, j < k + 1 → upAt e.up j = 0) := by
              intro j hj
              rcases Nat.lt_or_ge j k with h | h
              · exact HK.out j h
              · obtain rfl : j = k := by omega
                have := HM.out
                rw [upAt_eq HP.out, if_neg (by simp [HEP.out]), if_neg (by simpa using this)]
            exact ⟨⟨k + 1, by go_num, by omega, HK2, hw2⟩, by simp [intOf]; omega⟩
        · have te : (udErr p != 0) = true := by simp [he]
          have HEP : Hid (v = udErr p) := by
            have h1 : upAt e.up k = udErr p := by rw [upAt_eq HP.out, if_pos he]
            have h2 : upsErr e.up = udErr p := by unfold upsErr; rw [fnz_at (k := k) HK.out (by rw [h1]; exact he) hlt, h1]
            show _ = _
            rw [HE.out, h2, if_pos he]
          clear he
          go_wp2_with fail
          refine (HW.out _).mono ?_
          rintro r w1 ⟨rfl, hb1'⟩
          have hw1 : RowKit.Below w.heap.size w w1 := (hbw.alloc (by omega) _).trans (hb1'.mono (by simp; omega))
          clear hb1'
          go_wp2_with fail
          go_ret
          rw [HEP.out]
          exact ⟨rfl, hw1⟩
      · have HU0 : Hid (upsErr e.up = 0) := by
          show _ = _
          exact fnz_zero fun j hj => HK.out j (by omega)
        have HVC := Lib.hid (val_Check e.at_ aa ac wr hac1 hac2 hok ((HA.out.below hbw).more hbw.size))
        clear g2 f2
        by_cases hve : valErr e.at_ = 0
        · have te : (valErr e.at_ != 0) = false := by simp [hve]
          have hne : e.at_ ≠ [] := by
            have := ((val_iff e.at_).1 hve).2
            obtain ⟨x, r, hx, _⟩ := this.ne
            rw [hx]; simp
          obtain ⟨x, xs, hxs⟩ : ∃ x xs, e.at_ = x :: xs := by
            cases hh : e.at_ with
            | nil => exact absurd hh hne
            | cons x xs => exact ⟨x, xs, rfl⟩
          obtain ⟨b2, o2, rfl, hb2, hcs⟩ := HA.out hne
          have d0 := (hcs 0 x (by rw [hxs]; rfl)).c0
          rw [Nat.zero_mul, Nat.add_zero] at d0
          have HO : Hid (opH e.at_ = x.op) := by show _ = _; rw [hxs]; rfl
          have hl0 : 0 < e.at_.length := by rw [hxs]; simp
          have hl0' : (0 : Int) < (e.at_.length : Int) := by omega
          have HVE := Lib.hid hve
          clear hcs hxs hve hne
          go_wp2_with fail
          refine HVC.out.mono ?_
          rintro r w1 ⟨rfl, hb1⟩
          have hw1 : RowKit.Below w.heap.size w w1 := hbw.trans (hb1.mono (by omega))
          have e3 := (hb1.cell (p := ⟨w.heap.size, 3, none⟩) (by show w.heap.size < _; omega)).trans f3
          have e0 := (hw1.cell (p := ⟨b2, o2, none⟩) hb2).trans d0
          clear hb1 f3 d0 g3
          by_cases h6 : x.op = 6
          · have t6 : (x.op != 6) = false := by simp [h6]
            have HR : Hid (v = 0) := by show _ = _; rw [HE.out, HU0.out, HVE.out, HO.out]; simp [h6]
            clear h6
            go_wp2_with fail
            go_ret
            rw [HR.out]
            exact ⟨rfl, hw1⟩
          · have t6 : (x.op != 6) = true := by simp [h6]
            have HR : Hid (v = 2) := by show _ = _; rw [HE.out, HU0.out, HVE.out, HO.out]; simp [h6]
            clear h6
            go_wp2_with fail
            go_ret
            rw [HR.out]
            exact ⟨rfl, hw1⟩
        · have te : (valErr e.at_ != 0) = true := by simp [hve]
          have HR : Hid (v = valErr e.at_) := by show _ = _; rw [HE.out, HU0.out]; simp [hve]
          clear hve
          go_wp2_with fail
          refine HVC.out.mono ?_
          rintro r w1 ⟨rfl, hb1⟩
          have hw1 : RowKit.Below w.heap.size w w1 := hbw.trans (hb1.mono (by omega))
          clear hb1
          go_wp2_with fail
          go_ret
          rw [HR.out]
          exact ⟨rfl, hw1⟩
end Go.Proofs.YtpheiojmcafolaaGreatDoor
namespace Go.Proofs.YtpheiojmcafolaaGreatDoor
set_option maxRecDepth 100000
open Go.RowKit Go.Sort
theorem abvF_cnt (es : List En) (k : Nat) : ∀ ps : List Ud, (∀ p ∈ ps, p ∈ es.flatMap En.up) → ∀ m : List Ud, (abvF es k m ps).length + unm es (abvF es k m ps) ≤ m.length + unm es m := by
  intro ps
  induction ps with
  | nil => intro _ m; exact Nat.le_refl _
  | cons p ps ih =>
    intro hp m
    have h1 := ih (fun q hq => hp q (by simp [hq])) (if p ∈ m then m else abv es k p (m ++ [p]))
    refine Nat.le_trans (by exact h1) ?_
    split
    · exact Nat.le_refl _
    · rename_i hm
      have h2 := abv_cnt es k p (m ++ [p])
      have h3 := unm_lt (hp p (by simp)) hm
      simp at h2
      omega
set_option maxHeartbeats 3200000 in
theorem ent_stored (hs : List Eh) (A : Option Addr) (c : Nat) (w : World) (hl : hs.length ≤ 100) (hsl : EhSl w w.heap.size A hs) (hz : ∀ h ∈ hs, UdSm h.u) (hn : (hs.map Eh.u).Nodup) :
    Calls Tryz.prog 61 #[.slice A hs.length c] w fun r w' => ∃ b, r = .returned (.map (some b)) ∧ w.heap.size ≤ b ∧ StoAt w' b hs ∧ RowKit.Below w.heap.size w w' := by
  have hmm := @run_makeMap Tryz.prog
  have HS := Lib.hid hsl
  have HZ := Lib.hid hz
  have HN := Lib.hid hn
  have hw0 : RowKit.Below w.heap.size w (w.alloc (.map #[] 0)) := by (repeat (first | assumption | exact Below.refl _ _ | apply Below.drew | apply below_drewN | (refine Below.alloc ?_ (by first | exact Nat.le_refl _ | omega | (simp; done) | (simp; omega)) _)))
  have HST0 := Lib.hid (sto_made w)
  clear hsl hz hn
  go_enter Tryz.func61, Tryz.ntmps61
  go_wp2_with fail
  go_loopw [9] (fun kk wr => ∃ k : Nat, kk = .int .i64 k ∧ k ≤ hs.length ∧ Hid (StoAt wr w.heap.size (hs.take k)) ∧ RowKit.Below w.heap.size w wr) (fun kk _ => hs.length - (intOf kk).toNat)
  case atStart => exact ⟨0, rfl, by omega, HST0.out, hw0⟩
  case round =>
    obtain ⟨k, rfl, hk, HST, hbr⟩ := hrel
    have hzr := hbr.size
    by_cases hlt : k < hs.length
    · obtain ⟨x, hx⟩ : ∃ x, hs[k]? = some x := ⟨_, List.getElem?_eq_getElem hlt⟩
      obtain ⟨b1, o1, rfl, hb1, d0, d1, d2, d3⟩ := ehSl_at (HS.out.below hbr) hx
      have hnm : x.u ∉ (hs.take k).map Eh.u := by
        have h1 := HN.out
        rw [← List.take_append_drop k hs, List.map_append, List.nodup_append] at h1
        intro hm
        have h2 : x.u ∈ (hs.drop k).map Eh.u := List.mem_map.2 ⟨x, List.mem_of_getElem? (i := 0) (by rw [List.getElem?_drop]; exact hx), rfl⟩
        exact h1.2.2 _ hm _ h2 rfl
      obtain ⟨w', hr, hst, hg⟩ := sto_put ((HST.out.kept (World.grownBy_alloc wr (.cells #[.string x.u.ty, .string x.u.id, .slice x.ua x.un x.uc, .slice x.aa x.an x.ac] 109) none) (by simp))) (HZ.out x (List.mem_of_getElem? hx)) hnm (by rw [List.length_take]; omega)
      have HST2 : Hid (StoAt w' w.heap.size (hs.take (k + 1))) := by show StoAt _ _ _; rw [List.take_add_one, hx]; exact hst
      have hb2 : RowKit.Below w.heap.size w w' := (hbr.alloc hzr _).grown hg (by simp; omega) (fun j hj => by injection hj with hj; omega)
      clear hst hg hx hnm
      unfold ehW at hr
      go_wp2_with fail
      exact ⟨⟨k + 1, by go_num, by omega, HST2, hb2⟩, by simp [intOf]; omega⟩
    · have HE : Hid (hs.take k = hs) := by show _ = _; rw [List.take_of_length_le (by omega)]
      rw [HE.out] at HST
      go_wp2_with fail
      go_ret
      exact ⟨_, rfl, Nat.le_refl _, HST.out, hbr⟩

/-- What 'above' reads and writes. -/
structure AbvIn (w : World) (B sb mb : Nat) (hs : List Eh) (es : List En) (met : List Ud) : Prop where
  sto : StoAt w sb hs
  met : MetAt w mb met
  ens : Ens w B hs es
  bs : B ≤ sb
  bm : B ≤ mb
  ne : sb ≠ mb
theorem below_of_grown {w w' : World} {B mb : Nat} (hg : w.grownBy w' (some mb)) (hB : B ≤ w.heap.size) (hm : B ≤ mb) : RowKit.Below B w w' :=
  ⟨hg.os, hg.tape, hg.output, hg.size, fun k hk => hg.block k (by omega) (by intro h; injection h with h; omega)⟩
theorem AbvIn.step {w w' : World} {B sb mb : Nat} {hs : List Eh} {es : List En} {met met' : List Ud} (h : AbvIn w B sb mb hs es met) (hg : w.grownBy w' (some mb)) (hm : MetAt w' mb met') : AbvIn w' B sb mb hs es met' :=
  ⟨h.sto.kept hg (by intro e; injection e with e; exact h.ne e), hm, h.ens.below (below_of_grown hg (by have := h.sto.lt; have := h.bs; omega) h.bm), h.bs, h.bm, h.ne⟩
def AbvOk (es : List En) (k : Nat) : Prop := ∀ (hs : List Eh) (u : Ud) (met : List Ud) (w : World) (B sb mb : Nat), AbvIn w B sb mb hs es met → UdSm u → unm es met < k → met.length + unm es met ≤ 1000 →
  Calls Tryz.prog 62 #[.map (some sb), .agg #[.string u.ty, .string u.id], .map (some mb)] w fun r w' => r = .returned (.tuple #[]) ∧ MetAt w' mb (abv es k u met) ∧ w.grownBy w' (some mb)
set_option maxHeartbeats 6400000 in
theorem above_step (es : List En) (hp : ∀ p ∈ es.flatMap En.up, UdSm p) (k : Nat) (ih : AbvOk es k) : AbvOk es (k + 1) := by
  intro hs u met w B sb mb hI hu hk hl
  have hI0 : AbvIn (w.alloc (.cells #[.string u.ty, .string u.id] 34)) B sb mb hs es met := hI.step (World.grownBy_alloc _ _ _) (hI.met.kept (World.grownBy_alloc w (.cells #[.string u.ty, .string u.id] 34) none) (by simp))
  have hlook := sto_look hI0.sto hu
  obtain ⟨e1, e2, e3, e4⟩ := ens_up hI.ens u
  have HP : Hid (∀ p ∈ upOf es u, p ∈ es.flatMap En.up) := fun p hp => upOf_mem hp
  have HA : Hid (abv es (k + 1) u met = abvF es k met (upOf es u)) := abv_succ es k u met
  rw [HA.out]
  obtain ⟨⟨v0, ua, un, uc, aa, an, ac⟩, hh0⟩ : ∃ h0, atU hs u = h0 := ⟨_, rfl⟩
  rw [hh0] at hlook e1 e2 e3 e4
  simp only at e1 e2 e3 e4
  subst e1
  unfold ehW at hlook
  simp only at hlook
  generalize upOf es u = ps at *
  have hfd : ∀ W : World, (Instr.field 109 (.agg #[.string v0.ty, .string v0.id, .slice ua ps.length uc, .slice aa an ac]) 1).run Tryz.prog W = .ok (.slice ua ps.length uc) W := fun _ => by kernel_rfl
  have HI := Lib.hid hI
  have HU := Lib.hid e2
  have HIH := Lib.hid ih
  have HPP := Lib.hid hp
  have hmb := hI.met.lt
  have hbm := hI.bm
  have hB : B ≤ w.heap.size := by have := hI.sto.lt; have := hI.bs; omega
  clear hI hI0 hh0 e2 ih hp HA
  go_enter Tryz.func62, Tryz.ntmps62
  go_wp2_with fail
  go_loopw [13] (fun kk wr => ∃ j : Nat, kk = .int .i64 j ∧ j ≤ ps.length ∧ Hid (MetAt wr mb (abvF es k met (ps.take j))) ∧ Hid (w.grownBy wr (some mb))) (fun kk _ => ps.length - (intOf kk).toNat)
  case atStart => exact ⟨0, rfl, by omega, HI.out.met.kept (World.grownBy_alloc w _ none) (by simp), World.grownBy_alloc _ _ _⟩
  case round =>
    obtain ⟨j, rfl, hj, HM, HG⟩ := hrel
    have hzr := HG.out.size
    by_cases hlt : j < ps.length
    · obtain ⟨p, hp⟩ : ∃ p, ps[j]? = some p := ⟨_, List.getElem?_eq_getElem hlt⟩
      obtain ⟨b1, o1, rfl, hb1, d0, d1⟩ := udSl_at (HU.out.below (below_of_grown HG.out hB hbm)) hp
      have hpm := HP.out p (List.mem_of_getElem? hp)
      have HPS := HPP.out p hpm
      have HT : Hid (ps.take (j + 1) = ps.take j ++ [p]) := by show _ = _; rw [List.take_add_one, hp]; rfl
      have HMK : Hid (∀ x ∈ met, x ∈ abvF es k met (ps.take j)) := abvF_more es k _ _
      have HCN : Hid ((abvF es k met (ps.take j)).length + unm es (abvF es k met (ps.take j)) ≤ met.length + unm es met) := abvF_cnt es k _ (fun q hq => HP.out q (List.mem_of_mem_take hq)) met
      have HSN : Hid (abvF es k met (ps.take (j + 1)) = if p ∈ abvF es k met (ps.take j) then abvF es k met (ps.take j) else abv es k p (abvF es k met (ps.take j) ++ [p])) := by show _ = _; rw [HT.out, abvF_snoc]
      have HSM := Lib.hid HPS
      have HPM := Lib.hid hpm
      clear HPS hpm hp HT
      generalize abvF es k met (ps.take j) = m at HM HMK HCN HSN
      have hM1 : MetAt (wr.alloc (.cells #[.string p.ty, .string p.id] 34)) mb m := HM.out.kept (World.grownBy_alloc wr _ none) (by simp)
      have hlk := met_look hM1 HSM.out
      have HM1 := Lib.hid hM1
      clear hM1
      have HG1 : Hid (w.grownBy (wr.alloc (.cells #[.string p.ty, .string p.id] 34)) (some mb)) := HG.out.trans (World.grownBy_alloc _ _ _)
      by_cases hm : p ∈ m
      · rw [if_pos hm] at hlk
        have HH := Lib.hid hm
        clear hm
        go_wp2_with fail
        refine ⟨⟨j + 1, by go_num, by omega, ?_, HG1⟩, by simp [intOf]; omega⟩
        show MetAt _ _ _
        rw [HSN.out, if_pos HH.out]
        exact HM1.out
      · rw [if_neg hm] at hlk
        obtain ⟨w2, hr2, hM2, hg2⟩ := met_put HM1.out HSM.out (by have := HCN.out; omega)
        have hsz2 : wr.heap.size < w2.heap.size := by have := hg2.size; simp at this; omega
        have g0 : w2.cell? ⟨wr.heap.size, 0, none⟩ = some (.string p.ty) := by
          rw [World.cell?_of_block (hg2.block wr.heap.size (by simp) (by intro e; injection e with e; omega))]
          simp [World.cell?_alloc_new]
        have g1 : w2.cell? ⟨wr.heap.size, 1, none⟩ = some (.string p.id) := by
          rw [World.cell?_of_block (a := ⟨wr.heap.size, 1, none⟩) (hg2.block wr.heap.size (by simp) (by intro e; injection e with e; omega))]
          simp [World.cell?_alloc_new]
        have HG2 : Hid (w.grownBy w2 (some mb)) := HG1.out.trans hg2
        have hun : unm es (m ++ [p]) < unm es m := unm_lt HPM.out hm
        have hum : unm es m ≤ unm es met := unm_le HMK.out
        have HC := Lib.hid (HIH.out hs p (m ++ [p]) w2 B sb mb (HI.out.step HG2.out hM2) HSM.out (by omega) (by have := HCN.out; simp; omega))
        have HH := Lib.hid hm
        clear hm hg2 hM2 hun hum
        go_wp2_with fail
        refine HC.out.mono ?_
        rintro r w3 ⟨rfl, hM3, hg3⟩
        have HM3 := Lib.hid hM3
        have HG3 : Hid (w.grownBy w3 (some mb)) := HG2.out.trans hg3
        clear hM3 hg3 hr2 g0 g1 hlk
        go_wp2_with fail
        refine ⟨⟨j + 1, by go_num, by omega, ?_, HG3⟩, by simp [intOf]; omega⟩
        show MetAt _ _ _
        rw [HSN.out, if_neg HH.out]
        exact HM3.out
    · have HE : Hid (ps.take j = ps) := by show _ = _; rw [List.take_of_length_le (by omega)]
      rw [HE.out] at HM
      go_wp2_with fail
      simp [bodyPost, results, Tryz.results62, go_sem]
      exact ⟨HM.out, HG.out⟩
theorem above_all (es : List En) (hp : ∀ p ∈ es.flatMap En.up, UdSm p) : ∀ k, AbvOk es k
  | 0 => fun _ _ _ _ _ _ _ _ _ h => by omega
  | k + 1 => above_step es hp k (above_all es hp k)
end Go.Proofs.YtpheiojmcafolaaGreatDoor
namespace Go.Proofs.YtpheiojmcafolaaGreatDoor
set_option maxRecDepth 100000
open Go.RowKit Go.Sort Go.Maps
/-- Entities, as a call finds them. -/
structure EntsIn (w : World) (A : Option Addr) (hs : List Eh) (es : List En) : Prop where
  sl : EhSl w w.heap.size A hs
  ens : Ens w w.heap.size hs es
  uz : ∀ e ∈ es, UdOk e.u
  pz : ∀ e ∈ es, ∀ p ∈ e.up, UdOk p
  az : ∀ e ∈ es, NdOk e.at_
theorem EntsIn.later {w w' : World} {A : Option Addr} {hs : List Eh} {es : List En} (h : EntsIn w A hs es) (hb : RowKit.Below w.heap.size w w') : EntsIn w' A hs es :=
  ⟨h.sl.later hb, (h.ens.below hb).more hb.size, h.uz, h.pz, h.az⟩
theorem ens_us {w : World} {B : Nat} : ∀ {hs : List Eh} {es : List En}, Ens w B hs es → hs.map Eh.u = es.map En.u
  | [], [], _ => rfl
  | [], _ :: _, h => by have := h.len; simp at this
  | _ :: _, [], h => by have := h.len; simp at this
  | x :: hs, e :: es, h => by
    have h0 := h.at_ 0 x e rfl rfl
    rw [List.map_cons, List.map_cons, ens_us h.tail, h0.u]
theorem anyU_mem (hs : List Eh) (u : Ud) : anyU hs u = decide (u ∈ hs.map Eh.u) := by
  unfold anyU
  rw [Bool.eq_iff_iff]
  simp
theorem ens_any {w : World} {B : Nat} {hs : List Eh} {es : List En} (h : Ens w B hs es) (k : Nat) (u : Ud) : anyU (hs.take k) u = decide (u ∈ (es.take k).map En.u) := by
  rw [anyU_mem, List.map_take, List.map_take, ens_us h]
theorem sm_of_ok {u : Ud} (h : UdOk u) : UdSm u := ⟨by have := h.1; unfold maxLen; omega, by have := h.2; unfold maxLen; omega⟩
theorem entAt_eq {es : List En} {k : Nat} {e : En} (h : es[k]? = some e) : entAt es k = if udErr e.u ≠ 0 then udErr e.u else if e.u ∈ (es.take k).map En.u then 6 else entOne e := by unfold entAt; rw [h]
theorem entAt_zero {es : List En} {k : Nat} {e : En} (h : es[k]? = some e) (h0 : entAt es k = 0) : udErr e.u = 0 ∧ e.u ∉ (es.take k).map En.u ∧ entOne e = 0 := by
  rw [entAt_eq h] at h0
  by_cases h1 : udErr e.u = 0
  · rw [if_neg (by simp [h1])] at h0
    by_cases h2 : e.u ∈ (es.take k).map En.u
    · rw [if_pos h2] at h0; omega
    · rw [if_neg h2] at h0; exact ⟨h1, h2, h0⟩
  · rw [if_pos h1] at h0; exact absurd h0 h1
theorem ents_nodup {es : List En} : ∀ n, (∀ j, j < n → entAt es j = 0) → ((es.take n).map En.u).Nodup
  | 0, _ => by simp
  | n + 1, h => by
    have ih := ents_nodup n (fun j hj => h j (by omega))
    cases hx : es[n]? with
    | none => rw [List.take_add_one, hx]; simpa using ih
    | some e =>
      have := (entAt_zero hx (h n (by omega))).2.1
      rw [List.take_add_one, hx, List.map_append, List.nodup_append]
      refine ⟨ih, by simp, ?_⟩
      intro a ha b hb
      simp at hb
      subst hb
      intro hab
      subst hab
      exact this ha
theorem entOne_up {e : En} (h : entOne e = 0) : e.up.length ≤ 6 := by
  unfold entOne at h
  split at h
  · omega
  · omega
theorem udK_of {x : Ud} {kl : Lit} (h : keyOf Tryz.prog 34 (udV x) = some kl) : UdSm x ∧ kl = udK x := by
  obtain ⟨u, e, h1, h2⟩ := udV_inv h
  have : x = u := by
    cases x; cases u
    simp [udV] at e
    obtain ⟨rfl, rfl⟩ := e
    rfl
  subst this
  exact ⟨h1, h2⟩
set_option maxHeartbeats 6400000 in
theorem ent_Check (hs : List Eh) (es : List En) (A : Option Addr) (c : Nat) (w : World) (hI : EntsIn w A hs es) (hc : hs.length ≤ c) :
    Calls Tryz.prog 22 #[.slice A hs.length c] w fun r w' => r = .returned (errV (entErr es)) ∧ RowKit.Below w.heap.size w w' := by
  have hlen := hI.ens.len
  obtain ⟨v, hv⟩ : ∃ v, entErr es = v := ⟨_, rfl⟩
  rw [hv]
  have HV := Lib.hid hv
  have HI := Lib.hid hI
  clear hv hI
  by_cases h16 : 16 < hs.length
  · have HE : Hid (v = 4) := by show _ = _; rw [← HV.out]; unfold entErr; rw [if_pos (by omega)]
    have t16 : decide ((16 : Int) < (hs.length : Int)) = true := by simp; omega
    clear hlen
    go_enter Tryz.func22, Tryz.ntmps22
    go_wp2_with fail
    go_ret
    rw [HE.out]
    exact ⟨rfl, RowKit.Below.refl _ _⟩
  · have t16 : decide ((16 : Int) < (hs.length : Int)) = false := by simp; omega
    have HE : Hid (v = if fnz (entAt es) es.length ≠ 0 then fnz (entAt es) es.length else if cycB es = true then 7 else 0) := by
      show _ = _; rw [← HV.out]; unfold entErr; rw [if_neg (by omega)]
    have HLN := Lib.hid hlen
    have h16' : hs.length ≤ 16 := by omega
    clear HV h16 hlen
    have hmm := @run_makeMap Tryz.prog
    go_enter Tryz.func22, Tryz.ntmps22
    go_wp2_with fail
    go_loopw [17] (fun kk wr => ∃ k : Nat, kk = .int .i64 k ∧ k ≤ hs.length ∧ Hid (∀ j, j < k → entAt es j = 0) ∧ RowKit.Below w.heap.size w wr) (fun kk _ => hs.length - (intOf kk).toNat)
    case atStart => exact ⟨0, rfl, by omega, by intro j hj; omega, RowKit.Below.refl _ _⟩
    case round =>
      obtain ⟨k, rfl, hk, HK, hbr⟩ := hrel
      have hzr := hbr.size
      by_cases hlt : k < hs.length
      · obtain ⟨⟨hu0, ua, un, uc, aa, an, ac⟩, hx⟩ : ∃ x, hs[k]? = some x := ⟨_, List.getElem?_eq_getElem hlt⟩
        obtain ⟨e, he⟩ : ∃ e, es[k]? = some e := ⟨_, List.getElem?_eq_getElem (by have := HLN.out; omega)⟩
        have hem := List.mem_of_getElem? he
        have HIr := Lib.hid (HI.out.later hbr)
        obtain ⟨b1, o1, rfl, hb1, d0, d1, d2, d3⟩ := ehSl_at HIr.out.sl hx
        have hue : hu0 = e.u := (HIr.out.ens.at_ k _ e hx he).u
        subst hue
        simp only at d0 d1 d2 d3
        have HEA : Hid (entAt es k = if udErr e.u ≠ 0 then udErr e.u else if e.u ∈ (es.take k).map En.u then 6 else entOne e) := entAt_eq he
        have HW := Lib.hid (fun W => name_Write e.u W (HI.out.uz e hem))
        have HOne := Lib.hid (fun W (hW : RowKit.Below wr.heap.size wr W) => ent_one ⟨e.u, ua, un, uc, aa, an, ac⟩ e W ((HIr.out.later hW).ens.at_ k _ e hx he) (HI.out.pz e hem) (HI.out.az e hem))
        have HCO := Lib.hid (fun W (hW : RowKit.Below wr.heap.size wr W) (b : Nat) (hcap : UCap e.u b W) => by
          have h := ent_contains e.u (hs.take k) (some ⟨b1, o1, none⟩) c b W hcap (by rw [List.length_take]; omega) ((HIr.out.later hW).sl.take k)
          rw [List.length_take, Nat.min_eq_left (by omega), ens_any HIr.out.ens] at h
          exact h)
        have q : ∀ (W : World), (Instr.slice 42 (.slice (some ⟨b1, o1, none⟩) hs.length c) none (some (.int .i64 (k : Int))) none).run Tryz.prog W = .ok (.slice (some ⟨b1, o1, none⟩) k c) W := by
          intro W
          go_simp
          intro h; omega
        have HX := Lib.hid hx
        clear hx he hem
        have hw1 : RowKit.Below wr.heap.size wr (wr.alloc (.cells #[.string e.u.ty, .string e.u.id, .slice ua un uc, .slice aa an ac] 109)) := by (repeat (first | assumption | exact Below.refl _ _ | apply Below.drew | apply below_drewN | (refine Below.alloc ?_ (by first | exact Nat.le_refl _ | omega | (simp; done) | (simp; omega)) _)))
        by_cases hw0 : udErr e.u = 0
        · have te : (udErr e.u != 0) = false := by simp [hw0]
          have HEP := Lib.hid hw0
          clear hw0
          go_wp2_with fail
          refine (HW.out _).mono ?_
          rintro r w1 ⟨rfl, hb1'⟩
          obtain ⟨hcc1, -⟩ := bcell hb1'
          have hw2 : RowKit.Below wr.heap.size wr w1 := hw1.trans (hb1'.mono (by simp))
          have ev0 : w1.cell? ⟨wr.heap.size, 0, none⟩ = some (.string e.u.ty) := by rw [hcc1 _ _ (by simp)]; simp [World.cell?_alloc_new]
          have ev1 : w1.cell? ⟨wr.heap.size, 1, none⟩ = some (.string e.u.id) := by rw [hcc1 _ _ (by simp)]; simp [World.cell?_alloc_new]
          have ev2 : w1.cell? ⟨wr.heap.size, 2, none⟩ = some (.slice ua un uc) := by rw [hcc1 _ _ (by simp)]; simp [World.cell?_alloc_new]
          have ev3 : w1.cell? ⟨wr.heap.size, 3, none⟩ = some (.slice aa an ac) := by rw [hcc1 _ _ (by simp)]; simp [World.cell?_alloc_new]
          have hz1' : wr.heap.size < w1.heap.size := by have := hb1'.size; simp at this; omega
          have HCC := Lib.hid (HCO.out w1 hw2 wr.heap.size ⟨ev0, ev1, hz1'⟩)
          clear hb1' hcc1 d0 d1 d2 d3
          by_cases hm : e.u ∈ (es.take k).map En.u
          · have hmd : decide (e.u ∈ (es.take k).map En.u) = true := by simpa using hm
            rw [hmd] at HCC
            have HR : Hid (v = 6) := by
              have h1 : entAt es k = 6 := by rw [HEA.out, if_neg (by simp [HEP.out]), if_pos hm]
              have h2 : fnz (entAt es) es.length = 6 := by rw [fnz_at (k := k) HK.out (by rw [h1]; omega) (by have := HLN.out; omega), h1]
              show _ = _
              rw [HE.out, h2]; rfl
            clear hm hmd
            go_wp2_with fail
            refine HCC.out.mono ?_
            rintro r w2 ⟨rfl, hb2⟩
            have hw3 : RowKit.Below w.heap.size w w2 := (hbr.trans (hw2.mono hzr)).trans (hb2.mono (by have := hw2.size; omega))
            clear hb2
            go_wp2_with fail
            go_ret
            rw [HR.out]
            exact ⟨rfl, hw3⟩
          · have hmd : decide (e.u ∈ (es.take k).map En.u) = false := by simpa using hm
            rw [hmd] at HCC
            have HEB : Hid (entAt es k = entOne e) := by show _ = _; rw [HEA.out, if_neg (by simp [HEP.out]), if_neg hm]
            clear hm hmd
            by_cases ho : entOne e = 0
            · have tne : (entOne e != 0) = false := by simp [ho]
              have HK2 : Hid (∀ j, j < k + 1 → entAt es j = 0) := by
                intro j hj
                rcases Nat.lt_or_ge j k with h | h
                · exact HK.out j h
                · obtain rfl : j = k := by omega
                  rw [HEB.out, ho]
              clear ho
              go_wp2_with fail
              refine HCC.out.mono ?_
              rintro r w2 ⟨rfl, hb2⟩
              obtain ⟨hcc2, -⟩ := bcell hb2
              have hw3 : RowKit.Below wr.heap.size wr w2 := hw2.trans (hb2.mono hw2.size)
              have ew0 := (hcc2 _ 0 hz1').trans ev0
              have ew1 := (hcc2 _ 1 hz1').trans ev1
              have ew2 := (hcc2 _ 2 hz1').trans ev2
              have ew3 := (hcc2 _ 3 hz1').trans ev3
              have HO2 := Lib.hid (HOne.out w2 hw3)
              clear hb2 hcc2 ev0 ev1 ev2 ev3
              go_wp2_with fail
              refine HO2.out.mono ?_
              rintro r w3 ⟨rfl, hb3⟩
              have hw4 : RowKit.Below w.heap.size w w3 := (hbr.trans (hw3.mono hzr)).trans (hb3.mono (by have := hw3.size; omega))
              clear hb3 ew0 ew1 ew2 ew3
              go_wp2_with fail
              exact ⟨⟨k + 1, by go_num, by omega, HK2, hw4⟩, by simp [intOf]; omega⟩
            · have tne : (entOne e != 0) = true := by simp [ho]
              have HR : Hid (v = entOne e) := by
                have h2 : fnz (entAt es) es.length = entOne e := by rw [fnz_at (k := k) HK.out (by rw [HEB.out]; exact ho) (by have := HLN.out; omega), HEB.out]
                show _ = _
                rw [HE.out, h2, if_pos ho]
              clear ho
              go_wp2_with fail
              refine HCC.out.mono ?_
              rintro r w2 ⟨rfl, hb2⟩
              obtain ⟨hcc2, -⟩ := bcell hb2
              have hw3 : RowKit.Below wr.heap.size wr w2 := hw2.trans (hb2.mono hw2.size)
              have ew0 := (hcc2 _ 0 hz1').trans ev0
              have ew1 := (hcc2 _ 1 hz1').trans ev1
              have ew2 := (hcc2 _ 2 hz1').trans ev2
              have ew3 := (hcc2 _ 3 hz1').trans ev3
              have HO2 := Lib.hid (HOne.out w2 hw3)
              clear hb2 hcc2 ev0 ev1 ev2 ev3
              go_wp2_with fail
              refine HO2.out.mono ?_
              rintro r w3 ⟨rfl, hb3⟩
              have hw4 : RowKit.Below w.heap.size w w3 := (hbr.trans (hw3.mono hzr)).trans (hb3.mono (by have := hw3.size; omega))
              clear hb3 ew0 ew1 ew2 ew3
              go_wp2_with fail
              go_ret
              rw [HR.out]
              exact ⟨rfl, hw4⟩
        · have te : (udErr e.u != 0) = true := by simp [hw0]
          have HR : Hid (v = udErr e.u) := by
            have h1 : entAt es k = udErr e.u := by rw [HEA.out, if_pos hw0]
            have h2 : fnz (entAt es) es.length = udErr e.u := by rw [fnz_at (k := k) HK.out (by rw [h1]; exact hw0) (by have := HLN.out; omega), h1]
            show _ = _
            rw [HE.out, h2, if_pos hw0]
          clear hw0
          go_wp2_with fail
          refine (HW.out _).mono ?_
          rintro r w1 ⟨rfl, hb1'⟩
          have hw2 : RowKit.Below w.heap.size w w1 := (hbr.trans (hw1.mono hzr)).trans (hb1'.mono (by simp; omega))
          clear hb1'
          go_wp2_with fail
          go_ret
          rw [HR.out]
          exact ⟨rfl, hw2⟩
      · have HZ : Hid (∀ j, j < es.length → entAt es j = 0) := fun j hj => HK.out j (by have := HLN.out; omega)
        have HE2 : Hid (v = if cycB es = true then 7 else 0) := by show _ = _; rw [HE.out, fnz_zero HZ.out]; rfl
        have HIr := Lib.hid (HI.out.later hbr)
        have HND : Hid ((hs.map Eh.u).Nodup) := by
          have := ents_nodup es.length HZ.out
          rw [List.take_of_length_le (Nat.le_refl _)] at this
          show List.Nodup _
          rw [ens_us HIr.out.ens]; exact this
        have HUP : Hid (∀ e ∈ es, e.up.length ≤ 6) := fun e he => by
          obtain ⟨i, hi⟩ := List.mem_iff_getElem?.1 he
          exact entOne_up (entAt_zero hi (HZ.out i (List.getElem?_eq_some_iff.1 hi).1)).2.2
        have HSMS : Hid (∀ h ∈ hs, UdSm h.u) := fun h hh => by
          have h1 : h.u ∈ es.map En.u := by rw [← ens_us HIr.out.ens]; exact List.mem_map.2 ⟨h, hh, rfl⟩
          obtain ⟨e, he, h2⟩ := List.mem_map.1 h1
          rw [← h2]
          exact sm_of_ok (HI.out.uz e he)
        have HST := Lib.hid (ent_stored hs A c wr (by omega) HIr.out.sl HSMS.out HND.out)
        clear HE
        go_wp2_with fail
        refine HST.out.mono ?_
        rintro r w1 ⟨sb, rfl, hsb, hst, hb1⟩
        obtain ⟨D, hown, hok⟩ := hst
        have HW1 := Lib.hid hb1
        have HOK := Lib.hid hok
        have hsb1 := hown.lt
        clear hb1 hok
        have hkinv : ∀ key kl, keyOf Tryz.prog 34 key = some kl → ∃ x : Ud, key = .agg #[.string x.ty, .string x.id] := fun key kl hk => by obtain ⟨u, e, _⟩ := udV_inv hk; exact ⟨u, e⟩
        have hvinv : ∀ v y, ehR v = some y → ∃ x : Eh, v = .agg #[.string x.u.ty, .string x.u.id, .slice x.ua x.un x.uc, .slice x.aa x.an x.ac] := fun v y hv => by obtain ⟨e, he, _⟩ := ehR_inv hv; exact ⟨e, he⟩
        have HKI := Lib.hid hkinv
        have HVI := Lib.hid hvinv
        clear hkinv hvinv
        go_wp2_with (at_range; refine wpList_range_own _ rfl _ 116 rfl 34 109 ud_law Tryz.underlying116 ehR sb hs.length D rfl hown ?_; intro w2 hrg2 hg2 hs2)
        go_frame
        have hsz1 := HW1.out.size
        have HR0 : Hid (∀ e ∈ es, Maps.has D (udK e.u) = true) := fun e he => by
          have h1 : e.u ∈ hs.map Eh.u := by rw [ens_us HIr.out.ens]; exact List.mem_map.2 ⟨e, he, rfl⟩
          rw [(HOK.out e.u (sm_of_ok (HI.out.uz e he))).1]
          simpa using h1
        have HW2 : Hid (RowKit.Below w1.heap.size w1 w2) := ⟨hg2.os, hg2.tape, hg2.output, hg2.size, fun k hk => hg2.block k hk (by simp)⟩
        have hz2 : w2.heap.size = w1.heap.size + 1 := hs2
        have hlt12 : w1.heap.size < w2.heap.size := by omega
        clear hs2 hg2 hz2
        obtain ⟨r, hr⟩ : ∃ r, w1.heap.size = r := ⟨_, rfl⟩
        have HRR := Lib.hid hr
        rw [hr] at hrg2 ⊢
        clear hr
        obtain ⟨wz, rfl⟩ : ∃ wz : World, wz = wr := ⟨_, rfl⟩
        go_loopw [10] (fun _ wo => ∃ left cnt, wo.ranges Tryz.prog 34 ehR sb r hs.length D left cnt ∧ Hid (∀ e ∈ es, left (udK e.u) = false → e.u ∉ abv es 100 e.u []) ∧ Hid (RowKit.Below w1.heap.size w1 wo)) (fun _ wo => wo.rangeLeft sb r)
        case atStart =>
          exact ⟨_, _, hrg2, (fun e he h => by rw [HR0.out e he] at h; exact absurd h (by simp) : ∀ e ∈ es, Maps.has D (udK e.u) = false → e.u ∉ abv es 100 e.u []), HW2.out⟩
        case round =>
          obtain ⟨left, cnt, hrg, HL, HB⟩ := hrel
          have HRG := Lib.hid hrg
          have hzo := HB.out.size
          clear hrg
          have hor : r < wr.heap.size := HRG.out.lt
          go_wp2_with (at_next; refine wpList_next_ranges _ rfl _ rfl 34 ud_law ehR (fun x : Ud => .agg #[.string x.ty, .string x.id]) (fun x : Eh => .agg #[.string x.u.ty, .string x.u.id, .slice x.ua x.un x.uc, .slice x.aa x.an x.ac]) HKI.out HVI.out sb r hs.length D left cnt rfl HRG.out ?_ ?_)
          · intro hc0 hl0
            have HCY : Hid (cycB es = false) := by
              show _ = _
              unfold cycB
              rw [List.any_eq_false]
              intro e he
              simpa using HL.out e he (hl0 _)
            clear hl0 hc0
            go_wp2_with fail
            go_ret
            rw [HE2.out, HCY.out]
            exact ⟨rfl, hbr.trans ((HW1.out.trans (HB.out.mono hsz1)).mono hzr)⟩
          · intro x ce kl yd yp w3 cnt3 hkey hlk hv hat hrg3 hlt3 hg3 hs3 hen
            obtain ⟨hsm, rfl⟩ := udK_of hkey
            have hxm : x ∈ es.map En.u := by
              have h1 := Maps.has_true_of_atKey hat
              rw [(HOK.out x hsm).1] at h1
              rw [← ens_us HIr.out.ens]
              simpa using h1
            have hb3 : RowKit.Below w1.heap.size w1 w3 := HB.out.grown hg3 hzo (fun j hj => by injection hj with hj; have := HRR.out; omega)
            have HXM := Lib.hid hxm
            have HSX := Lib.hid hsm
            have HLK := Lib.hid hlk
            have HB3 := Lib.hid hb3
            have HRG3 := Lib.hid hrg3
            have HLT := Lib.hid hlt3
            have hsz3 : r < w3.heap.size := hrg3.lt
            have hsb3 : sb < w3.heap.size := hrg3.owns.lt
            clear hkey hlk hv hat hrg3 hlt3 hg3 hs3 hxm hsm hb3
            have HBW : Hid (RowKit.Below w.heap.size w ((w3.alloc (.cells #[.string x.ty, .string x.id] 34)).alloc (.map #[] 0))) := by
              have h3 : RowKit.Below w.heap.size w w3 := hbr.trans ((HW1.out.trans (HB3.out.mono hsz1)).mono hzr)
              have := h3.size
              show RowKit.Below _ _ _
              (repeat (first | assumption | exact Below.refl _ _ | apply Below.drew | apply below_drewN | (refine Below.alloc ?_ (by first | exact Nat.le_refl _ | omega | (simp; done) | (simp; omega)) _)))
            have HM0 : Hid (MetAt ((w3.alloc (.cells #[.string x.ty, .string x.id] 34)).alloc (.map #[] 0)) (w3.heap.size + 1) []) := by
              have := met_made (w3.alloc (.cells #[.string x.ty, .string x.id] 34))
              rwa [World.size_alloc] at this
            have HUM : Hid (unm es [] ≤ 96) := unm_small (by have := HLN.out; omega) HUP.out []
            have hzw : w.heap.size ≤ wz.heap.size := hzr
            have HC := Lib.hid (above_all es (fun p hp => by obtain ⟨e, he, h⟩ := List.mem_flatMap.1 hp; exact sm_of_ok (HI.out.pz e he p h)) 100 hs x [] _ w.heap.size sb (w3.heap.size + 1)
              ⟨⟨D, (HRG3.out.owns.alloc _).alloc _, HOK.out⟩, HM0.out, HI.out.ens.below HBW.out, by omega, by have := HBW.out.size; simp at this; omega, by omega⟩ HSX.out (by have := HUM.out; omega) (by have := HUM.out; simp; omega))
            have g0 : ((w3.alloc (.cells #[.string x.ty, .string x.id] 34)).alloc (.map #[] 0)).cell? ⟨w3.heap.size, 0, none⟩ = some (.string x.ty) := by
              rw [World.cell?_alloc_lt _ _ ⟨w3.heap.size, 0, none⟩ (by simp)]; simp [World.cell?_alloc_new]
            have g1 : ((w3.alloc (.cells #[.string x.ty, .string x.id] 34)).alloc (.map #[] 0)).cell? ⟨w3.heap.size, 1, none⟩ = some (.string x.id) := by
              rw [World.cell?_alloc_lt _ _ ⟨w3.heap.size, 1, none⟩ (by simp)]; simp [World.cell?_alloc_new]
            have HRG4 : Hid (((w3.alloc (.cells #[.string x.ty, .string x.id] 34)).alloc (.map #[] 0)).ranges Tryz.prog 34 ehR sb r hs.length D (fun z => left z && !z.sameKey (udK x)) cnt3) := (HRG3.out.alloc _).alloc _
            have HLE : Hid (wr.rangeLeft sb r = cnt) := HRG.out.left_eq
            go_wp2_with fail
            refine HC.out.mono ?_
            rintro rr w4 ⟨rfl, hM4, hg4⟩
            have k0 : w4.cell? ⟨w3.heap.size, 0, none⟩ = some (.string x.ty) := by
              rw [World.cell?_of_block (a := ⟨w3.heap.size, 0, none⟩) (hg4.block w3.heap.size (by simp; omega) (by intro e; injection e with e; omega))]; exact g0
            have k1 : w4.cell? ⟨w3.heap.size, 1, none⟩ = some (.string x.id) := by
              rw [World.cell?_of_block (a := ⟨w3.heap.size, 1, none⟩) (hg4.block w3.heap.size (by simp; omega) (by intro e; injection e with e; omega))]; exact g1
            have hlk4 := met_look hM4 HSX.out
            have HRG5 : Hid (w4.ranges Tryz.prog 34 ehR sb r hs.length D (fun z => left z && !z.sameKey (udK x)) cnt3) := HRG4.out.kept hg4 (by intro e; injection e with e; omega) (by intro e; injection e with e; omega)
            have HB4 : Hid (RowKit.Below w1.heap.size w1 w4) := by
              have h3 := HB3.out
              have h5 := h3.size
              exact RowKit.Below.grown (w := (w3.alloc (.cells #[.string x.ty, .string x.id] 34)).alloc (.map #[] 0)) (by (repeat (first | assumption | exact Below.refl _ _ | apply Below.drew | apply below_drewN | (refine Below.alloc ?_ (by first | exact Nat.le_refl _ | omega | (simp; done) | (simp; omega)) _)))) hg4 (by simp; omega) (fun j hj => by injection hj with hj; omega)
            clear hM4 hg4 g0 g1 HC
            by_cases hm : x ∈ abv es 100 x []
            · rw [if_pos hm] at hlk4
              have HCY : Hid (cycB es = true) := by
                obtain ⟨e, he, h2⟩ := List.mem_map.1 HXM.out
                subst h2
                exact List.any_eq_true.2 ⟨e, he, by simpa using hm⟩
              clear hm
              go_wp2_with fail
              go_ret
              rw [HE2.out, HCY.out]
              exact ⟨rfl, hbr.trans ((HW1.out.trans (HB4.out.mono hsz1)).mono hzr)⟩
            · rw [if_neg hm] at hlk4
              have HL2 : Hid (∀ e ∈ es, (left (udK e.u) && !(udK e.u).sameKey (udK x)) = false → e.u ∉ abv es 100 e.u []) := by
                intro e he h
                cases hl : left (udK e.u) with
                | false => exact HL.out e he hl
                | true =>
                  rw [hl] at h
                  have h2 : (udK e.u).sameKey (udK x) = true := by simpa using h
                  have h3 := udK_inj (sm_of_ok (HI.out.uz e he)) HSX.out (WideAt.sameKey_eq h2)
                  rw [h3]; exact hm
              clear hm
              go_wp2_with fail
              exact ⟨⟨_, _, HRG5.out, HL2, HB4⟩, by rw [HRG5.out.left_eq, HLE.out]; exact HLT.out⟩
end Go.Proofs.YtpheiojmcafolaaGreatDoor
namespace Go.Proofs.YtpheiojmcafolaaGreatDoor
set_option maxRecDepth 100000
open Go.RowKit Go.Sort Go.Maps
structure InS (b0 : Nat) (a : Ud) (W : World) : Prop where
  s0 : W.cell? ⟨b0, 0, none⟩ = some (.string a.ty)
  s1 : W.cell? ⟨b0, 1, none⟩ = some (.string a.id)
theorem ents_nd {w : World} {A : Option Addr} {hs : List Eh} {es : List En} (hI : EntsIn w A hs es) (h : entErr es = 0) : es.length ≤ 16 ∧ (hs.map Eh.u).Nodup ∧ ∀ e ∈ es, e.up.length ≤ 6 := by
  unfold entErr at h
  by_cases h16 : 16 < es.length
  · rw [if_pos h16] at h; omega
  · rw [if_neg h16] at h
    by_cases hf : fnz (entAt es) es.length = 0
    · have hz := fnz_all hf
      refine ⟨by omega, ?_, fun e he => ?_⟩
      · have := ents_nodup es.length hz
        rw [List.take_of_length_le (Nat.le_refl _)] at this
        rw [ens_us hI.ens]; exact this
      · obtain ⟨i, hi⟩ := List.mem_iff_getElem?.1 he
        exact entOne_up (entAt_zero hi (hz i (List.getElem?_eq_some_iff.1 hi).1)).2.2
    · rw [if_pos hf] at h; exact absurd h hf
set_option maxHeartbeats 6400000 in
theorem ent_In (hs : List Eh) (es : List En) (a b : Ud) (A : Option Addr) (c : Nat) (w : World) (hI : EntsIn w A hs es) (hc : hs.length ≤ c) (ha : UdSm a) (hb : UdSm b) :
    Calls Tryz.prog 64 #[.slice A hs.length c, .agg #[.string a.ty, .string a.id], .agg #[.string b.ty, .string b.id]] w fun r w' => r = .returned (.tuple #[.bool (if entErr es = 0 then inB es a b else false), errV (entErr es)]) ∧ RowKit.Below w.heap.size w w' := by
  have HI := Lib.hid hI
  obtain ⟨w0, hw0⟩ : ∃ w0, (w.alloc (.cells #[.string a.ty, .string a.id] 34)).alloc (.cells #[.string b.ty, .string b.id] 34) = w0 := ⟨_, rfl⟩
  have hb0 : RowKit.Below w.heap.size w w0 := by rw [← hw0]; (repeat (first | assumption | exact Below.refl _ _ | apply Below.drew | apply below_drewN | (refine Below.alloc ?_ (by first | exact Nat.le_refl _ | omega | (simp; done) | (simp; omega)) _)))
  have hz0 : w0.heap.size = w.heap.size + 2 := by rw [← hw0]; simp
  have a0 : w0.cell? ⟨w.heap.size, 0, none⟩ = some (.string a.ty) := by rw [← hw0, World.cell?_alloc_lt _ _ ⟨w.heap.size, 0, none⟩ (by simp)]; simp [World.cell?_alloc_new]
  have a1 : w0.cell? ⟨w.heap.size, 1, none⟩ = some (.string a.id) := by rw [← hw0, World.cell?_alloc_lt _ _ ⟨w.heap.size, 1, none⟩ (by simp)]; simp [World.cell?_alloc_new]
  have b0 : w0.cell? ⟨w.heap.size + 1, 0, none⟩ = some (.string b.ty) := by rw [← hw0]; simp [go_sem]
  have b1 : w0.cell? ⟨w.heap.size + 1, 1, none⟩ = some (.string b.id) := by rw [← hw0]; simp [go_sem]
  have HC := Lib.hid (ent_Check hs es A c w0 (hI.later hb0) hc)
  have HW0 := Lib.hid hw0
  have hlt0 : w.heap.size + 1 < w0.heap.size := by omega
  clear hI hw0 hz0
  have hmm := @run_makeMap Tryz.prog
  by_cases he : entErr es = 0
  · have te : (entErr es != 0) = false := by simp [he]
    have HE := Lib.hid he
    rw [if_pos he]
    clear he
    go_enter Tryz.func64, Tryz.ntmps64
    go_wp2_with fail
    rw [HW0.out]
    refine HC.out.mono ?_
    rintro r w1 ⟨rfl, hb1⟩
    have hz1 := hb1.size
    have d0 := (hb1.cell (p := ⟨w.heap.size, 0, none⟩) (by show w.heap.size < _; omega)).trans a0
    have d1 := (hb1.cell (p := ⟨w.heap.size, 1, none⟩) (by show w.heap.size < _; omega)).trans a1
    have f0 := (hb1.cell (p := ⟨w.heap.size + 1, 0, none⟩) hlt0).trans b0
    have f1 := (hb1.cell (p := ⟨w.heap.size + 1, 1, none⟩) hlt0).trans b1
    have hw1 : RowKit.Below w.heap.size w w1 := hb0.trans (hb1.mono hb0.size)
    clear hb1 a0 a1 b0 b1
    obtain ⟨w2, hr2, hM2, hg2⟩ := met_put (met_made w1) ha (by simp)
    have hg12 : RowKit.Below w1.heap.size w1 w2 := RowKit.Below.grown (w := w1.alloc (.map #[] 0)) (by (repeat (first | assumption | exact Below.refl _ _ | apply Below.drew | apply below_drewN | (refine Below.alloc ?_ (by first | exact Nat.le_refl _ | omega | (simp; done) | (simp; omega)) _)))) hg2 (by simp) (fun j hj => by injection hj with hj; omega)
    have hz2 : w1.heap.size < w2.heap.size := hM2.lt
    have k0 := (hg12.cell (p := ⟨w.heap.size, 0, none⟩) (by show w.heap.size < _; omega)).trans d0
    have k1 := (hg12.cell (p := ⟨w.heap.size, 1, none⟩) (by show w.heap.size < _; omega)).trans d1
    have j0 := (hg12.cell (p := ⟨w.heap.size + 1, 0, none⟩) (by show w.heap.size + 1 < _; omega)).trans f0
    have j1 := (hg12.cell (p := ⟨w.heap.size + 1, 1, none⟩) (by show w.heap.size + 1 < _; omega)).trans f1
    have HM2 : Hid (MetAt w2 w1.heap.size [a]) := hM2
    have hw2 : RowKit.Below w.heap.size w w2 := hw1.trans (hg12.mono (by omega))
    have HW2 := Lib.hid hw2
    have HI2 := Lib.hid ((HI.out.later hw2).later (w' := w2.drew) (by (repeat (first | assumption | exact Below.refl _ _ | apply Below.drew | apply below_drewN | (refine Below.alloc ?_ (by first | exact Nat.le_refl _ | omega | (simp; done) | (simp; omega)) _)))))
    obtain ⟨g1, g2, g3⟩ := ents_nd HI.out HE.out
    have HLN : Hid (hs.length = es.length) := HI.out.ens.len
    have HUP := Lib.hid g3
    have HST := Lib.hid (ent_stored hs A c w2.drew (by have := HLN.out; omega) HI2.out.sl (fun h hh => by
      have h1 : h.u ∈ es.map En.u := by rw [← ens_us HI.out.ens]; exact List.mem_map.2 ⟨h, hh, rfl⟩
      obtain ⟨e, he, h2⟩ := List.mem_map.1 h1
      rw [← h2]
      exact sm_of_ok (HI.out.uz e he)) g2)
    have m0 : (w1.alloc (.map #[] 0)).cell? ⟨w.heap.size, 0, none⟩ = some (.string a.ty) := (World.cell?_alloc_lt _ _ ⟨w.heap.size, 0, none⟩ (by show w.heap.size < _; omega)).trans d0
    have m1 : (w1.alloc (.map #[] 0)).cell? ⟨w.heap.size, 1, none⟩ = some (.string a.id) := (World.cell?_alloc_lt _ _ ⟨w.heap.size, 1, none⟩ (by show w.heap.size < _; omega)).trans d1
    clear hM2 hg2 hg12 g2 g3 d0 d1 f0 f1
    go_wp2_with fail
    refine wp_region_ord (S := InS w.heap.size a) [(0, false), (2, false), (3, false), (1, true), (4, true)] (by kernel_rfl) (by kernel_rfl) (fun _ _ _ _ _ h => h) ⟨k0, k1⟩ (fun hW' => ?_)
    simp only [ordOps, List.filterMap_cons, List.filterMap_nil, List.getElem?_cons_zero, List.getElem?_cons_succ, Option.map_some]
    (repeat (first | (refine hd_take (v := ?_) (by rfl) ?_ ?_; rotate_left; (focus (intro W hW; obtain ⟨s0, s1⟩ := hW; go_simp; try with_reducible rfl)); simp only [Act.put, List.setIfInBounds_toArray, List.set_cons_zero, List.set_cons_succ]) | (refine hd_skip (by rfl) ?_; simp only [Act.put, List.setIfInBounds_toArray, List.set_cons_zero, List.set_cons_succ])))
    refine hd_call (fun K hK => ?_)
    go_simp
    refine HST.out.mono ?_
    rintro r w3 ⟨sb, rfl, hsb, hst, hb3'⟩
    have hb3 := below_of_drew hb3'
    have hsb' : w2.heap.size ≤ sb := hsb
    obtain ⟨hcc3, -⟩ := bcell hb3
    refine hK _ _ ⟨(hcc3 _ _ (by omega)).trans k0, (hcc3 _ _ (by omega)).trans k1⟩ ?_
    clear hK K
    have p0 := (hcc3 _ 0 (by omega : w.heap.size < w2.heap.size)).trans k0
    have p1 := (hcc3 _ 1 (by omega : w.heap.size < w2.heap.size)).trans k1
    have q0 := (hcc3 _ 0 (by omega : w.heap.size + 1 < w2.heap.size)).trans j0
    have q1 := (hcc3 _ 1 (by omega : w.heap.size + 1 < w2.heap.size)).trans j1
    have HM3 : Hid (MetAt w3 w1.heap.size [a]) := HM2.out.kept (row := none) ⟨hb3.os, hb3.tape, hb3.output, hb3.size, fun k hk _ => hb3.block k hk⟩ (by simp)
    have hw3 : RowKit.Below w.heap.size w w3 := HW2.out.trans (hb3.mono (by omega))
    have hsb3 := hst.lt
    have hum := unm_small g1 HUP.out [a]
    have HAB := Lib.hid (above_all es (fun p hp => by obtain ⟨e, he, h⟩ := List.mem_flatMap.1 hp; exact sm_of_ok (HI.out.pz e he p h)) 100 hs a [a] w3 w.heap.size sb w1.heap.size
      ⟨hst, HM3.out, HI.out.ens.below hw3, by omega, by omega, by omega⟩ ha (by omega) (by simp; omega))
    clear hst hum hb3' hcc3 k0 k1 j0 j1
    (repeat (first | (refine hd_take (v := ?_) (by rfl) ?_ ?_; rotate_left; (focus (intro W hW; obtain ⟨s0, s1⟩ := hW; go_simp; try with_reducible rfl)); simp only [Act.put, List.setIfInBounds_toArray, List.set_cons_zero, List.set_cons_succ]) | (refine hd_skip (by rfl) ?_; simp only [Act.put, List.setIfInBounds_toArray, List.set_cons_zero, List.set_cons_succ])))
    refine hd_call (fun K hK => ?_)
    go_simp
    refine HAB.out.mono ?_
    rintro r w4 ⟨rfl, hM4, hg4⟩
    have hz3 := hb3.size
    have r0 : w4.cell? ⟨w.heap.size, 0, none⟩ = w3.cell? ⟨w.heap.size, 0, none⟩ := World.cell?_of_block (a := ⟨w.heap.size, 0, none⟩) (hg4.block w.heap.size (by omega) (by intro e; injection e with e; omega))
    have r1 : w4.cell? ⟨w.heap.size, 1, none⟩ = w3.cell? ⟨w.heap.size, 1, none⟩ := World.cell?_of_block (a := ⟨w.heap.size, 1, none⟩) (hg4.block w.heap.size (by omega) (by intro e; injection e with e; omega))
    have HN4 : Hid (w4.cell? ⟨w.heap.size, 0, none⟩ = some (.string a.ty) ∧ w4.cell? ⟨w.heap.size, 1, none⟩ = some (.string a.id)) := ⟨r0.trans p0, r1.trans p1⟩
    refine hK _ _ ⟨HN4.out.1, HN4.out.2⟩ ?_
    clear hK K
    refine hd_nil ?_
    have u0 : w4.cell? ⟨w.heap.size + 1, 0, none⟩ = some (.string b.ty) := (World.cell?_of_block (a := ⟨w.heap.size + 1, 0, none⟩) (hg4.block (w.heap.size + 1) (by omega) (by intro e; injection e with e; omega))).trans q0
    have u1 : w4.cell? ⟨w.heap.size + 1, 1, none⟩ = some (.string b.id) := (World.cell?_of_block (a := ⟨w.heap.size + 1, 1, none⟩) (hg4.block (w.heap.size + 1) (by omega) (by intro e; injection e with e; omega))).trans q1
    have hlk := met_look hM4 hb
    have hw4 : RowKit.Below w.heap.size w w4 := hw3.grown hg4 (by omega) (fun j hj => by injection hj with hj; omega)
    have HV : Hid (inB es a b = decide (b ∈ abv es 100 a [a])) := rfl
    clear hM4 hg4 q0 q1 r0 r1 HN4
    by_cases hm : b ∈ abv es 100 a [a]
    · rw [if_pos hm] at hlk
      have HVV : Hid (inB es a b = true) := by show _ = _; rw [HV.out, decide_eq_true hm]
      clear hm HV
      go_wp2_with fail
      go_ret2
      rw [HE.out, HVV.out]
      exact ⟨rfl, hw4⟩
    · rw [if_neg hm] at hlk
      have HVV : Hid (inB es a b = false) := by show _ = _; rw [HV.out, decide_eq_false hm]
      clear hm HV
      go_wp2_with fail
      go_ret2
      rw [HE.out, HVV.out]
      exact ⟨rfl, hw4⟩
  · have te : (entErr es != 0) = true := by simp [he]
    rw [if_neg he]
    generalize entErr es = k at HC te ⊢
    clear he
    go_enter Tryz.func64, Tryz.ntmps64
    go_wp2_with fail
    rw [HW0.out]
    refine HC.out.mono ?_
    rintro r w1 ⟨rfl, hb1⟩
    have hw1 : RowKit.Below w.heap.size w w1 := hb0.trans (hb1.mono hb0.size)
    clear hb1 a0 a1 b0 b1
    go_wp2_with fail
    go_ret2
    exact ⟨rfl, hw1⟩
end Go.Proofs.YtpheiojmcafolaaGreatDoor
namespace Go.Proofs.YtpheiojmcafolaaGreatDoor
set_option maxRecDepth 100000
open Go.RowKit Go.Sort
/-- An evaluation: what is asked of it, and where that lies. -/
structure Evl where
  es : List En
  hs : List Eh
  Ea : Option Addr
  ec : Nat
  q : Rq
  qa : Option Addr
  qc : Nat
  e : List Nd
  ea : Option Addr
  eca : Nat
def Evl.cells (x : Evl) (i : Nat) : Array Value := #[.slice x.Ea x.hs.length x.ec, .string x.q.who.ty, .string x.q.who.id, .string x.q.act.ty, .string x.q.act.id, .string x.q.what.ty, .string x.q.what.id, .slice x.qa x.q.ctx.length x.qc, .slice x.ea x.e.length x.eca, .int .i64 i]
/-- What lies below block B. -/
structure EvIn (x : Evl) (B : Nat) (w : World) : Prop where
  sl : EhSl w B x.Ea x.hs
  ens : Ens w B x.hs x.es
  uz : ∀ e ∈ x.es, UdOk e.u
  pz : ∀ e ∈ x.es, ∀ p ∈ e.up, UdOk p
  az : ∀ e ∈ x.es, NdOk e.at_
  ai : ∀ e ∈ x.es, NdI e.at_
  ec : x.hs.length ≤ x.ec
  ok : entErr x.es = 0
  ctx : NdSl w B x.qa x.q.ctx
  qc : x.q.ctx.length ≤ x.qc ∧ x.qc ≤ 9223372036854775807
  qk : NdOk x.q.ctx
  qi : NdI x.q.ctx
  qv : rqErr x.q = 0
  qz : UdOk x.q.who ∧ UdOk x.q.act ∧ UdOk x.q.what
  ex : NdSl w B x.ea x.e
  eca : x.e.length ≤ x.eca ∧ x.eca ≤ 9223372036854775807
  ek : NdOk x.e
  ei : NdI x.e
  el : x.e.length ≤ 200
  err : ErrCell w
  errB : 0 < B
theorem EvIn.keep {x : Evl} {B : Nat} {w w' : World} (h : EvIn x B w) (hb : RowKit.Below B w w') : EvIn x B w' :=
  ⟨h.sl.below hb, h.ens.below hb, h.uz, h.pz, h.az, h.ai, h.ec, h.ok, h.ctx.below hb, h.qc, h.qk, h.qi, h.qv, h.qz, h.ex.below hb, h.eca, h.ek, h.ei, h.el, h.err.below hb h.errB, h.errB⟩
theorem EvIn.ents {x : Evl} {B : Nat} {w : World} (h : EvIn x B w) (hB : B ≤ w.heap.size) : EntsIn w x.Ea x.hs x.es := ⟨h.sl.more hB, h.ens.more hB, h.uz, h.pz, h.az⟩
theorem ents_vals {es : List En} (h : entErr es = 0) : es.length ≤ 16 ∧ ∀ e ∈ es, udErr e.u = 0 ∧ valErr e.at_ = 0 ∧ opH e.at_ = 6 := by
  unfold entErr at h
  by_cases h16 : 16 < es.length
  · rw [if_pos h16] at h; omega
  · rw [if_neg h16] at h
    by_cases hf : fnz (entAt es) es.length = 0
    · have hz := fnz_all hf
      refine ⟨by omega, fun e he => ?_⟩
      obtain ⟨i, hi⟩ := List.mem_iff_getElem?.1 he
      obtain ⟨h1, _, h3⟩ := entAt_zero hi (hz i (List.getElem?_eq_some_iff.1 hi).1)
      refine ⟨h1, ?_⟩
      unfold entOne at h3
      split at h3
      · omega
      · split at h3
        · rename_i h4; exact absurd h3 h4
        · split at h3
          · rename_i h4; exact absurd h3 h4
          · rename_i h4
            split at h3
            · rename_i h5; exact ⟨Classical.not_not.1 h4, h5⟩
            · omega
    · rw [if_pos hf] at h; exact absurd h hf
/-- What record hands back. -/
def RecBack (w : World) (r : Ending) (w' : World) (q : Rs (Option (List Nd))) : Prop :=
  (∀ v, q = .ok (some v) → ∃ A c, r = .returned (.slice A v.length c) ∧ ValIn v A c w' ∧ NdI v) ∧ (q = .ok none → r = .returned (.slice none 0 0)) ∧ (∀ k, q = .bad k → r = .panicked (noV k)) ∧ RowKit.Below w.heap.size w w'
structure RecS (b0 bv ov : Nat) (h : Eh) (x : Nd) (w0 W : World) : Prop where
  s0 : W.cell? ⟨b0, 0, none⟩ = some (.string h.u.ty)
  s1 : W.cell? ⟨b0, 1, none⟩ = some (.string h.u.id)
  bel : RowKit.Below w0.heap.size w0 W
set_option maxHeartbeats 6400000 in
theorem eval_record (x : Evl) (xb i : Nat) (v : List Nd) (A : Option Addr) (c : Nat) (w : World) (hx : EvIn x xb w) (hB : Blk w xb 99 (x.cells i)) (hv : ValIn v A c w) (hvi : NdI v) :
    Calls Tryz.prog 116 #[.pointer (some ⟨xb, 0, none⟩), .slice A v.length c] w fun r w' => RecBack w r w' (recOf x.es v) := by
  have HX := Lib.hid hx
  have HV := Lib.hid hv
  have HVI := Lib.hid hvi
  have hxb := hB.lt
  have c0 : w.cell? ⟨xb, 0, none⟩ = some (.slice x.Ea x.hs.length x.ec) := hB.cell 0
  have HIS := Lib.hid (fun op => eval_is v op A c w hv)
  have hlen := hx.ens.len
  obtain ⟨h16, hvs⟩ := ents_vals hx.ok
  have HVS := Lib.hid hvs
  have hhl : x.hs.length ≤ 16 := by omega
  obtain ⟨q, hq⟩ : ∃ q, recOf x.es v = q := ⟨_, rfl⟩
  rw [hq]
  have HQ := Lib.hid hq
  have HLN := Lib.hid hlen
  clear hx hv hvi hB hq hlen h16 hvs
  by_cases h6 : opH v = 6
  · have t6 : (opH v == 6) = true := by simp [h6]
    have HR : Hid (q = .ok (some v)) := by show _ = _; rw [← HQ.out]; unfold recOf; rw [if_pos h6]
    have HI6 := Lib.hid (HIS.out 6)
    rw [t6] at HI6
    clear h6 t6
    go_enter Tryz.func116, Tryz.ntmps116
    go_wp2_with fail
    refine HI6.out.mono ?_
    rintro r w1 ⟨rfl, rfl⟩
    go_wp2_with fail
    go_ret
    rw [HR.out]
    exact ⟨fun u hu => by injection hu with hu; injection hu with hu; subst hu; exact ⟨A, c, rfl, HV.out, HVI.out⟩, fun h => (by (cases h)), fun k h => (by (cases h)), RowKit.Below.refl _ _⟩
  · have t6 : (opH v == 6) = false := by simp [h6]
    have HI6 := Lib.hid (HIS.out 6)
    rw [t6] at HI6
    by_cases h4 : opH v = 4
    · have t4 : (opH v == 4) = true := by simp [h4]
      have HI4 := Lib.hid (HIS.out 4)
      rw [t4] at HI4
      have HR : Hid (q = .ok ((x.es.find? fun e => decide (e.u = udH v)).map En.at_)) := by show _ = _; rw [← HQ.out]; unfold recOf; rw [if_neg h6, if_pos h4]
      clear h6 t6 h4 t4
      go_enter Tryz.func116, Tryz.ntmps116
      go_wp2_with fail
      refine HI6.out.mono ?_
      rintro r w1 ⟨rfl, rfl⟩
      go_wp2_with fail
      refine HI4.out.mono ?_
      rintro r w2 ⟨rfl, rfl⟩
      go_wp2_with fail
      go_loopw [21] (fun kk wr => ∃ k : Nat, kk = .int .i64 k ∧ k ≤ x.hs.length ∧ Hid (∀ e ∈ x.es.take k, ¬ e.u = udH v) ∧ RowKit.Below w2.heap.size w2 wr) (fun kk _ => x.hs.length - (intOf kk).toNat)
      case atStart => exact ⟨0, rfl, by omega, by simp [Hid], RowKit.Below.refl _ _⟩
      case round =>
        obtain ⟨k, rfl, hk, HK, hbr⟩ := hrel
        have hzr := hbr.size
        by_cases hlt : k < x.hs.length
        · obtain ⟨⟨hu0, ua, un, uc, aa, an, ac⟩, hx⟩ : ∃ y, x.hs[k]? = some y := ⟨_, List.getElem?_eq_getElem hlt⟩
          obtain ⟨e, he⟩ : ∃ e, x.es[k]? = some e := ⟨_, List.getElem?_eq_getElem (by have := HLN.out; omega)⟩
          have hXr := HX.out.keep (hbr.mono (Nat.le_of_lt hxb))
          have hok := (hXr.ens.at_ k _ e hx he)
          obtain ⟨b1, o1, hEa, hb1, d0, d1, d2, d3⟩ := ehSl_at hXr.sl hx
          simp only at d0 d1 d2 d3
          rw [hEa] at c0 ⊢
          have hue : hu0 = e.u := hok.u
          subst hue
          have HE := Lib.hid he
          have HOK := Lib.hid hok
          have HXR := Lib.hid hXr
          have hw1 : RowKit.Below wr.heap.size wr (wr.alloc (.cells #[.string e.u.ty, .string e.u.id, .slice ua un uc, .slice aa an ac] 109)) := by (repeat (first | assumption | exact Below.refl _ _ | apply Below.drew | apply below_drewN | (refine Below.alloc ?_ (by first | exact Nat.le_refl _ | omega | (simp; done) | (simp; omega)) _)))
          have HW1 := Lib.hid hw1
          have HVW := Lib.hid (HV.out.later hbr)
          have HUD := Lib.hid (fun W (hW : RowKit.Below wr.heap.size wr W) => eval_uid v A c W (HVW.out.later hW))
          have ev0 : (wr.alloc (.cells #[.string e.u.ty, .string e.u.id, .slice ua un uc, .slice aa an ac] 109)).cell? ⟨wr.heap.size, 0, none⟩ = some (.string e.u.ty) := by simp [World.cell?_alloc_new]
          have ev1 : (wr.alloc (.cells #[.string e.u.ty, .string e.u.id, .slice ua un uc, .slice aa an ac] 109)).cell? ⟨wr.heap.size, 1, none⟩ = some (.string e.u.id) := by simp [World.cell?_alloc_new]
          have ev2 : (wr.alloc (.cells #[.string e.u.ty, .string e.u.id, .slice ua un uc, .slice aa an ac] 109)).cell? ⟨wr.heap.size, 3, none⟩ = some (.slice aa an ac) := by simp [World.cell?_alloc_new]
          have heq : ∀ W, (binOp .eql 34 (.agg #[.string e.u.ty, .string e.u.id]) (.agg #[.string (udH v).ty, .string (udH v).id])).run Tryz.prog W = .ok (.bool (decide (e.u = udH v))) W := fun W => eql_ud e.u (udH v) W
          have heq2 : ∀ W, (Op.equalIn 10000 34 (.agg #[.string e.u.ty, .string e.u.id]) (.agg #[.string (udH v).ty, .string (udH v).id])).run Tryz.prog W = .ok (decide (e.u = udH v)) W := fun W => eq_ud e.u (udH v) W
          have hsz : (wr.alloc (.cells #[.string e.u.ty, .string e.u.id, .slice ua un uc, .slice aa an ac] 109)).heap.size = wr.heap.size + 1 := by simp
          have HSZ := Lib.hid hsz
          clear hx he hok hXr hsz
          cases hm : decide (e.u = udH v) with
          | true =>
            rw [hm] at heq heq2
            have HM := Lib.hid hm
            clear hm
            go_wp2_with fail
            refine wp_region_hd (S := RecS wr.heap.size 0 0 ⟨e.u, ua, un, uc, aa, an, ac⟩ ⟨0, 0, ⟨#[]⟩, ⟨#[]⟩⟩ wr) [false, false, false, true, false] (by kernel_rfl) (by kernel_rfl) (fun _ _ _ _ _ h => h) ⟨ev0, ev1, HW1.out.drew⟩ (fun hW' => ?_)
            simp only [List.zip_cons_cons, List.zip_nil_left]
            (repeat (first | (refine hd_take (v := ?_) (by rfl) ?_ ?_; rotate_left; (focus (intro W hW; obtain ⟨s0, s1, s2⟩ := hW; go_simp; try with_reducible rfl)); simp only [Act.put, List.setIfInBounds_toArray, List.set_cons_zero, List.set_cons_succ]) | (refine hd_skip (by rfl) ?_; simp only [Act.put, List.setIfInBounds_toArray, List.set_cons_zero, List.set_cons_succ])))
            refine hd_call (fun K hK => ?_)
            go_simp
            refine (HUD.out _ HW1.out.drew).mono ?_
            rintro r w4 ⟨rfl, hb4'⟩
            have hb4 := below_of_drew hb4'
            obtain ⟨hcc4, -⟩ := bcell hb4
            have hlt4 : wr.heap.size < (wr.alloc (.cells #[.string e.u.ty, .string e.u.id, .slice ua un uc, .slice aa an ac] 109)).heap.size := by rw [HSZ.out]; omega
            have hw4 : RowKit.Below wr.heap.size wr w4 := HW1.out.trans (hb4.mono HW1.out.size)
            refine hK _ _ ⟨(hcc4 _ _ hlt4).trans ev0, (hcc4 _ _ hlt4).trans ev1, hw4⟩ ?_
            have e3 := (hcc4 _ 3 hlt4).trans ev2
            clear hK K hcc4 hb4'
            (repeat (first | (refine hd_take (v := ?_) (by rfl) ?_ ?_; rotate_left; (focus (intro W hW; obtain ⟨s0, s1, s2⟩ := hW; go_simp; try with_reducible rfl)); simp only [Act.put, List.setIfInBounds_toArray, List.set_cons_zero, List.set_cons_succ]) | (refine hd_skip (by rfl) ?_; simp only [Act.put, List.setIfInBounds_toArray, List.set_cons_zero, List.set_cons_succ])))
            refine hd_nil ?_
            clear hb4 hlt4
            go_wp2_with fail
            go_ret
            have hfi : x.es.find? (fun e => decide (e.u = udH v)) = some e := by
              have h1 : x.es = x.es.take k ++ e :: x.es.drop (k + 1) := by
                have h2 := (List.getElem?_eq_some_iff.1 HE.out).1
                have h3 := (List.getElem?_eq_some_iff.1 HE.out).2
                rw [← h3, ← List.drop_eq_getElem_cons h2, List.take_append_drop]
              rw [h1, List.find?_append, List.find?_eq_none.2 (fun y hy => by simpa using HK.out y hy)]
              simp only [Option.none_or]
              have := HM.out
              simp only [decide_eq_true_eq] at this
              simp [this]
            have hw5 : RowKit.Below w2.heap.size w2 w4 := hbr.trans (hw4.mono hzr)
            rw [HR.out, hfi]
            have hem := List.mem_of_getElem? HE.out
            refine ⟨fun u hu => ?_, fun h => (by cases h), fun k h => (by cases h), hw5⟩
            have hu' : e.at_ = u := by simpa using hu
            subst hu'
            have hOK := HOK.out.below (HW1.out.mono (by omega))
            have han : an = e.at_.length := HOK.out.an
            subst han
            refine ⟨aa, ac, rfl, ⟨(HVS.out e hem).2.1, HX.out.az e hem, HOK.out.ac.1, HOK.out.ac.2, ?_⟩, HX.out.ai e hem⟩
            exact (HOK.out.at_.below (hw4.mono (by omega))).more (by have := hw4.size; omega)
          | false =>
            rw [hm] at heq heq2
            have HM := Lib.hid hm
            clear hm
            go_wp2_with fail
            refine wp_region_hd (S := RecS wr.heap.size 0 0 ⟨e.u, ua, un, uc, aa, an, ac⟩ ⟨0, 0, ⟨#[]⟩, ⟨#[]⟩⟩ wr) [false, false, false, true, false] (by kernel_rfl) (by kernel_rfl) (fun _ _ _ _ _ h => h) ⟨ev0, ev1, HW1.out.drew⟩ (fun hW' => ?_)
            simp only [List.zip_cons_cons, List.zip_nil_left]
            (repeat (first | (refine hd_take (v := ?_) (by rfl) ?_ ?_; rotate_left; (focus (intro W hW; obtain ⟨s0, s1, s2⟩ := hW; go_simp; try with_reducible rfl)); simp only [Act.put, List.setIfInBounds_toArray, List.set_cons_zero, List.set_cons_succ]) | (refine hd_skip (by rfl) ?_; simp only [Act.put, List.setIfInBounds_toArray, List.set_cons_zero, List.set_cons_succ])))
            refine hd_call (fun K hK => ?_)
            go_simp
            refine (HUD.out _ HW1.out.drew).mono ?_
            rintro r w4 ⟨rfl, hb4'⟩
            have hb4 := below_of_drew hb4'
            obtain ⟨hcc4, -⟩ := bcell hb4
            have hlt4 : wr.heap.size < (wr.alloc (.cells #[.string e.u.ty, .string e.u.id, .slice ua un uc, .slice aa an ac] 109)).heap.size := by rw [HSZ.out]; omega
            have hw4 : RowKit.Below wr.heap.size wr w4 := HW1.out.trans (hb4.mono HW1.out.size)
            refine hK _ _ ⟨(hcc4 _ _ hlt4).trans ev0, (hcc4 _ _ hlt4).trans ev1, hw4⟩ ?_
            clear hK K hcc4 hb4'
            (repeat (first | (refine hd_take (v := ?_) (by rfl) ?_ ?_; rotate_left; (focus (intro W hW; obtain ⟨s0, s1, s2⟩ := hW; go_simp; try with_reducible rfl)); simp only [Act.put, List.setIfInBounds_toArray, List.set_cons_zero, List.set_cons_succ]) | (refine hd_skip (by rfl) ?_; simp only [Act.put, List.setIfInBounds_toArray, List.set_cons_zero, List.set_cons_succ])))
            refine hd_nil ?_
            clear hb4 hlt4
            have HK2 : Hid (∀ e' ∈ x.es.take (k + 1), ¬ e'.u = udH v) := by
              intro e' he'
              rw [List.take_add_one, HE.out] at he'
              rcases List.mem_append.1 he' with h | h
              · exact HK.out e' h
              · simp at h; subst h; have := HM.out; simpa using this
            have hw5 : RowKit.Below w2.heap.size w2 w4 := hbr.trans (hw4.mono hzr)
            go_wp2_with fail
            exact ⟨⟨k + 1, by go_num, by omega, HK2, hw5⟩, by simp [intOf]; omega⟩
        · have HN : Hid (x.es.find? (fun e => decide (e.u = udH v)) = none) := by
            show _ = _
            rw [List.find?_eq_none]
            intro e he
            have := HK.out e (by rw [List.take_of_length_le (by have := HLN.out; omega)]; exact he)
            simpa using this
          go_wp2_with fail
          go_ret
          rw [HR.out, HN.out]
          exact ⟨fun u hu => by (cases hu), fun _ => rfl, fun k h => by (cases h), hbr⟩
    · have t4 : (opH v == 4) = false := by simp [h4]
      have HI4 := Lib.hid (HIS.out 4)
      rw [t4] at HI4
      have HR : Hid (q = .bad 2) := by show _ = _; rw [← HQ.out]; unfold recOf; rw [if_neg h6, if_neg h4]
      clear h6 t6 h4 t4
      go_enter Tryz.func116, Tryz.ntmps116
      go_wp2_with fail
      refine HI6.out.mono ?_
      rintro r w1 ⟨rfl, rfl⟩
      go_wp2_with fail
      refine HI4.out.mono ?_
      rintro r w2 ⟨rfl, rfl⟩
      go_wp2_with fail
      rw [HR.out]
      exact ⟨rfl, fun u hu => by (cases hu), fun h => by (cases h), fun k h => (by injection h with h; rw [← h]; rfl), RowKit.Below.refl _ _⟩
end Go.Proofs.YtpheiojmcafolaaGreatDoor
namespace Go.Proofs.YtpheiojmcafolaaGreatDoor
theorem likeL_star_nil (p : List (Option UInt8)) : likeL (none :: p) [] = likeL p [] := by rw [likeL]
theorem likeL_star_cons (p : List (Option UInt8)) (c : UInt8) (s : List UInt8) : likeL (none :: p) (c :: s) = (likeL p (c :: s) || likeL (none :: p) s) := by rw [likeL]
theorem likeL_lit_cons (b : UInt8) (p : List (Option UInt8)) (c : UInt8) (s : List UInt8) : likeL (some b :: p) (c :: s) = (b == c && likeL p s) := by rw [likeL]
theorem likeL_lit_nil (b : UInt8) (p : List (Option UInt8)) : likeL (some b :: p) [] = false := by rw [likeL]
theorem likeL_nil_cons (c : UInt8) (s : List UInt8) : likeL [] (c :: s) = false := by rw [likeL]
theorem likeL_nil_nil : likeL [] [] = true := by rw [likeL]
theorem star_iff (p : List (Option UInt8)) : ∀ s : List UInt8, likeL (none :: p) s = true ↔ ∃ f, f ≤ s.length ∧ likeL p (s.drop f) = true
  | [] => by
    rw [likeL_star_nil]
    constructor
    · intro h; exact ⟨0, by simp, by simpa using h⟩
    · rintro ⟨f, _, h⟩; simpa using h
  | c :: s => by
    rw [likeL_star_cons, Bool.or_eq_true, star_iff p s]
    constructor
    · rintro (h | ⟨f, h1, h2⟩)
      · exact ⟨0, by simp, by simpa using h⟩
      · exact ⟨f + 1, by simpa using h1, by simpa using h2⟩
    · rintro ⟨f, h1, h2⟩
      cases f with
      | zero => exact .inl (by simpa using h2)
      | succ f => exact .inr ⟨f, by simpa using h1, by simpa using h2⟩
/-- What comes of a later beginning. -/
def altL (p : List (Option UInt8)) (s : List UInt8) : Prop := ∃ f, 0 < f ∧ f ≤ s.length ∧ likeL p (s.drop f) = true
theorem star_alt (p : List (Option UInt8)) (s : List UInt8) : likeL (none :: p) s = true ↔ likeL p s = true ∨ altL p s := by
  rw [star_iff]
  constructor
  · rintro ⟨f, h1, h2⟩
    rcases Nat.eq_zero_or_pos f with h | h
    · subst h; exact .inl (by simpa using h2)
    · exact .inr ⟨f, h, h1, h2⟩
  · rintro (h | ⟨f, _, h1, h2⟩)
    · exact ⟨0, by simp, by simpa using h⟩
    · exact ⟨f, h1, h2⟩
theorem alt_next (p : List (Option UInt8)) (c : UInt8) (s : List UInt8) : altL p (c :: s) ↔ likeL p s = true ∨ altL p s := by
  constructor
  · rintro ⟨f, h0, h1, h2⟩
    obtain ⟨g, rfl⟩ : ∃ g, f = g + 1 := ⟨f - 1, by omega⟩
    rcases Nat.eq_zero_or_pos g with h | h
    · subst h; exact .inl (by simpa using h2)
    · exact .inr ⟨g, h, by simpa using h1, by simpa using h2⟩
  · rintro (h | ⟨f, h0, h1, h2⟩)
    · exact ⟨1, by omega, by simp, by simpa using h⟩
    · exact ⟨f + 1, by omega, by simpa using h1, by simpa using h2⟩
theorem lit_len : ∀ (Q R : List (Option UInt8)) (T : List UInt8), (∀ x ∈ Q, x ≠ none) → likeL (Q ++ R) T = true → Q.length ≤ T.length ∧ likeL R (T.drop Q.length) = true
  | [], R, T, _, h => ⟨by simp, by simpa using h⟩
  | none :: Q, R, T, hq, _ => absurd rfl (hq none (by simp))
  | some b :: Q, R, [], hq, h => by rw [List.cons_append, likeL_lit_nil] at h; cases h
  | some b :: Q, R, c :: T, hq, h => by
    rw [List.cons_append, likeL_lit_cons, Bool.and_eq_true] at h
    obtain ⟨h1, h2⟩ := lit_len Q R T (fun x hx => hq x (by simp [hx])) h.2
    exact ⟨by simpa using h1, by simpa using h2⟩
/-- Behind a star, so far: the pattern behind the star and the text from there on, of which so much has been matched. -/
structure Seg (Pst Pi : List (Option UInt8)) (Sf Sj : List UInt8) : Prop where
  ex : ∃ Q pre, Pst = Q ++ Pi ∧ (∀ x ∈ Q, x ≠ none) ∧ Sf = pre ++ Sj ∧ pre.length = Q.length
theorem Seg.start (p : List (Option UInt8)) (s : List UInt8) : Seg p p s s := ⟨[], [], by simp, by simp, by simp, rfl⟩
theorem Seg.step {Pst Pi : List (Option UInt8)} {Sf Sj : List UInt8} {b c : UInt8} (h : Seg Pst (some b :: Pi) Sf (c :: Sj)) : Seg Pst Pi Sf Sj := by
  obtain ⟨Q, pre, rfl, h2, rfl, h4⟩ := h.ex
  refine ⟨Q ++ [some b], pre ++ [c], by simp, ?_, by simp, by simp [h4]⟩
  intro x hx
  rcases List.mem_append.1 hx with hx | hx
  · exact h2 x hx
  · simp at hx; subst hx; simp
theorem Seg.alt {Pst Pi : List (Option UInt8)} {Sf Sj : List UInt8} (h : Seg Pst Pi Sf Sj) (ha : altL Pst Sf) : ∃ f, 0 < f ∧ f ≤ Sj.length ∧ likeL Pi (Sj.drop f) = true := by
  obtain ⟨Q, pre, rfl, h2, rfl, h4⟩ := h.ex
  obtain ⟨f, h0, h1, h3⟩ := ha
  obtain ⟨g1, g2⟩ := lit_len Q Pi _ h2 h3
  rw [List.length_drop, List.length_append] at g1
  rw [List.length_append] at h1
  refine ⟨f, h0, by omega, ?_⟩
  rw [List.drop_drop, show f + Q.length = pre.length + f from by omega, ← List.drop_drop, List.drop_left' rfl] at g2
  exact g2
/-- A new star: what was open before is within it. -/
theorem like_new {Pst p : List (Option UInt8)} {Sf Sj : List UInt8} (h : Seg Pst (none :: p) Sf Sj) (ha : altL Pst Sf) : likeL p Sj = true ∨ altL p Sj := by
  obtain ⟨f, h0, h1, h2⟩ := h.alt ha
  rw [← star_alt, star_iff]
  obtain ⟨g, h3, h4⟩ := (star_iff p _).1 h2
  rw [List.length_drop] at h3
  exact ⟨f + g, by omega, by rw [← List.drop_drop]; exact h4⟩
/-- At the end of the text nothing is open. -/
theorem like_end {Pst Pi : List (Option UInt8)} {Sf : List UInt8} (h : Seg Pst Pi Sf []) : ¬ altL Pst Sf := by
  intro ha
  obtain ⟨f, h0, h1, _⟩ := h.alt ha
  simp at h1; omega
theorem likeL_stars : ∀ p : List (Option UInt8), likeL p [] = p.all fun x => x == none
  | [] => by rw [likeL_nil_nil]; rfl
  | none :: p => by rw [likeL_star_nil, likeL_stars p]; simp
  | some b :: p => by rw [likeL_lit_nil]; simp
end Go.Proofs.YtpheiojmcafolaaGreatDoor
