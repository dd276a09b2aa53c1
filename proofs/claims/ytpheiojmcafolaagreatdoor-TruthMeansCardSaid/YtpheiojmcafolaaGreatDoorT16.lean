/-
  THE WALKS: (*eval.evaluation).next: what it owes; the leaves, names.
-/
import Derived.Test.YtpheiojmcafolaaGreatDoorT15
import Derived.Test.YtpheiojmcafolaaGreatDoorT02
namespace Go.Proofs.YtpheiojmcafolaaGreatDoor
set_option maxRecDepth 100000
open Go.RowKit Go.Sort
/-- The blocks that a value does not lie in: the evaluation's own, and what was made since. -/
def gx (xb : Nat) (w : World) (b : Nat) : Prop := xb ≤ b ∧ b < w.heap.size
/-- What 'next' hands back. -/
def NextPost (x : Evl) (xb j : Nat) (q : Rs (List Nd)) (w : World) (r : Ending) (w' : World) : Prop :=
  (∀ v, q = .ok v → ∃ A c, r = .returned (.slice A v.length c) ∧ v.length ≤ c ∧ c ≤ 9223372036854775807 ∧ NdOff (gx xb w) w' w'.heap.size A v ∧ Blk w' xb 99 (x.cells j)) ∧ (∀ k, q = .bad k → r = .panicked (noV k)) ∧ Only w.heap.size xb w w'
def NextOk (x : Evl) (xs : List Nd) : Prop := ∀ (i xb : Nat) (rest : List Nd) (w : World), x.e.drop i = xs ++ rest → EvIn x xb w → Blk w xb 99 (x.cells i) →
  Calls Tryz.prog 52 #[.pointer (some ⟨xb, 0, none⟩)] w (NextPost x xb (i + xs.length) (evX x.es x.q xs) w)
theorem EvIn.only {x : Evl} {xb : Nat} {w w' : World} {B : Nat} (h : EvIn x xb w) (ho : Only B xb w w') (hB : xb ≤ B) : EvIn x xb w' := h.keep (ho.below hB (Nat.le_refl _))
/-- What the values are. -/
structure ValF (v : List Nd) : Prop where
  ok : valErr v = 0
  nd : NdOk v
  ni : NdI v
theorem val_facts {x : Evl} {xb : Nat} {w : World} (hx : EvIn x xb w) {xs : List Nd} (hex : Ex (.one false) xs) (hk : NdOk xs) (hi : NdI xs) {v : List Nd} (h : evX x.es x.q xs = .ok v) : ValF v := by
  obtain ⟨-, hvs⟩ := ents_vals hx.ok
  have hne : ∀ v, valErr v = 0 → v ≠ [] := fun v hv => by obtain ⟨y, r, e, _⟩ := ((val_iff v).1 hv).2.ne; rw [e]; simp
  have hctx : valErr x.q.ctx = 0 := by
    have := hx.qv
    unfold rqErr at this
    by_cases h1 : udErr x.q.who = 0 <;> by_cases h2 : udErr x.q.act = 0 <;> by_cases h3 : udErr x.q.what = 0 <;> by_cases h4 : valErr x.q.ctx = 0 <;> simp_all
  refine ⟨evE_vx hx.qv xs.length xs hex h, ?_, ?_⟩
  · exact (evE_good (es := x.es) (q := x.q) ⟨fun e he => ⟨hne _ (hvs e he).2.1, hx.az e he⟩, hx.uz, hx.pz⟩ ⟨hx.qz.1, hx.qz.2.1, hx.qz.2.2, hne _ hctx, hx.qk⟩ xs.length xs hk h).2
  · exact (evE_goodI (es := x.es) (q := x.q) ⟨fun e he => ⟨rfl, hx.ai e he⟩⟩ ⟨⟨rfl, hx.qi⟩⟩ xs.length xs hi h).2
/-- The node at hand. -/
structure NxS (xb i be oe : Nat) (x : Evl) (n : Nd) (w0 W : World) : Prop where
  s0 : W.cell? ⟨xb, 8, none⟩ = some (.slice (some ⟨be, oe, none⟩) x.e.length x.eca)
  s1 : W.cell? ⟨xb, 9, none⟩ = some (.int .i64 i)
  s2 : W.cell? ⟨be, oe + i * 4, none⟩ = some (.int .i64 n.op)
  s3 : W.cell? ⟨be, oe + i * 4 + 1, none⟩ = some (.int .i64 n.n)
  s4 : W.cell? ⟨be, oe + i * 4 + 2, none⟩ = some (.string n.s)
  s5 : W.cell? ⟨be, oe + i * 4 + 3, none⟩ = some (.string n.t)
theorem NxS.alloc {xb i be oe : Nat} {x : Evl} {n : Nd} {w0 W : World} (h : NxS xb i be oe x n w0 W.drew) (hx : xb < W.heap.size) (hb : be < W.heap.size) (o : Obj) : NxS xb i be oe x n w0 ((W.alloc o).drew) := by
  have a : ∀ {b o' : Nat} {v : Value}, b < W.heap.size → W.cell? ⟨b, o', none⟩ = some v → (W.alloc o).drew.cell? ⟨b, o', none⟩ = some v := fun hb h => by
    rw [← h]; exact World.cell?_alloc_past (w := W) o _ _ hb
  exact ⟨a hx h.s0, a hx h.s1, a hb h.s2, a hb h.s3, a hb h.s4, a hb h.s5⟩
theorem node_at (b o n c i : Nat) (h : i < n) (W : World) : (Instr.indexAt 22 (.slice (some ⟨b, o, none⟩) n c) (.int .i64 (i : Int))).run Tryz.prog W = .ok (.pointer (some ⟨b, o + i * 4, none⟩)) W := by
  have h0 : (i : Int) < (n : Int) := by omega
  have h1 : 0 ≤ (i : Int) := by omega
  go_simp
theorem nd_new (W : World) (n : Nd) : NdAt ((W.alloc (.cells #[.int .i64 n.op, .int .i64 n.n, .string n.s, .string n.t] 37)).drew) W.heap.size 0 n :=
  have h : NdAt (W.alloc (.cells #[.int .i64 n.op, .int .i64 n.n, .string n.s, .string n.t] 37)) W.heap.size 0 n := ⟨by rw [World.cell?_alloc_new]; rfl, by rw [World.cell?_alloc_new]; rfl, by rw [World.cell?_alloc_new]; rfl, by rw [World.cell?_alloc_new]; rfl⟩
  ⟨h.c0, h.c1, h.c2, h.c3⟩
theorem Evl.step {x : Evl} {w : World} {xb i : Nat} {T : TypeId} (h : Blk w xb T (x.cells i)) : Blk (w.setCell ⟨xb, 9, none⟩ (.int .i64 ((i : Int) + 1))) xb T (x.cells (i + 1)) := h.set 9 _
/-- The node taken, the place moved on. -/
structure NxI (x : Evl) (xb j : Nat) (n : Nd) (w W : World) : Prop where
  blk : Blk W xb 99 (x.cells j)
  ev : EvIn x xb W
  nd : NdAt W w.heap.size 0 n
  only : Only w.heap.size xb w W
  sz : w.heap.size < W.heap.size
def nw (w : World) (xb i : Nat) (n : Nd) : World := (w.setCell ⟨xb, 9, none⟩ (.int .i64 ((i : Int) + 1))).alloc (.cells #[.int .i64 n.op, .int .i64 n.n, .string n.s, .string n.t] 37)
theorem NdAt.drew {W : World} {b o : Nat} {n : Nd} (h : NdAt W b o n) : NdAt W.drew b o n := ⟨h.c0, h.c1, h.c2, h.c3⟩
theorem EvIn.drew {x : Evl} {B : Nat} {W : World} (h : EvIn x B W) : EvIn x B W.drew := h.keep (RowKit.Below.refl _ _).drew
theorem NxI.drew {x : Evl} {xb i : Nat} {n : Nd} {w W : World} (h : NxI x xb i n w W) : NxI x xb i n w W.drew := ⟨h.blk.drew, h.ev.drew, h.nd.drew, h.only.drew, h.sz⟩
theorem nw_size (w : World) (xb i : Nat) (n : Nd) : (nw w xb i n).heap.size = w.heap.size + 1 := by simp [nw]
theorem nx_start {x : Evl} {xb i : Nat} {n : Nd} {w : World} (hx : EvIn x xb w) (hB : Blk w xb 99 (x.cells i)) : NxI x xb (i + 1) n w (nw w xb i n) := by
  have hxb := hB.lt
  have h1 : Only w.heap.size xb w (w.setCell ⟨xb, 9, none⟩ (.int .i64 ((i : Int) + 1))) := (Only.refl _ _ w).setCell (p := ⟨xb, 9, none⟩) (Or.inl rfl) (.int .i64 ((i : Int) + 1))
  have hsz : (w.setCell ⟨xb, 9, none⟩ (.int .i64 ((i : Int) + 1))).heap.size = w.heap.size := by simp
  have h2 : Only w.heap.size xb w (nw w xb i n) := h1.alloc (Nat.le_of_eq hsz.symm) _
  have hn := nd_new (w.setCell ⟨xb, 9, none⟩ (.int .i64 ((i : Int) + 1))) n
  rw [hsz] at hn
  exact ⟨(Evl.step hB).alloc _, hx.keep (h2.below (Nat.le_of_lt hxb) (Nat.le_refl _)), ⟨hn.c0, hn.c1, hn.c2, hn.c3⟩, h2, by simp [nw]⟩
theorem NdOff.up {xb : Nat} {w W w' : World} {A : Option Addr} {v : List Nd} (h : NdOff (gx xb W) w' w'.heap.size A v) (hz : w.heap.size ≤ W.heap.size) : NdOff (gx xb w) w' w'.heap.size A v := fun hne => by
  obtain ⟨b, o, e1, e2, e3, e4⟩ := h hne
  exact ⟨b, o, e1, e2, by unfold gx at e3 ⊢; omega, e4⟩
theorem NdOff.past {xb B : Nat} {w w1 w' : World} {A : Option Addr} {v : List Nd} (h : NdOff (gx xb w) w1 w1.heap.size A v) (ho : Only B xb w1 w') (hB : w1.heap.size ≤ B) (hx : xb < w.heap.size) : NdOff (gx xb w) w' w'.heap.size A v :=
  h.keep (fun p h1 h2 => ho.cell (Nat.lt_of_lt_of_le h1 hB) (fun e => h2 ⟨by omega, by omega⟩)) ho.size
theorem NextPost.ok {x : Evl} {xb j : Nat} {v : List Nd} {w w' : World} {A : Option Addr} {c : Nat} (h1 : v.length ≤ c) (h2 : c ≤ 9223372036854775807) (h3 : NdOff (gx xb w) w' w'.heap.size A v) (h4 : Blk w' xb 99 (x.cells j)) (h5 : Only w.heap.size xb w w') : NextPost x xb j (.ok v) w (.returned (.slice A v.length c)) w' :=
  ⟨fun v' e => by injection e with e; subst e; exact ⟨A, c, rfl, h1, h2, h3, h4⟩, fun k e => (nomatch e), h5⟩
theorem NextPost.bad {x : Evl} {xb j : Nat} {k : Int} {w w' : World} (h5 : Only w.heap.size xb w w') : NextPost x xb j (.bad k) w (.panicked (noV k)) w' :=
  ⟨fun v' e => (nomatch e), fun k' e => by injection e with e; subst e; rfl, h5⟩
theorem leaf_end {x : Evl} {xb i : Nat} {n : Nd} {w : World} (h : NxI x xb (i + 1) n w (nw w xb i n)) (_hxb : xb < w.heap.size) : NextPost x xb (i + 1) (.ok [n]) w (.returned (.slice (some ⟨w.heap.size + 1, 0, none⟩) 1 1)) ((nw w xb i n).alloc (.cells #[.int .i64 n.op, .int .i64 n.n, .string n.s, .string n.t] 37)).drew := by
  have hn := nd_new (nw w xb i n) n
  rw [nw_size] at hn
  refine NextPost.ok (v := [n]) (by simp) (by omega) (fun _ => ⟨w.heap.size + 1, 0, rfl, by simp [nw], by unfold gx; omega, fun k y hk => ?_⟩) (h.blk.alloc _).drew (h.only.alloc (Nat.le_of_lt h.sz) _).drew
  obtain rfl : k = 0 := by
    have := (List.getElem?_eq_some_iff.1 hk).1; simp at this; exact this
  simp at hk; subst hk
  exact hn
set_option maxHeartbeats 6400000 in
theorem next_1 (x : Evl) (n : Nd) (ho : n.op = 1) : NextOk x [n] := by
  intro i xb rest w hdr hx hB
  have hn : x.e[i]? = some n := by
    have := congrArg (fun l => l[0]?) hdr
    simpa [List.getElem?_drop] using this
  have hil : i < x.e.length := (List.getElem?_eq_some_iff.1 hn).1
  have hxb := hB.lt
  obtain ⟨be, oe, hea, hbe, hcs⟩ := hx.ex.at_ hil
  obtain ⟨n0, n1, n2, n3⟩ := hcs i n hn
  have hS0 : NxS xb i be oe x n w w.drew := ⟨by rw [← hea]; exact hB.cell 8, hB.cell 9, n0, n1, n2, n3⟩
  have hbw : be < w.heap.size := Nat.lt_trans hbe hxb
  have HS0 := Lib.hid (hS0.alloc hxb hbw)
  have HS1 := Lib.hid hS0
  have hia := node_at be oe x.e.length x.eca i hil
  have HDR := Lib.hid hdr
  have hni := nx_start (n := n) hx hB
  have HNI := Lib.hid hni
  have h9 : w.cell? ⟨xb, 9, none⟩ = some (.int .i64 i) := hS0.s1
  have hf9 : w.frozen? ⟨xb, 9, none⟩ = false := hB.frozen 9
  have hi1 : IntKind.wrap .i64 ((i : Int) + 1) = (i : Int) + 1 := by
    have := hx.el
    exact IntWalk.i64_in _ (by omega)
  clear hcs n0 n1 n2 n3 hea hn hx hB hdr hS0 hni
  have t1 : (n.op == 1) = true := by simp [ho]
  have t2 : (n.op == 2) = false := by simp [ho]
  have t3 : (n.op == 3) = false := by simp [ho]
  have t4 : (n.op == 4) = false := by simp [ho]
  have t8 : (n.op == 8) = false := by simp [ho]
  have t11 : (n.op == 11) = false := by simp [ho]
  have t12 : (n.op == 12) = false := by simp [ho]
  have t13 : (n.op == 13) = false := by simp [ho]
  have t5 : (n.op == 5) = false := by simp [ho]
  have t6 : (n.op == 6) = false := by simp [ho]
  have t9 : (n.op == 9) = false := by simp [ho]
  have t10 : (n.op == 10) = false := by simp [ho]
  have t21 : (n.op == 21) = false := by simp [ho]
  have t22 : (n.op == 22) = false := by simp [ho]
  have t23 : (n.op == 23) = false := by simp [ho]
  have t24 : (n.op == 24) = false := by simp [ho]
  rw [evX_leaf x.es x.q (by omega)]
  clear ho
  go_enter Tryz.func52, Tryz.ntmps52
  go_wp2_with fail
  refine wp_region_ord (S := NxS xb i be oe x n w) [(0, false), (1, false), (2, false), (3, false), (4, false), (5, false), (6, false), (7, false), (8, false), (9, false), (10, true), (11, true)] (by kernel_rfl) (by kernel_rfl) (fun _ _ _ _ _ h => h) HS1.out (fun hW' => ?_)
  simp only [ordOps, List.filterMap_cons, List.filterMap_nil, List.getElem?_cons_zero, List.getElem?_cons_succ, Option.map_some]
  (repeat (first | (refine hd_take (v := ?_) (by rfl) ?_ ?_; rotate_left; (focus (intro W hW; obtain ⟨s0, s1, s2, s3, s4, s5⟩ := hW; go_simp; try with_reducible rfl)); simp only [Act.put, List.setIfInBounds_toArray, List.set_cons_zero, List.set_cons_succ]) | (refine hd_skip (by rfl) ?_; simp only [Act.put, List.setIfInBounds_toArray, List.set_cons_zero, List.set_cons_succ])))
  clear hW'
  refine hd_call (fun K hK => ?_)
  go_simp
  refine hK _ _ (HS0.out _) ?_
  clear hK K
  refine hd_call (fun K hK => ?_)
  go_simp
  refine hK _ _ (HS0.out _) ?_
  clear hK K
  refine hd_nil ?_
  go_wp2_with fail
  go_ret
  exact leaf_end HNI.out hxb
set_option maxHeartbeats 6400000 in
theorem next_2 (x : Evl) (n : Nd) (ho : n.op = 2) : NextOk x [n] := by
  intro i xb rest w hdr hx hB
  have hn : x.e[i]? = some n := by
    have := congrArg (fun l => l[0]?) hdr
    simpa [List.getElem?_drop] using this
  have hil : i < x.e.length := (List.getElem?_eq_some_iff.1 hn).1
  have hxb := hB.lt
  obtain ⟨be, oe, hea, hbe, hcs⟩ := hx.ex.at_ hil
  obtain ⟨n0, n1, n2, n3⟩ := hcs i n hn
  have hS0 : NxS xb i be oe x n w w.drew := ⟨by rw [← hea]; exact hB.cell 8, hB.cell 9, n0, n1, n2, n3⟩
  have hbw : be < w.heap.size := Nat.lt_trans hbe hxb
  have HS0 := Lib.hid (hS0.alloc hxb hbw)
  have HS1 := Lib.hid hS0
  have hia := node_at be oe x.e.length x.eca i hil
  have HDR := Lib.hid hdr
  have hni := nx_start (n := n) hx hB
  have HNI := Lib.hid hni
  have h9 : w.cell? ⟨xb, 9, none⟩ = some (.int .i64 i) := hS0.s1
  have hf9 : w.frozen? ⟨xb, 9, none⟩ = false := hB.frozen 9
  have hi1 : IntKind.wrap .i64 ((i : Int) + 1) = (i : Int) + 1 := by
    have := hx.el
    exact IntWalk.i64_in _ (by omega)
  clear hcs n0 n1 n2 n3 hea hn hx hB hdr hS0 hni
  have t1 : (n.op == 1) = false := by simp [ho]
  have t2 : (n.op == 2) = true := by simp [ho]
  have t3 : (n.op == 3) = false := by simp [ho]
  have t4 : (n.op == 4) = false := by simp [ho]
  have t8 : (n.op == 8) = false := by simp [ho]
  have t11 : (n.op == 11) = false := by simp [ho]
  have t12 : (n.op == 12) = false := by simp [ho]
  have t13 : (n.op == 13) = false := by simp [ho]
  have t5 : (n.op == 5) = false := by simp [ho]
  have t6 : (n.op == 6) = false := by simp [ho]
  have t9 : (n.op == 9) = false := by simp [ho]
  have t10 : (n.op == 10) = false := by simp [ho]
  have t21 : (n.op == 21) = false := by simp [ho]
  have t22 : (n.op == 22) = false := by simp [ho]
  have t23 : (n.op == 23) = false := by simp [ho]
  have t24 : (n.op == 24) = false := by simp [ho]
  rw [evX_leaf x.es x.q (by omega)]
  clear ho
  go_enter Tryz.func52, Tryz.ntmps52
  go_wp2_with fail
  refine wp_region_ord (S := NxS xb i be oe x n w) [(0, false), (1, false), (2, false), (3, false), (4, false), (5, false), (6, false), (7, false), (8, false), (9, false), (10, true), (11, true)] (by kernel_rfl) (by kernel_rfl) (fun _ _ _ _ _ h => h) HS1.out (fun hW' => ?_)
  simp only [ordOps, List.filterMap_cons, List.filterMap_nil, List.getElem?_cons_zero, List.getElem?_cons_succ, Option.map_some]
  (repeat (first | (refine hd_take (v := ?_) (by rfl) ?_ ?_; rotate_left; (focus (intro W hW; obtain ⟨s0, s1, s2, s3, s4, s5⟩ := hW; go_simp; try with_reducible rfl)); simp only [Act.put, List.setIfInBounds_toArray, List.set_cons_zero, List.set_cons_succ]) | (refine hd_skip (by rfl) ?_; simp only [Act.put, List.setIfInBounds_toArray, List.set_cons_zero, List.set_cons_succ])))
  clear hW'
  refine hd_call (fun K hK => ?_)
  go_simp
  refine hK _ _ (HS0.out _) ?_
  clear hK K
  refine hd_call (fun K hK => ?_)
  go_simp
  refine hK _ _ (HS0.out _) ?_
  clear hK K
  refine hd_nil ?_
  go_wp2_with fail
  go_ret
  exact leaf_end HNI.out hxb
set_option maxHeartbeats 6400000 in
theorem next_3 (x : Evl) (n : Nd) (ho : n.op = 3) : NextOk x [n] := by
  intro i xb rest w hdr hx hB
  have hn : x.e[i]? = some n := by
    have := congrArg (fun l => l[0]?) hdr
    simpa [List.getElem?_drop] using this
  have hil : i < x.e.length := (List.getElem?_eq_some_iff.1 hn).1
  have hxb := hB.lt
  obtain ⟨be, oe, hea, hbe, hcs⟩ := hx.ex.at_ hil
  obtain ⟨n0, n1, n2, n3⟩ := hcs i n hn
  have hS0 : NxS xb i be oe x n w w.drew := ⟨by rw [← hea]; exact hB.cell 8, hB.cell 9, n0, n1, n2, n3⟩
  have hbw : be < w.heap.size := Nat.lt_trans hbe hxb
  have HS0 := Lib.hid (hS0.alloc hxb hbw)
  have HS1 := Lib.hid hS0
  have hia := node_at be oe x.e.length x.eca i hil
  have HDR := Lib.hid hdr
  have hni := nx_start (n := n) hx hB
  have HNI := Lib.hid hni
  have h9 : w.cell? ⟨xb, 9, none⟩ = some (.int .i64 i) := hS0.s1
  have hf9 : w.frozen? ⟨xb, 9, none⟩ = false := hB.frozen 9
  have hi1 : IntKind.wrap .i64 ((i : Int) + 1) = (i : Int) + 1 := by
    have := hx.el
    exact IntWalk.i64_in _ (by omega)
  clear hcs n0 n1 n2 n3 hea hn hx hB hdr hS0 hni
  have t1 : (n.op == 1) = false := by simp [ho]
  have t2 : (n.op == 2) = false := by simp [ho]
  have t3 : (n.op == 3) = true := by simp [ho]
  have t4 : (n.op == 4) = false := by simp [ho]
  have t8 : (n.op == 8) = false := by simp [ho]
  have t11 : (n.op == 11) = false := by simp [ho]
  have t12 : (n.op == 12) = false := by simp [ho]
  have t13 : (n.op == 13) = false := by simp [ho]
  have t5 : (n.op == 5) = false := by simp [ho]
  have t6 : (n.op == 6) = false := by simp [ho]
  have t9 : (n.op == 9) = false := by simp [ho]
  have t10 : (n.op == 10) = false := by simp [ho]
  have t21 : (n.op == 21) = false := by simp [ho]
  have t22 : (n.op == 22) = false := by simp [ho]
  have t23 : (n.op == 23) = false := by simp [ho]
  have t24 : (n.op == 24) = false := by simp [ho]
  rw [evX_leaf x.es x.q (by omega)]
  clear ho
  go_enter Tryz.func52, Tryz.ntmps52
  go_wp2_with fail
  refine wp_region_ord (S := NxS xb i be oe x n w) [(0, false), (1, false), (2, false), (3, false), (4, false), (5, false), (6, false), (7, false), (8, false), (9, false), (10, true), (11, true)] (by kernel_rfl) (by kernel_rfl) (fun _ _ _ _ _ h => h) HS1.out (fun hW' => ?_)
  simp only [ordOps, List.filterMap_cons, List.filterMap_nil, List.getElem?_cons_zero, List.getElem?_cons_succ, Option.map_some]
  (repeat (first | (refine hd_take (v := ?_) (by rfl) ?_ ?_; rotate_left; (focus (intro W hW; obtain ⟨s0, s1, s2, s3, s4, s5⟩ := hW; go_simp; try with_reducible rfl)); simp only [Act.put, List.setIfInBounds_toArray, List.set_cons_zero, List.set_cons_succ]) | (refine hd_skip (by rfl) ?_; simp only [Act.put, List.setIfInBounds_toArray, List.set_cons_zero, List.set_cons_succ])))
  clear hW'
  refine hd_call (fun K hK => ?_)
  go_simp
  refine hK _ _ (HS0.out _) ?_
  clear hK K
  refine hd_call (fun K hK => ?_)
  go_simp
  refine hK _ _ (HS0.out _) ?_
  clear hK K
  refine hd_nil ?_
  go_wp2_with fail
  go_ret
  exact leaf_end HNI.out hxb
set_option maxHeartbeats 6400000 in
theorem next_4 (x : Evl) (n : Nd) (ho : n.op = 4) : NextOk x [n] := by
  intro i xb rest w hdr hx hB
  have hn : x.e[i]? = some n := by
    have := congrArg (fun l => l[0]?) hdr
    simpa [List.getElem?_drop] using this
  have hil : i < x.e.length := (List.getElem?_eq_some_iff.1 hn).1
  have hxb := hB.lt
  obtain ⟨be, oe, hea, hbe, hcs⟩ := hx.ex.at_ hil
  obtain ⟨n0, n1, n2, n3⟩ := hcs i n hn
  have hS0 : NxS xb i be oe x n w w.drew := ⟨by rw [← hea]; exact hB.cell 8, hB.cell 9, n0, n1, n2, n3⟩
  have hbw : be < w.heap.size := Nat.lt_trans hbe hxb
  have HS0 := Lib.hid (hS0.alloc hxb hbw)
  have HS1 := Lib.hid hS0
  have hia := node_at be oe x.e.length x.eca i hil
  have HDR := Lib.hid hdr
  have hni := nx_start (n := n) hx hB
  have HNI := Lib.hid hni
  have h9 : w.cell? ⟨xb, 9, none⟩ = some (.int .i64 i) := hS0.s1
  have hf9 : w.frozen? ⟨xb, 9, none⟩ = false := hB.frozen 9
  have hi1 : IntKind.wrap .i64 ((i : Int) + 1) = (i : Int) + 1 := by
    have := hx.el
    exact IntWalk.i64_in _ (by omega)
  clear hcs n0 n1 n2 n3 hea hn hx hB hdr hS0 hni
  have t1 : (n.op == 1) = false := by simp [ho]
  have t2 : (n.op == 2) = false := by simp [ho]
  have t3 : (n.op == 3) = false := by simp [ho]
  have t4 : (n.op == 4) = true := by simp [ho]
  have t8 : (n.op == 8) = false := by simp [ho]
  have t11 : (n.op == 11) = false := by simp [ho]
  have t12 : (n.op == 12) = false := by simp [ho]
  have t13 : (n.op == 13) = false := by simp [ho]
  have t5 : (n.op == 5) = false := by simp [ho]
  have t6 : (n.op == 6) = false := by simp [ho]
  have t9 : (n.op == 9) = false := by simp [ho]
  have t10 : (n.op == 10) = false := by simp [ho]
  have t21 : (n.op == 21) = false := by simp [ho]
  have t22 : (n.op == 22) = false := by simp [ho]
  have t23 : (n.op == 23) = false := by simp [ho]
  have t24 : (n.op == 24) = false := by simp [ho]
  rw [evX_leaf x.es x.q (by omega)]
  clear ho
  go_enter Tryz.func52, Tryz.ntmps52
  go_wp2_with fail
  refine wp_region_ord (S := NxS xb i be oe x n w) [(0, false), (1, false), (2, false), (3, false), (4, false), (5, false), (6, false), (7, false), (8, false), (9, false), (10, true), (11, true)] (by kernel_rfl) (by kernel_rfl) (fun _ _ _ _ _ h => h) HS1.out (fun hW' => ?_)
  simp only [ordOps, List.filterMap_cons, List.filterMap_nil, List.getElem?_cons_zero, List.getElem?_cons_succ, Option.map_some]
  (repeat (first | (refine hd_take (v := ?_) (by rfl) ?_ ?_; rotate_left; (focus (intro W hW; obtain ⟨s0, s1, s2, s3, s4, s5⟩ := hW; go_simp; try with_reducible rfl)); simp only [Act.put, List.setIfInBounds_toArray, List.set_cons_zero, List.set_cons_succ]) | (refine hd_skip (by rfl) ?_; simp only [Act.put, List.setIfInBounds_toArray, List.set_cons_zero, List.set_cons_succ])))
  clear hW'
  refine hd_call (fun K hK => ?_)
  go_simp
  refine hK _ _ (HS0.out _) ?_
  clear hK K
  refine hd_call (fun K hK => ?_)
  go_simp
  refine hK _ _ (HS0.out _) ?_
  clear hK K
  refine hd_nil ?_
  go_wp2_with fail
  go_ret
  exact leaf_end HNI.out hxb
end Go.Proofs.YtpheiojmcafolaaGreatDoor
