/-
 THE WALKS: (*eval.evaluation).next: what it owes; the leaves, names.
 THE WALKS: (*eval.evaluation).next at a node of one piece, of two pieces.
 THE WALKS: (*eval.evaluation).skip, either, choice, named.
 THE WALKS: (*eval.evaluation).next at a name; either, choice.
 THE WALKS: eval.collected.
-/
import Derived.Test.YtpheiojmcafolaaGreatDoorSy18
import Derived.Test.YtpheiojmcafolaaGreatDoorSy19
import Derived.Test.YtpheiojmcafolaaGreatDoorSy10
import Derived.Test.YtpheiojmcafolaaGreatDoorSy11
import Derived.Test.YtpheiojmcafolaaGreatDoorSy02
namespace Go.Proofs.YtpheiojmcafolaaGreatDoor
set_option maxRecDepth 100000
open Go.RowKit Go.Sort
def gx (xb : Nat) (w : World) (b : Nat) : Prop := xb ≤ b ∧ b < w.heap.size
def NextPost (x : Evl) (xb j : Nat) (q : Rs (List Nd)) (w : World) (r : Ending) (w' : World) : Prop :=
 (∀ v, q = .ok v → ∃ A c, r = .returned (.slice A v.length c) ∧ v.length ≤ c ∧ c ≤ 9223372036854775807 ∧ NdOff (gx xb w) w' w'.heap.size A v ∧ Blk w' xb 99 (x.cells j)) ∧ (∀ k, q = .bad k → r = .panicked (noV k)) ∧ Only w.heap.size xb w w'
def NextOk (x : Evl) (xs : List Nd) : Prop := ∀ (i xb : Nat) (rest : List Nd) (w : World), x.e.drop i = xs ++ rest → EvIn x xb w → Blk w xb 99 (x.cells i) →
 Calls Tryz.prog 52 #[.pointer (some ⟨xb, 0, none⟩)] w (NextPost x xb (i + xs.length) (evX x.es x.q xs) w)
structure ValF (v : List Nd) : Prop where
 ok : valErr v = 0
 nd : NdOk v
 ni : NdI v
theorem val_facts {x : Evl} {xb : Nat} {w : World} (hx : EvIn x xb w) {xs : List Nd} (hex : Ex (.one false) xs) (hk : NdOk xs) (hi : NdI xs) {v : List Nd} (h : evX x.es x.q xs = .ok v) : ValF v := by
 obtain ⟨-, hvs⟩ := ents_vals hx.ok;have hne : ∀ v, valErr v = 0 → v ≠ [] := fun v hv => by obtain ⟨y, r, e, _⟩ := ((val_iff v).1 hv).2.ne; rw [e]; simp
 have hctx : valErr x.q.ctx = 0 := by
  have := hx.qv;unfold rqErr at this;by_cases h1 : udErr x.q.who = 0 <;> by_cases h2 : udErr x.q.act = 0 <;> by_cases h3 : udErr x.q.what = 0 <;> by_cases h4 : valErr x.q.ctx = 0 <;> simp_all
 refine ⟨evE_vx hx.qv xs.length xs hex h, ?_, ?_⟩
 · exact (evE_good (es := x.es) (q := x.q) ⟨fun e he => ⟨hne _ (hvs e he).2.1, hx.az e he⟩, hx.uz, hx.pz⟩ ⟨hx.qz.1, hx.qz.2.1, hx.qz.2.2, hne _ hctx, hx.qk⟩ xs.length xs hk h).2
 · exact (evE_goodI (es := x.es) (q := x.q) ⟨fun e he => ⟨rfl, hx.ai e he⟩⟩ ⟨⟨rfl, hx.qi⟩⟩ xs.length xs hi h).2
structure NxS (xb i be oe : Nat) (x : Evl) (n : Nd) (w0 W : World) : Prop where
 s0 : W.cell? ⟨xb, 8, none⟩ = some (.slice (some ⟨be, oe, none⟩) x.e.length x.eca)
 s1 : W.cell? ⟨xb, 9, none⟩ = some (.int .i64 i)
 s2 : W.cell? ⟨be, oe + i * 4, none⟩ = some (.int .i64 n.op)
 s3 : W.cell? ⟨be, oe + i * 4 + 1, none⟩ = some (.int .i64 n.n)
 s4 : W.cell? ⟨be, oe + i * 4 + 2, none⟩ = some (.string n.s)
 s5 : W.cell? ⟨be, oe + i * 4 + 3, none⟩ = some (.string n.t)
theorem NxS.alloc {xb i be oe : Nat} {x : Evl} {n : Nd} {w0 W : World} (h : NxS xb i be oe x n w0 W.drew) (hx : xb < W.heap.size) (hb : be < W.heap.size) (o : Obj) : NxS xb i be oe x n w0 ((W.alloc o).drew) := by
 have a : ∀ {b o' : Nat} {v : Value}, b < W.heap.size → W.cell? ⟨b, o', none⟩ = some v → (W.alloc o).drew.cell? ⟨b, o', none⟩ = some v := fun hb h => by
  rw [← h]; exact World.cell?_alloc_past (w := W) o _ _ hb
 exact ⟨a hx h.s0, a hx h.s1, a hb h.s2, a hb h.s3, a hb h.s4, a hb h.s5⟩
theorem node_at (b o n c i : Nat) (h : i < n) (W : World) : (Instr.indexAt 22 (.slice (some ⟨b, o, none⟩) n c) (.int .i64 (i : Int))).run Tryz.prog W = .ok (.pointer (some ⟨b, o + i * 4, none⟩)) W := by
 have h0 : (i : Int) < (n : Int) := by omega
 have h1 : 0 ≤ (i : Int) := by omega
 go_simp
theorem nd_new (W : World) (n : Nd) : NdAt ((W.alloc (.cells #[.int .i64 n.op, .int .i64 n.n, .string n.s, .string n.t] 37)).drew) W.heap.size 0 n :=
 have h : NdAt (W.alloc (.cells #[.int .i64 n.op, .int .i64 n.n, .string n.s, .string n.t] 37)) W.heap.size 0 n := ⟨by rw [World.cell?_alloc_new]; rfl, by rw [World.cell?_alloc_new]; rfl, by rw [World.cell?_alloc_new]; rfl, by rw [World.cell?_alloc_new]; rfl⟩;⟨h.c0, h.c1, h.c2, h.c3⟩
theorem Evl.step {x : Evl} {w : World} {xb i : Nat} {T : TypeId} (h : Blk w xb T (x.cells i)) : Blk (w.setCell ⟨xb, 9, none⟩ (.int .i64 ((i : Int) + 1))) xb T (x.cells (i + 1)) := h.set 9 _
structure NxI (x : Evl) (xb j : Nat) (n : Nd) (w W : World) : Prop where
 blk : Blk W xb 99 (x.cells j)
 ev : EvIn x xb W
 nd : NdAt W w.heap.size 0 n
 only : Only w.heap.size xb w W
 sz : w.heap.size < W.heap.size
def nw (w : World) (xb i : Nat) (n : Nd) : World := (w.setCell ⟨xb, 9, none⟩ (.int .i64 ((i : Int) + 1))).alloc (.cells #[.int .i64 n.op, .int .i64 n.n, .string n.s, .string n.t] 37)
theorem NdAt.drew {W : World} {b o : Nat} {n : Nd} (h : NdAt W b o n) : NdAt W.drew b o n := ⟨h.c0, h.c1, h.c2, h.c3⟩
theorem EvIn.drew {x : Evl} {B : Nat} {W : World} (h : EvIn x B W) : EvIn x B W.drew := h.keep (RowKit.Below.refl _ _).drew
theorem NxI.drew {x : Evl} {xb i : Nat} {n : Nd} {w W : World} (h : NxI x xb i n w W) : NxI x xb i n w W.drew := ⟨h.blk.drew, h.ev.drew, h.nd.drew, h.only.drew, h.sz⟩
theorem nw_size (w : World) (xb i : Nat) (n : Nd) : (nw w xb i n).heap.size = w.heap.size + 1 := by simp [nw]
theorem nx_start {x : Evl} {xb i : Nat} {n : Nd} {w : World} (hx : EvIn x xb w) (hB : Blk w xb 99 (x.cells i)) : NxI x xb (i + 1) n w (nw w xb i n) := by
 have hxb := hB.lt;have h1 : Only w.heap.size xb w (w.setCell ⟨xb, 9, none⟩ (.int .i64 ((i : Int) + 1))) := (Only.refl _ _ w).setCell (p := ⟨xb, 9, none⟩) (Or.inl rfl) (.int .i64 ((i : Int) + 1));have hsz : (w.setCell ⟨xb, 9, none⟩ (.int .i64 ((i : Int) + 1))).heap.size = w.heap.size := by simp
 have h2 : Only w.heap.size xb w (nw w xb i n) := h1.alloc (Nat.le_of_eq hsz.symm) _;have hn := nd_new (w.setCell ⟨xb, 9, none⟩ (.int .i64 ((i : Int) + 1))) n;rw [hsz] at hn;exact ⟨(Evl.step hB).alloc _, hx.keep (h2.below (Nat.le_of_lt hxb) (Nat.le_refl _)), ⟨hn.c0, hn.c1, hn.c2, hn.c3⟩, h2, by simp [nw]⟩
theorem NdOff.up {xb : Nat} {w W w' : World} {A : Option Addr} {v : List Nd} (h : NdOff (gx xb W) w' w'.heap.size A v) (hz : w.heap.size ≤ W.heap.size) : NdOff (gx xb w) w' w'.heap.size A v := fun hne => by
 obtain ⟨b, o, e1, e2, e3, e4⟩ := h hne;exact ⟨b, o, e1, e2, by unfold gx at e3 ⊢; omega, e4⟩
theorem NdOff.past {xb B : Nat} {w w1 w' : World} {A : Option Addr} {v : List Nd} (h : NdOff (gx xb w) w1 w1.heap.size A v) (ho : Only B xb w1 w') (hB : w1.heap.size ≤ B) (hx : xb < w.heap.size) : NdOff (gx xb w) w' w'.heap.size A v :=
 h.keep (fun p h1 h2 => ho.cell (Nat.lt_of_lt_of_le h1 hB) (fun e => h2 ⟨by omega, by omega⟩)) ho.size
theorem NextPost.ok {x : Evl} {xb j : Nat} {v : List Nd} {w w' : World} {A : Option Addr} {c : Nat} (h1 : v.length ≤ c) (h2 : c ≤ 9223372036854775807) (h3 : NdOff (gx xb w) w' w'.heap.size A v) (h4 : Blk w' xb 99 (x.cells j)) (h5 : Only w.heap.size xb w w') : NextPost x xb j (.ok v) w (.returned (.slice A v.length c)) w' :=
 ⟨fun v' e => by injection e with e; subst e; exact ⟨A, c, rfl, h1, h2, h3, h4⟩, fun k e => (nomatch e), h5⟩
theorem NextPost.bad {x : Evl} {xb j : Nat} {k : Int} {w w' : World} (h5 : Only w.heap.size xb w w') : NextPost x xb j (.bad k) w (.panicked (noV k)) w' :=
 ⟨fun v' e => (nomatch e), fun k' e => by injection e with e; subst e; rfl, h5⟩
theorem leaf_end {x : Evl} {xb i : Nat} {n : Nd} {w : World} (h : NxI x xb (i + 1) n w (nw w xb i n)) (_hxb : xb < w.heap.size) : NextPost x xb (i + 1) (.ok [n]) w (.returned (.slice (some ⟨w.heap.size + 1, 0, none⟩) 1 1)) ((nw w xb i n).alloc (.cells #[.int .i64 n.op, .int .i64 n.n, .string n.s, .string n.t] 37)).drew := by
 have hn := nd_new (nw w xb i n) n;rw [nw_size] at hn;refine NextPost.ok (v := [n]) (by simp) (by omega) (fun _ => ⟨w.heap.size + 1, 0, rfl, by simp [nw], by unfold gx; omega, fun k y hk => ?_⟩) (h.blk.alloc _).drew (h.only.alloc (Nat.le_of_lt h.sz) _).drew;obtain rfl : k = 0 := by
  have := (List.getElem?_eq_some_iff.1 hk).1; simp at this; exact this
 simp at hk; subst hk;exact hn
set_option maxHeartbeats 6400000 in
theorem next_1 (x : Evl) (n : Nd) (ho : n.op = 1) : NextOk x [n] := by
 intro i xb rest w hdr hx hB;have hn : x.e[i]? = some n := by
  have := congrArg (fun l => l[0]?) hdr;simpa [List.getElem?_drop] using this
 have hil : i < x.e.length := (List.getElem?_eq_some_iff.1 hn).1;have hxb := hB.lt;obtain ⟨be, oe, hea, hbe, hcs⟩ := hx.ex.at_ hil;obtain ⟨n0, n1, n2, n3⟩ := hcs i n hn;have hS0 : NxS xb i be oe x n w w.drew := ⟨by rw [← hea]; exact hB.cell 8, hB.cell 9, n0, n1, n2, n3⟩;have hbw : be < w.heap.size := Nat.lt_trans hbe hxb;have HS0 := Lib.hid (hS0.alloc hxb hbw);have HS1 := Lib.hid hS0;have hia := node_at be oe x.e.length x.eca i hil;have HDR := Lib.hid hdr;have hni := nx_start (n := n) hx hB;have HNI := Lib.hid hni;have h9 : w.cell? ⟨xb, 9, none⟩ = some (.int .i64 i) := hS0.s1;have hf9 : w.frozen? ⟨xb, 9, none⟩ = false := hB.frozen 9;have hi1 : IntKind.wrap .i64 ((i : Int) + 1) = (i : Int) + 1 := by
  have := hx.el;exact IntWalk.i64_in _ (by omega)
 clear hcs n0 n1 n2 n3 hea hn hx hB hdr hS0 hni;have t1 : (n.op == 1) = true := by simp [ho]
 have t2 : (n.op == 2) = false := by simp [ho]
 have t3 : (n.op == 3) = false := by simp [ho]
 have t4 : (n.op == 4) = false := by simp [ho]
 have t8 : (n.op == 8) = false := by simp [ho]
 have t11 : (n.op == 11) = false := by simp [ho]
 have t12 : (n.op == 12) = false := by simp [ho]
 have t13 : (n.op == 13) = false := by simp [ho]
 have t5 : (n.op == 5) = false := by simp [ho]
 have t6 : (n.op == 6) = false := by simp [ho]
 have t9 : (n.op == 9) = false := by simp [ho]
 have t10 : (n.op == 10) = false := by simp [ho]
 have t21 : (n.op == 21) = false := by simp [ho]
 have t22 : (n.op == 22) = false := by simp [ho]
 have t23 : (n.op == 23) = false := by simp [ho]
 have t24 : (n.op == 24) = false := by simp [ho]
 rw [evX_leaf x.es x.q (by omega)];clear ho;go_enter Tryz.func52, Tryz.ntmps52
 go_wp2_with fail
 refine wp_region_ord (S := NxS xb i be oe x n w) [(0, false), (1, false), (2, false), (3, false), (4, false), (5, false), (6, false), (7, false), (8, false), (9, false), (10, true), (11, true)] (by kernel_rfl) (by kernel_rfl) (fun _ _ _ _ _ h => h) HS1.out (fun hW' => ?_);simp only [ordOps, List.filterMap_cons, List.filterMap_nil, List.getElem?_cons_zero, List.getElem?_cons_succ, Option.map_some];(repeat (first | (refine hd_take (v := ?_) (by rfl) ?_ ?_; rotate_left; (focus (intro W hW; obtain ⟨s0, s1, s2, s3, s4, s5⟩ := hW; go_simp; try with_reducible rfl)); simp only [Act.put, List.setIfInBounds_toArray, List.set_cons_zero, List.set_cons_succ]) | (refine hd_skip (by rfl) ?_; simp only [Act.put, List.setIfInBounds_toArray, List.set_cons_zero, List.set_cons_succ])))
 clear hW';refine hd_call (fun K hK => ?_);go_simp
 refine hK _ _ (HS0.out _) ?_;clear hK K;refine hd_call (fun K hK => ?_);go_simp
 refine hK _ _ (HS0.out _) ?_;clear hK K;refine hd_nil ?_;go_wp2_with fail
 go_ret
 exact leaf_end HNI.out hxb
set_option maxHeartbeats 6400000 in
theorem next_2 (x : Evl) (n : Nd) (ho : n.op = 2) : NextOk x [n] := by
 intro i xb rest w hdr hx hB;have hn : x.e[i]? = some n := by
  have := congrArg (fun l => l[0]?) hdr;simpa [List.getElem?_drop] using this
 have hil : i < x.e.length := (List.getElem?_eq_some_iff.1 hn).1;have hxb := hB.lt;obtain ⟨be, oe, hea, hbe, hcs⟩ := hx.ex.at_ hil;obtain ⟨n0, n1, n2, n3⟩ := hcs i n hn;have hS0 : NxS xb i be oe x n w w.drew := ⟨by rw [← hea]; exact hB.cell 8, hB.cell 9, n0, n1, n2, n3⟩;have hbw : be < w.heap.size := Nat.lt_trans hbe hxb;have HS0 := Lib.hid (hS0.alloc hxb hbw);have HS1 := Lib.hid hS0;have hia := node_at be oe x.e.length x.eca i hil;have HDR := Lib.hid hdr;have hni := nx_start (n := n) hx hB;have HNI := Lib.hid hni;have h9 : w.cell? ⟨xb, 9, none⟩ = some (.int .i64 i) := hS0.s1;have hf9 : w.frozen? ⟨xb, 9, none⟩ = false := hB.frozen 9;have hi1 : IntKind.wrap .i64 ((i : Int) + 1) = (i : Int) + 1 := by
  have := hx.el;exact IntWalk.i64_in _ (by omega)
 clear hcs n0 n1 n2 n3 hea hn hx hB hdr hS0 hni;have t1 : (n.op == 1) = false := by simp [ho]
 have t2 : (n.op == 2) = true := by simp [ho]
 have t3 : (n.op == 3) = false := by simp [ho]
 have t4 : (n.op == 4) = false := by simp [ho]
 have t8 : (n.op == 8) = false := by simp [ho]
 have t11 : (n.op == 11) = false := by simp [ho]
 have t12 : (n.op == 12) = false := by simp [ho]
 have t13 : (n.op == 13) = false := by simp [ho]
 have t5 : (n.op == 5) = false := by simp [ho]
 have t6 : (n.op == 6) = false := by simp [ho]
 have t9 : (n.op == 9) = false := by simp [ho]
 have t10 : (n.op == 10) = false := by simp [ho]
 have t21 : (n.op == 21) = false := by simp [ho]
 have t22 : (n.op == 22) = false := by simp [ho]
 have t23 : (n.op == 23) = false := by simp [ho]
 have t24 : (n.op == 24) = false := by simp [ho]
 rw [evX_leaf x.es x.q (by omega)];clear ho;go_enter Tryz.func52, Tryz.ntmps52
 go_wp2_with fail
 refine wp_region_ord (S := NxS xb i be oe x n w) [(0, false), (1, false), (2, false), (3, false), (4, false), (5, false), (6, false), (7, false), (8, false), (9, false), (10, true), (11, true)] (by kernel_rfl) (by kernel_rfl) (fun _ _ _ _ _ h => h) HS1.out (fun hW' => ?_);simp only [ordOps, List.filterMap_cons, List.filterMap_nil, List.getElem?_cons_zero, List.getElem?_cons_succ, Option.map_some];(repeat (first | (refine hd_take (v := ?_) (by rfl) ?_ ?_; rotate_left; (focus (intro W hW; obtain ⟨s0, s1, s2, s3, s4, s5⟩ := hW; go_simp; try with_reducible rfl)); simp only [Act.put, List.setIfInBounds_toArray, List.set_cons_zero, List.set_cons_succ]) | (refine hd_skip (by rfl) ?_; simp only [Act.put, List.setIfInBounds_toArray, List.set_cons_zero, List.set_cons_succ])))
 clear hW';refine hd_call (fun K hK => ?_);go_simp
 refine hK _ _ (HS0.out _) ?_;clear hK K;refine hd_call (fun K hK => ?_);go_simp
 refine hK _ _ (HS0.out _) ?_;clear hK K;refine hd_nil ?_;go_wp2_with fail
 go_ret
 exact leaf_end HNI.out hxb
set_option maxHeartbeats 6400000 in
theorem next_3 (x : Evl) (n : Nd) (ho : n.op = 3) : NextOk x [n] := by
 intro i xb rest w hdr hx hB;have hn : x.e[i]? = some n := by
  have := congrArg (fun l => l[0]?) hdr;simpa [List.getElem?_drop] using this
 have hil : i < x.e.length := (List.getElem?_eq_some_iff.1 hn).1;have hxb := hB.lt;obtain ⟨be, oe, hea, hbe, hcs⟩ := hx.ex.at_ hil;obtain ⟨n0, n1, n2, n3⟩ := hcs i n hn;have hS0 : NxS xb i be oe x n w w.drew := ⟨by rw [← hea]; exact hB.cell 8, hB.cell 9, n0, n1, n2, n3⟩;have hbw : be < w.heap.size := Nat.lt_trans hbe hxb;have HS0 := Lib.hid (hS0.alloc hxb hbw);have HS1 := Lib.hid hS0;have hia := node_at be oe x.e.length x.eca i hil;have HDR := Lib.hid hdr;have hni := nx_start (n := n) hx hB;have HNI := Lib.hid hni;have h9 : w.cell? ⟨xb, 9, none⟩ = some (.int .i64 i) := hS0.s1;have hf9 : w.frozen? ⟨xb, 9, none⟩ = false := hB.frozen 9;have hi1 : IntKind.wrap .i64 ((i : Int) + 1) = (i : Int) + 1 := by
  have := hx.el;exact IntWalk.i64_in _ (by omega)
 clear hcs n0 n1 n2 n3 hea hn hx hB hdr hS0 hni;have t1 : (n.op == 1) = false := by simp [ho]
 have t2 : (n.op == 2) = false := by simp [ho]
 have t3 : (n.op == 3) = true := by simp [ho]
 have t4 : (n.op == 4) = false := by simp [ho]
 have t8 : (n.op == 8) = false := by simp [ho]
 have t11 : (n.op == 11) = false := by simp [ho]
 have t12 : (n.op == 12) = false := by simp [ho]
 have t13 : (n.op == 13) = false := by simp [ho]
 have t5 : (n.op == 5) = false := by simp [ho]
 have t6 : (n.op == 6) = false := by simp [ho]
 have t9 : (n.op == 9) = false := by simp [ho]
 have t10 : (n.op == 10) = false := by simp [ho]
 have t21 : (n.op == 21) = false := by simp [ho]
 have t22 : (n.op == 22) = false := by simp [ho]
 have t23 : (n.op == 23) = false := by simp [ho]
 have t24 : (n.op == 24) = false := by simp [ho]
 rw [evX_leaf x.es x.q (by omega)];clear ho;go_enter Tryz.func52, Tryz.ntmps52
 go_wp2_with fail
 refine wp_region_ord (S := NxS xb i be oe x n w) [(0, false), (1, false), (2, false), (3, false), (4, false), (5, false), (6, false), (7, false), (8, false), (9, false), (10, true), (11, true)] (by kernel_rfl) (by kernel_rfl) (fun _ _ _ _ _ h => h) HS1.out (fun hW' => ?_);simp only [ordOps, List.filterMap_cons, List.filterMap_nil, List.getElem?_cons_zero, List.getElem?_cons_succ, Option.map_some];(repeat (first | (refine hd_take (v := ?_) (by rfl) ?_ ?_; rotate_left; (focus (intro W hW; obtain ⟨s0, s1, s2, s3, s4, s5⟩ := hW; go_simp; try with_reducible rfl)); simp only [Act.put, List.setIfInBounds_toArray, List.set_cons_zero, List.set_cons_succ]) | (refine hd_skip (by rfl) ?_; simp only [Act.put, List.setIfInBounds_toArray, List.set_cons_zero, List.set_cons_succ])))
 clear hW';refine hd_call (fun K hK => ?_);go_simp
 refine hK _ _ (HS0.out _) ?_;clear hK K;refine hd_call (fun K hK => ?_);go_simp
 refine hK _ _ (HS0.out _) ?_;clear hK K;refine hd_nil ?_;go_wp2_with fail
 go_ret
 exact leaf_end HNI.out hxb
set_option maxHeartbeats 6400000 in
theorem next_4 (x : Evl) (n : Nd) (ho : n.op = 4) : NextOk x [n] := by
 intro i xb rest w hdr hx hB;have hn : x.e[i]? = some n := by
  have := congrArg (fun l => l[0]?) hdr;simpa [List.getElem?_drop] using this
 have hil : i < x.e.length := (List.getElem?_eq_some_iff.1 hn).1;have hxb := hB.lt;obtain ⟨be, oe, hea, hbe, hcs⟩ := hx.ex.at_ hil;obtain ⟨n0, n1, n2, n3⟩ := hcs i n hn;have hS0 : NxS xb i be oe x n w w.drew := ⟨by rw [← hea]; exact hB.cell 8, hB.cell 9, n0, n1, n2, n3⟩;have hbw : be < w.heap.size := Nat.lt_trans hbe hxb;have HS0 := Lib.hid (hS0.alloc hxb hbw);have HS1 := Lib.hid hS0;have hia := node_at be oe x.e.length x.eca i hil;have HDR := Lib.hid hdr;have hni := nx_start (n := n) hx hB;have HNI := Lib.hid hni;have h9 : w.cell? ⟨xb, 9, none⟩ = some (.int .i64 i) := hS0.s1;have hf9 : w.frozen? ⟨xb, 9, none⟩ = false := hB.frozen 9;have hi1 : IntKind.wrap .i64 ((i : Int) + 1) = (i : Int) + 1 := by
  have := hx.el;exact IntWalk.i64_in _ (by omega)
 clear hcs n0 n1 n2 n3 hea hn hx hB hdr hS0 hni;have t1 : (n.op == 1) = false := by simp [ho]
 have t2 : (n.op == 2) = false := by simp [ho]
 have t3 : (n.op == 3) = false := by simp [ho]
 have t4 : (n.op == 4) = true := by simp [ho]
 have t8 : (n.op == 8) = false := by simp [ho]
 have t11 : (n.op == 11) = false := by simp [ho]
 have t12 : (n.op == 12) = false := by simp [ho]
 have t13 : (n.op == 13) = false := by simp [ho]
 have t5 : (n.op == 5) = false := by simp [ho]
 have t6 : (n.op == 6) = false := by simp [ho]
 have t9 : (n.op == 9) = false := by simp [ho]
 have t10 : (n.op == 10) = false := by simp [ho]
 have t21 : (n.op == 21) = false := by simp [ho]
 have t22 : (n.op == 22) = false := by simp [ho]
 have t23 : (n.op == 23) = false := by simp [ho]
 have t24 : (n.op == 24) = false := by simp [ho]
 rw [evX_leaf x.es x.q (by omega)];clear ho;go_enter Tryz.func52, Tryz.ntmps52
 go_wp2_with fail
 refine wp_region_ord (S := NxS xb i be oe x n w) [(0, false), (1, false), (2, false), (3, false), (4, false), (5, false), (6, false), (7, false), (8, false), (9, false), (10, true), (11, true)] (by kernel_rfl) (by kernel_rfl) (fun _ _ _ _ _ h => h) HS1.out (fun hW' => ?_);simp only [ordOps, List.filterMap_cons, List.filterMap_nil, List.getElem?_cons_zero, List.getElem?_cons_succ, Option.map_some];(repeat (first | (refine hd_take (v := ?_) (by rfl) ?_ ?_; rotate_left; (focus (intro W hW; obtain ⟨s0, s1, s2, s3, s4, s5⟩ := hW; go_simp; try with_reducible rfl)); simp only [Act.put, List.setIfInBounds_toArray, List.set_cons_zero, List.set_cons_succ]) | (refine hd_skip (by rfl) ?_; simp only [Act.put, List.setIfInBounds_toArray, List.set_cons_zero, List.set_cons_succ])))
 clear hW';refine hd_call (fun K hK => ?_);go_simp
 refine hK _ _ (HS0.out _) ?_;clear hK K;refine hd_call (fun K hK => ?_);go_simp
 refine hK _ _ (HS0.out _) ?_;clear hK K;refine hd_nil ?_;go_wp2_with fail
 go_ret
 exact leaf_end HNI.out hxb
end Go.Proofs.YtpheiojmcafolaaGreatDoor
namespace Go.Proofs.YtpheiojmcafolaaGreatDoor
set_option maxRecDepth 100000
open Go.RowKit Go.Sort
def NxA (x : Evl) (xb j : Nat) (n : Nd) (q : Rs (List Nd)) (w W : World) (r : Ending) (w' : World) : Prop :=
 (∀ v, q = .ok v → ∃ A c, r = .returned (.slice A v.length c) ∧ ValIn v A c w' ∧ NdI v ∧ NdOff (gx xb w) w' w'.heap.size A v ∧ NxI x xb j n w w') ∧ (∀ k, q = .bad k → r = .panicked (noV k)) ∧ Only w.heap.size xb w w' ∧ Only W.heap.size xb W w'
theorem NdAt.only {W w' : World} {b o B g : Nat} {n : Nd} (h : NdAt W b o n) (ho : Only B g W w') (hb : b < B) (hg : b ≠ g) : NdAt w' b o n :=
 ⟨(ho.cell hb hg).trans h.c0, (ho.cell hb hg).trans h.c1, (ho.cell hb hg).trans h.c2, (ho.cell hb hg).trans h.c3⟩
theorem NxI.next {x : Evl} {xb j : Nat} {n : Nd} {w W : World} {a rest : List Nd} (h : NxI x xb j n w W) (hxb : xb < w.heap.size) (ha : NextOk x a) (hex : Ex (.one false) a) (hd : x.e.drop j = a ++ rest) :
 Calls Tryz.prog 52 #[.pointer (some ⟨xb, 0, none⟩)] W (NxA x xb (j + a.length) n (evX x.es x.q a) w W) := by
 have hmem : ∀ y ∈ a, y ∈ x.e := fun y hy => List.mem_of_mem_drop (i := j) (by rw [hd]; simp [hy]);have hk : NdOk a := NdOk.sub h.ev.ek hmem;have hi : NdI a := NdI.sub h.ev.ei hmem;have hsz := h.sz;refine (ha j xb rest W hd h.ev h.blk).mono ?_;rintro r w' ⟨h1, h2, h3⟩;have ho : Only w.heap.size xb w w' := h.only.trans (h3.mono (Nat.le_of_lt hsz));refine ⟨fun v hv => ?_, h2, ho, h3⟩;obtain ⟨A, c, rfl, g1, g2, g3, g4⟩ := h1 v hv;have hf := val_facts h.ev hex hk hi hv;exact ⟨A, c, rfl, ⟨hf.ok, hf.nd, g1, g2, g3.sl⟩, hf.ni, g3.up (Nat.le_of_lt hsz), g4, h.ev.keep (h3.below (Nat.le_of_lt h.blk.lt) (Nat.le_refl _)), h.nd.only h3 hsz (by omega), ho, Nat.lt_of_lt_of_le hsz h3.size⟩
theorem NextPost.rs {x : Evl} {xb j : Nat} {n : Nd} {q : Rs (List Nd)} {w W w' : World} {r : Ending} (h : NxI x xb j n w W) (hr : RsBack W r w' q) : NextPost x xb j q w r w' := by
 obtain ⟨h1, h2, h3⟩ := hr;have hl := h.blk.lt;have ho : Only W.heap.size xb W w' := Only.of_below h3 (Nat.le_refl _);refine ⟨fun v hv => ?_, h2, h.only.trans (ho.mono (Nat.le_of_lt h.sz))⟩;obtain ⟨A, c, e, g1, g2, g3, _, g5⟩ := h1 v hv;refine ⟨A, c, e, g1, g2, fun hne => ?_, h.blk.below h3 hl⟩;obtain ⟨b, o, e1, e2, e3⟩ := g3 hne;exact ⟨b, o, e1, e2, by have := g5 b o e1; have := h.sz; unfold gx; omega, e3⟩
structure OpS (b : Nat) (k : Int) (W : World) : Prop where
 s0 : W.cell? ⟨b, 0, none⟩ = some (.int .i64 k)
set_option maxHeartbeats 6400000 in
theorem next_9 (x : Evl) (n : Nd) (a : List Nd) (ha : NextOk x a) (hex : Ex (.one false) a) (ho : n.op = 9) : NextOk x (n :: a) := by
 intro i xb rest w hdr hx hB;have hn : x.e[i]? = some n := by
  have := congrArg (fun l => l[0]?) hdr;simpa [List.getElem?_drop] using this
 have hil : i < x.e.length := (List.getElem?_eq_some_iff.1 hn).1;have hxb := hB.lt;obtain ⟨be, oe, hea, hbe, hcs⟩ := hx.ex.at_ hil;obtain ⟨n0, n1, n2, n3⟩ := hcs i n hn;have hS0 : NxS xb i be oe x n w w.drew := ⟨by rw [← hea]; exact hB.cell 8, hB.cell 9, n0, n1, n2, n3⟩;have hbw : be < w.heap.size := Nat.lt_trans hbe hxb;have HS0 := Lib.hid (hS0.alloc hxb hbw);have HS1 := Lib.hid hS0;have hia := node_at be oe x.e.length x.eca i hil;have HDR := Lib.hid hdr;have hni := nx_start (n := n) hx hB;have HNI := Lib.hid hni;have h9 : w.cell? ⟨xb, 9, none⟩ = some (.int .i64 i) := hS0.s1;have hf9 : w.frozen? ⟨xb, 9, none⟩ = false := hB.frozen 9;have hi1 : IntKind.wrap .i64 ((i : Int) + 1) = (i : Int) + 1 := by
  have := hx.el;exact IntWalk.i64_in _ (by omega)
 have hni0 := hni.drew;have hdr1 : x.e.drop (i + 1) = a ++ rest := by
  have := congrArg List.tail hdr;simpa [List.tail_drop] using this
 have hns : n.s.size ≤ 140737488351232 := (hx.ek n (List.mem_of_getElem? hn)).1;clear hcs n0 n1 n2 n3 hea hn hx hB hdr hS0 hni HDR;have t1 : (n.op == 1) = false := by simp [ho]
 have t2 : (n.op == 2) = false := by simp [ho]
 have t3 : (n.op == 3) = false := by simp [ho]
 have t4 : (n.op == 4) = false := by simp [ho]
 have t8 : (n.op == 8) = false := by simp [ho]
 have t11 : (n.op == 11) = false := by simp [ho]
 have t12 : (n.op == 12) = false := by simp [ho]
 have t13 : (n.op == 13) = false := by simp [ho]
 have t5 : (n.op == 5) = false := by simp [ho]
 have t6 : (n.op == 6) = false := by simp [ho]
 have t9 : (n.op == 9) = true := by simp [ho]
 have t10 : (n.op == 10) = false := by simp [ho]
 have t21 : (n.op == 21) = false := by simp [ho]
 have t22 : (n.op == 22) = false := by simp [ho]
 have t23 : (n.op == 23) = false := by simp [ho]
 have t24 : (n.op == 24) = false := by simp [ho]
 have hcall := hni0.next hxb ha hex (rest := rest) hdr1;unfold nw at hcall;have HA := Lib.hid hcall;have hlen : i + (n :: a).length = i + 1 + a.length := by simp; omega
 rw [hlen, evX_one x.es x.q (by omega) hex];have ho' : n.op = 9 ∨ n.op = 10 ∨ n.op = 21 ∨ n.op = 22 ∨ n.op = 23 ∨ n.op = 24 := by omega
 have HOP := Lib.hid ho';have HNS := Lib.hid hns;generalize i + 1 + a.length = j at HA ⊢;generalize evX x.es x.q a = q at HA ⊢;obtain ⟨q', hq'⟩ : ∃ q', q' = q.bind (fun v => singleR x.es n v) := ⟨_, rfl⟩;rw [← hq'];have HQ := Lib.hid hq';clear hcall hni0 hdr1 ha hex ho ho' hlen hns hq';go_enter Tryz.func52, Tryz.ntmps52
 go_wp2_with fail
 refine wp_region_ord (S := NxS xb i be oe x n w) [(0, false), (1, false), (2, false), (3, false), (4, false), (5, false), (6, false), (7, false), (8, false), (9, false), (10, true), (11, true)] (by kernel_rfl) (by kernel_rfl) (fun _ _ _ _ _ h => h) HS1.out (fun hW' => ?_);simp only [ordOps, List.filterMap_cons, List.filterMap_nil, List.getElem?_cons_zero, List.getElem?_cons_succ, Option.map_some];(repeat (first | (refine hd_take (v := ?_) (by rfl) ?_ ?_; rotate_left; (focus (intro W hW; obtain ⟨s0, s1, s2, s3, s4, s5⟩ := hW; go_simp; try with_reducible rfl)); simp only [Act.put, List.setIfInBounds_toArray, List.set_cons_zero, List.set_cons_succ]) | (refine hd_skip (by rfl) ?_; simp only [Act.put, List.setIfInBounds_toArray, List.set_cons_zero, List.set_cons_succ])))
 clear hW';refine hd_call (fun K hK => ?_);go_simp
 refine hK _ _ (HS0.out _) ?_;clear hK K;refine hd_call (fun K hK => ?_);go_simp
 refine hK _ _ (HS0.out _) ?_;clear hK K;refine hd_nil ?_;go_wp2_with fail
 refine HA.out.mono ?_;rintro r w1 ⟨hq1, hq2, ho1, hoW1⟩;have HO1 := Lib.hid ho1;clear ho1 hoW1;cases q with
 | bad k =>
  have hr := hq2 k rfl;subst hr;clear hq1 hq2;obtain rfl : q' = .bad k := HQ.out;clear HQ;go_wp2_with fail
  exact ⟨rfl, NextPost.bad HO1.out⟩
 | ok v =>
  obtain ⟨A, c, rfl, hv, hvi, -, hn1⟩ := hq1 v rfl;have HN1 := Lib.hid hn1;have hs := eval_single x xb j n v A c w1 hn1.ev hn1.blk hv hvi HNS.out HOP.out;rw [show singleR x.es n v = q' from HQ.out.symm] at hs;have HS := Lib.hid hs;have c0 : w1.cell? ⟨w.heap.size, 0, none⟩ = some (.int .i64 n.op) := hn1.nd.c0;have c1 : w1.cell? ⟨w.heap.size, 1, none⟩ = some (.int .i64 n.n) := hn1.nd.c1;have c2 : w1.cell? ⟨w.heap.size, 2, none⟩ = some (.string n.s) := hn1.nd.c2;have c3 : w1.cell? ⟨w.heap.size, 3, none⟩ = some (.string n.t) := hn1.nd.c3;clear hn1 hq1 hq2 hv hvi hs HQ;go_wp2_with fail
  refine HS.out.mono ?_;rintro r w2 hr2;have hpost := NextPost.rs HN1.out hr2;obtain ⟨g1, g2, -⟩ := hr2;have HP := Lib.hid hpost;clear hpost;cases q' with
  | bad k =>
   have hr := g2 k rfl;subst hr;clear g1 g2;go_wp2_with fail
   exact ⟨rfl, HP.out⟩
  | ok u =>
   obtain ⟨A2, c2', rfl, -⟩ := g1 u rfl;clear g1 g2;go_wp2_with fail
   go_ret
   exact HP.out
set_option maxHeartbeats 6400000 in
theorem next_10 (x : Evl) (n : Nd) (a : List Nd) (ha : NextOk x a) (hex : Ex (.one false) a) (ho : n.op = 10) : NextOk x (n :: a) := by
 intro i xb rest w hdr hx hB;have hn : x.e[i]? = some n := by
  have := congrArg (fun l => l[0]?) hdr;simpa [List.getElem?_drop] using this
 have hil : i < x.e.length := (List.getElem?_eq_some_iff.1 hn).1;have hxb := hB.lt;obtain ⟨be, oe, hea, hbe, hcs⟩ := hx.ex.at_ hil;obtain ⟨n0, n1, n2, n3⟩ := hcs i n hn;have hS0 : NxS xb i be oe x n w w.drew := ⟨by rw [← hea]; exact hB.cell 8, hB.cell 9, n0, n1, n2, n3⟩;have hbw : be < w.heap.size := Nat.lt_trans hbe hxb;have HS0 := Lib.hid (hS0.alloc hxb hbw);have HS1 := Lib.hid hS0;have hia := node_at be oe x.e.length x.eca i hil;have HDR := Lib.hid hdr;have hni := nx_start (n := n) hx hB;have HNI := Lib.hid hni;have h9 : w.cell? ⟨xb, 9, none⟩ = some (.int .i64 i) := hS0.s1;have hf9 : w.frozen? ⟨xb, 9, none⟩ = false := hB.frozen 9;have hi1 : IntKind.wrap .i64 ((i : Int) + 1) = (i : Int) + 1 := by
  have := hx.el;exact IntWalk.i64_in _ (by omega)
 have hni0 := hni.drew;have hdr1 : x.e.drop (i + 1) = a ++ rest := by
  have := congrArg List.tail hdr;simpa [List.tail_drop] using this
 have hns : n.s.size ≤ 140737488351232 := (hx.ek n (List.mem_of_getElem? hn)).1;clear hcs n0 n1 n2 n3 hea hn hx hB hdr hS0 hni HDR;have t1 : (n.op == 1) = false := by simp [ho]
 have t2 : (n.op == 2) = false := by simp [ho]
 have t3 : (n.op == 3) = false := by simp [ho]
 have t4 : (n.op == 4) = false := by simp [ho]
 have t8 : (n.op == 8) = false := by simp [ho]
 have t11 : (n.op == 11) = false := by simp [ho]
 have t12 : (n.op == 12) = false := by simp [ho]
 have t13 : (n.op == 13) = false := by simp [ho]
 have t5 : (n.op == 5) = false := by simp [ho]
 have t6 : (n.op == 6) = false := by simp [ho]
 have t9 : (n.op == 9) = false := by simp [ho]
 have t10 : (n.op == 10) = true := by simp [ho]
 have t21 : (n.op == 21) = false := by simp [ho]
 have t22 : (n.op == 22) = false := by simp [ho]
 have t23 : (n.op == 23) = false := by simp [ho]
 have t24 : (n.op == 24) = false := by simp [ho]
 have hcall := hni0.next hxb ha hex (rest := rest) hdr1;unfold nw at hcall;have HA := Lib.hid hcall;have hlen : i + (n :: a).length = i + 1 + a.length := by simp; omega
 rw [hlen, evX_one x.es x.q (by omega) hex];have ho' : n.op = 9 ∨ n.op = 10 ∨ n.op = 21 ∨ n.op = 22 ∨ n.op = 23 ∨ n.op = 24 := by omega
 have HOP := Lib.hid ho';have HNS := Lib.hid hns;generalize i + 1 + a.length = j at HA ⊢;generalize evX x.es x.q a = q at HA ⊢;obtain ⟨q', hq'⟩ : ∃ q', q' = q.bind (fun v => singleR x.es n v) := ⟨_, rfl⟩;rw [← hq'];have HQ := Lib.hid hq';clear hcall hni0 hdr1 ha hex ho ho' hlen hns hq';go_enter Tryz.func52, Tryz.ntmps52
 go_wp2_with fail
 refine wp_region_ord (S := NxS xb i be oe x n w) [(0, false), (1, false), (2, false), (3, false), (4, false), (5, false), (6, false), (7, false), (8, false), (9, false), (10, true), (11, true)] (by kernel_rfl) (by kernel_rfl) (fun _ _ _ _ _ h => h) HS1.out (fun hW' => ?_);simp only [ordOps, List.filterMap_cons, List.filterMap_nil, List.getElem?_cons_zero, List.getElem?_cons_succ, Option.map_some];(repeat (first | (refine hd_take (v := ?_) (by rfl) ?_ ?_; rotate_left; (focus (intro W hW; obtain ⟨s0, s1, s2, s3, s4, s5⟩ := hW; go_simp; try with_reducible rfl)); simp only [Act.put, List.setIfInBounds_toArray, List.set_cons_zero, List.set_cons_succ]) | (refine hd_skip (by rfl) ?_; simp only [Act.put, List.setIfInBounds_toArray, List.set_cons_zero, List.set_cons_succ])))
 clear hW';refine hd_call (fun K hK => ?_);go_simp
 refine hK _ _ (HS0.out _) ?_;clear hK K;refine hd_call (fun K hK => ?_);go_simp
 refine hK _ _ (HS0.out _) ?_;clear hK K;refine hd_nil ?_;go_wp2_with fail
 refine HA.out.mono ?_;rintro r w1 ⟨hq1, hq2, ho1, hoW1⟩;have HO1 := Lib.hid ho1;clear ho1 hoW1;cases q with
 | bad k =>
  have hr := hq2 k rfl;subst hr;clear hq1 hq2;obtain rfl : q' = .bad k := HQ.out;clear HQ;go_wp2_with fail
  exact ⟨rfl, NextPost.bad HO1.out⟩
 | ok v =>
  obtain ⟨A, c, rfl, hv, hvi, -, hn1⟩ := hq1 v rfl;have HN1 := Lib.hid hn1;have hs := eval_single x xb j n v A c w1 hn1.ev hn1.blk hv hvi HNS.out HOP.out;rw [show singleR x.es n v = q' from HQ.out.symm] at hs;have HS := Lib.hid hs;have c0 : w1.cell? ⟨w.heap.size, 0, none⟩ = some (.int .i64 n.op) := hn1.nd.c0;have c1 : w1.cell? ⟨w.heap.size, 1, none⟩ = some (.int .i64 n.n) := hn1.nd.c1;have c2 : w1.cell? ⟨w.heap.size, 2, none⟩ = some (.string n.s) := hn1.nd.c2;have c3 : w1.cell? ⟨w.heap.size, 3, none⟩ = some (.string n.t) := hn1.nd.c3;clear hn1 hq1 hq2 hv hvi hs HQ;go_wp2_with fail
  refine HS.out.mono ?_;rintro r w2 hr2;have hpost := NextPost.rs HN1.out hr2;obtain ⟨g1, g2, -⟩ := hr2;have HP := Lib.hid hpost;clear hpost;cases q' with
  | bad k =>
   have hr := g2 k rfl;subst hr;clear g1 g2;go_wp2_with fail
   exact ⟨rfl, HP.out⟩
  | ok u =>
   obtain ⟨A2, c2', rfl, -⟩ := g1 u rfl;clear g1 g2;go_wp2_with fail
   go_ret
   exact HP.out
set_option maxHeartbeats 6400000 in
theorem next_21 (x : Evl) (n : Nd) (a : List Nd) (ha : NextOk x a) (hex : Ex (.one false) a) (ho : n.op = 21) : NextOk x (n :: a) := by
 intro i xb rest w hdr hx hB;have hn : x.e[i]? = some n := by
  have := congrArg (fun l => l[0]?) hdr;simpa [List.getElem?_drop] using this
 have hil : i < x.e.length := (List.getElem?_eq_some_iff.1 hn).1;have hxb := hB.lt;obtain ⟨be, oe, hea, hbe, hcs⟩ := hx.ex.at_ hil;obtain ⟨n0, n1, n2, n3⟩ := hcs i n hn;have hS0 : NxS xb i be oe x n w w.drew := ⟨by rw [← hea]; exact hB.cell 8, hB.cell 9, n0, n1, n2, n3⟩;have hbw : be < w.heap.size := Nat.lt_trans hbe hxb;have HS0 := Lib.hid (hS0.alloc hxb hbw);have HS1 := Lib.hid hS0;have hia := node_at be oe x.e.length x.eca i hil;have HDR := Lib.hid hdr;have hni := nx_start (n := n) hx hB;have HNI := Lib.hid hni;have h9 : w.cell? ⟨xb, 9, none⟩ = some (.int .i64 i) := hS0.s1;have hf9 : w.frozen? ⟨xb, 9, none⟩ = false := hB.frozen 9;have hi1 : IntKind.wrap .i64 ((i : Int) + 1) = (i : Int) + 1 := by
  have := hx.el;exact IntWalk.i64_in _ (by omega)
 have hni0 := hni.drew;have hdr1 : x.e.drop (i + 1) = a ++ rest := by
  have := congrArg List.tail hdr;simpa [List.tail_drop] using this
 have hns : n.s.size ≤ 140737488351232 := (hx.ek n (List.mem_of_getElem? hn)).1;clear hcs n0 n1 n2 n3 hea hn hx hB hdr hS0 hni HDR;have t1 : (n.op == 1) = false := by simp [ho]
 have t2 : (n.op == 2) = false := by simp [ho]
 have t3 : (n.op == 3) = false := by simp [ho]
 have t4 : (n.op == 4) = false := by simp [ho]
 have t8 : (n.op == 8) = false := by simp [ho]
 have t11 : (n.op == 11) = false := by simp [ho]
 have t12 : (n.op == 12) = false := by simp [ho]
 have t13 : (n.op == 13) = false := by simp [ho]
 have t5 : (n.op == 5) = false := by simp [ho]
 have t6 : (n.op == 6) = false := by simp [ho]
 have t9 : (n.op == 9) = false := by simp [ho]
 have t10 : (n.op == 10) = false := by simp [ho]
 have t21 : (n.op == 21) = true := by simp [ho]
 have t22 : (n.op == 22) = false := by simp [ho]
 have t23 : (n.op == 23) = false := by simp [ho]
 have t24 : (n.op == 24) = false := by simp [ho]
 have hcall := hni0.next hxb ha hex (rest := rest) hdr1;unfold nw at hcall;have HA := Lib.hid hcall;have hlen : i + (n :: a).length = i + 1 + a.length := by simp; omega
 rw [hlen, evX_one x.es x.q (by omega) hex];have ho' : n.op = 9 ∨ n.op = 10 ∨ n.op = 21 ∨ n.op = 22 ∨ n.op = 23 ∨ n.op = 24 := by omega
 have HOP := Lib.hid ho';have HNS := Lib.hid hns;generalize i + 1 + a.length = j at HA ⊢;generalize evX x.es x.q a = q at HA ⊢;obtain ⟨q', hq'⟩ : ∃ q', q' = q.bind (fun v => singleR x.es n v) := ⟨_, rfl⟩;rw [← hq'];have HQ := Lib.hid hq';clear hcall hni0 hdr1 ha hex ho ho' hlen hns hq';go_enter Tryz.func52, Tryz.ntmps52
 go_wp2_with fail
 refine wp_region_ord (S := NxS xb i be oe x n w) [(0, false), (1, false), (2, false), (3, false), (4, false), (5, false), (6, false), (7, false), (8, false), (9, false), (10, true), (11, true)] (by kernel_rfl) (by kernel_rfl) (fun _ _ _ _ _ h => h) HS1.out (fun hW' => ?_);simp only [ordOps, List.filterMap_cons, List.filterMap_nil, List.getElem?_cons_zero, List.getElem?_cons_succ, Option.map_some];(repeat (first | (refine hd_take (v := ?_) (by rfl) ?_ ?_; rotate_left; (focus (intro W hW; obtain ⟨s0, s1, s2, s3, s4, s5⟩ := hW; go_simp; try with_reducible rfl)); simp only [Act.put, List.setIfInBounds_toArray, List.set_cons_zero, List.set_cons_succ]) | (refine hd_skip (by rfl) ?_; simp only [Act.put, List.setIfInBounds_toArray, List.set_cons_zero, List.set_cons_succ])))
 clear hW';refine hd_call (fun K hK => ?_);go_simp
 refine hK _ _ (HS0.out _) ?_;clear hK K;refine hd_call (fun K hK => ?_);go_simp
 refine hK _ _ (HS0.out _) ?_;clear hK K;refine hd_nil ?_;go_wp2_with fail
 refine HA.out.mono ?_;rintro r w1 ⟨hq1, hq2, ho1, hoW1⟩;have HO1 := Lib.hid ho1;clear ho1 hoW1;cases q with
 | bad k =>
  have hr := hq2 k rfl;subst hr;clear hq1 hq2;obtain rfl : q' = .bad k := HQ.out;clear HQ;go_wp2_with fail
  exact ⟨rfl, NextPost.bad HO1.out⟩
 | ok v =>
  obtain ⟨A, c, rfl, hv, hvi, -, hn1⟩ := hq1 v rfl;have HN1 := Lib.hid hn1;have hs := eval_single x xb j n v A c w1 hn1.ev hn1.blk hv hvi HNS.out HOP.out;rw [show singleR x.es n v = q' from HQ.out.symm] at hs;have HS := Lib.hid hs;have c0 : w1.cell? ⟨w.heap.size, 0, none⟩ = some (.int .i64 n.op) := hn1.nd.c0;have c1 : w1.cell? ⟨w.heap.size, 1, none⟩ = some (.int .i64 n.n) := hn1.nd.c1;have c2 : w1.cell? ⟨w.heap.size, 2, none⟩ = some (.string n.s) := hn1.nd.c2;have c3 : w1.cell? ⟨w.heap.size, 3, none⟩ = some (.string n.t) := hn1.nd.c3;clear hn1 hq1 hq2 hv hvi hs HQ;go_wp2_with fail
  refine HS.out.mono ?_;rintro r w2 hr2;have hpost := NextPost.rs HN1.out hr2;obtain ⟨g1, g2, -⟩ := hr2;have HP := Lib.hid hpost;clear hpost;cases q' with
  | bad k =>
   have hr := g2 k rfl;subst hr;clear g1 g2;go_wp2_with fail
   exact ⟨rfl, HP.out⟩
  | ok u =>
   obtain ⟨A2, c2', rfl, -⟩ := g1 u rfl;clear g1 g2;go_wp2_with fail
   go_ret
   exact HP.out
set_option maxHeartbeats 6400000 in
theorem next_22 (x : Evl) (n : Nd) (a : List Nd) (ha : NextOk x a) (hex : Ex (.one false) a) (ho : n.op = 22) : NextOk x (n :: a) := by
 intro i xb rest w hdr hx hB;have hn : x.e[i]? = some n := by
  have := congrArg (fun l => l[0]?) hdr;simpa [List.getElem?_drop] using this
 have hil : i < x.e.length := (List.getElem?_eq_some_iff.1 hn).1;have hxb := hB.lt;obtain ⟨be, oe, hea, hbe, hcs⟩ := hx.ex.at_ hil;obtain ⟨n0, n1, n2, n3⟩ := hcs i n hn;have hS0 : NxS xb i be oe x n w w.drew := ⟨by rw [← hea]; exact hB.cell 8, hB.cell 9, n0, n1, n2, n3⟩;have hbw : be < w.heap.size := Nat.lt_trans hbe hxb;have HS0 := Lib.hid (hS0.alloc hxb hbw);have HS1 := Lib.hid hS0;have hia := node_at be oe x.e.length x.eca i hil;have HDR := Lib.hid hdr;have hni := nx_start (n := n) hx hB;have HNI := Lib.hid hni;have h9 : w.cell? ⟨xb, 9, none⟩ = some (.int .i64 i) := hS0.s1;have hf9 : w.frozen? ⟨xb, 9, none⟩ = false := hB.frozen 9;have hi1 : IntKind.wrap .i64 ((i : Int) + 1) = (i : Int) + 1 := by
  have := hx.el;exact IntWalk.i64_in _ (by omega)
 have hni0 := hni.drew;have hdr1 : x.e.drop (i + 1) = a ++ rest := by
  have := congrArg List.tail hdr;simpa [List.tail_drop] using this
 have hns : n.s.size ≤ 140737488351232 := (hx.ek n (List.mem_of_getElem? hn)).1;clear hcs n0 n1 n2 n3 hea hn hx hB hdr hS0 hni HDR;have t1 : (n.op == 1) = false := by simp [ho]
 have t2 : (n.op == 2) = false := by simp [ho]
 have t3 : (n.op == 3) = false := by simp [ho]
 have t4 : (n.op == 4) = false := by simp [ho]
 have t8 : (n.op == 8) = false := by simp [ho]
 have t11 : (n.op == 11) = false := by simp [ho]
 have t12 : (n.op == 12) = false := by simp [ho]
 have t13 : (n.op == 13) = false := by simp [ho]
 have t5 : (n.op == 5) = false := by simp [ho]
 have t6 : (n.op == 6) = false := by simp [ho]
 have t9 : (n.op == 9) = false := by simp [ho]
 have t10 : (n.op == 10) = false := by simp [ho]
 have t21 : (n.op == 21) = false := by simp [ho]
 have t22 : (n.op == 22) = true := by simp [ho]
 have t23 : (n.op == 23) = false := by simp [ho]
 have t24 : (n.op == 24) = false := by simp [ho]
 have hcall := hni0.next hxb ha hex (rest := rest) hdr1;unfold nw at hcall;have HA := Lib.hid hcall;have hlen : i + (n :: a).length = i + 1 + a.length := by simp; omega
 rw [hlen, evX_one x.es x.q (by omega) hex];have ho' : n.op = 9 ∨ n.op = 10 ∨ n.op = 21 ∨ n.op = 22 ∨ n.op = 23 ∨ n.op = 24 := by omega
 have HOP := Lib.hid ho';have HNS := Lib.hid hns;generalize i + 1 + a.length = j at HA ⊢;generalize evX x.es x.q a = q at HA ⊢;obtain ⟨q', hq'⟩ : ∃ q', q' = q.bind (fun v => singleR x.es n v) := ⟨_, rfl⟩;rw [← hq'];have HQ := Lib.hid hq';clear hcall hni0 hdr1 ha hex ho ho' hlen hns hq';go_enter Tryz.func52, Tryz.ntmps52
 go_wp2_with fail
 refine wp_region_ord (S := NxS xb i be oe x n w) [(0, false), (1, false), (2, false), (3, false), (4, false), (5, false), (6, false), (7, false), (8, false), (9, false), (10, true), (11, true)] (by kernel_rfl) (by kernel_rfl) (fun _ _ _ _ _ h => h) HS1.out (fun hW' => ?_);simp only [ordOps, List.filterMap_cons, List.filterMap_nil, List.getElem?_cons_zero, List.getElem?_cons_succ, Option.map_some];(repeat (first | (refine hd_take (v := ?_) (by rfl) ?_ ?_; rotate_left; (focus (intro W hW; obtain ⟨s0, s1, s2, s3, s4, s5⟩ := hW; go_simp; try with_reducible rfl)); simp only [Act.put, List.setIfInBounds_toArray, List.set_cons_zero, List.set_cons_succ]) | (refine hd_skip (by rfl) ?_; simp only [Act.put, List.setIfInBounds_toArray, List.set_cons_zero, List.set_cons_succ])))
 clear hW';refine hd_call (fun K hK => ?_);go_simp
 refine hK _ _ (HS0.out _) ?_;clear hK K;refine hd_call (fun K hK => ?_);go_simp
 refine hK _ _ (HS0.out _) ?_;clear hK K;refine hd_nil ?_;go_wp2_with fail
 refine HA.out.mono ?_;rintro r w1 ⟨hq1, hq2, ho1, hoW1⟩;have HO1 := Lib.hid ho1;clear ho1 hoW1;cases q with
 | bad k =>
  have hr := hq2 k rfl;subst hr;clear hq1 hq2;obtain rfl : q' = .bad k := HQ.out;clear HQ;go_wp2_with fail
  exact ⟨rfl, NextPost.bad HO1.out⟩
 | ok v =>
  obtain ⟨A, c, rfl, hv, hvi, -, hn1⟩ := hq1 v rfl;have HN1 := Lib.hid hn1;have hs := eval_single x xb j n v A c w1 hn1.ev hn1.blk hv hvi HNS.out HOP.out;rw [show singleR x.es n v = q' from HQ.out.symm] at hs;have HS := Lib.hid hs;have c0 : w1.cell? ⟨w.heap.size, 0, none⟩ = some (.int .i64 n.op) := hn1.nd.c0;have c1 : w1.cell? ⟨w.heap.size, 1, none⟩ = some (.int .i64 n.n) := hn1.nd.c1;have c2 : w1.cell? ⟨w.heap.size, 2, none⟩ = some (.string n.s) := hn1.nd.c2;have c3 : w1.cell? ⟨w.heap.size, 3, none⟩ = some (.string n.t) := hn1.nd.c3;clear hn1 hq1 hq2 hv hvi hs HQ;go_wp2_with fail
  refine HS.out.mono ?_;rintro r w2 hr2;have hpost := NextPost.rs HN1.out hr2;obtain ⟨g1, g2, -⟩ := hr2;have HP := Lib.hid hpost;clear hpost;cases q' with
  | bad k =>
   have hr := g2 k rfl;subst hr;clear g1 g2;go_wp2_with fail
   exact ⟨rfl, HP.out⟩
  | ok u =>
   obtain ⟨A2, c2', rfl, -⟩ := g1 u rfl;clear g1 g2;go_wp2_with fail
   go_ret
   exact HP.out
set_option maxHeartbeats 6400000 in
theorem next_23 (x : Evl) (n : Nd) (a : List Nd) (ha : NextOk x a) (hex : Ex (.one false) a) (ho : n.op = 23) : NextOk x (n :: a) := by
 intro i xb rest w hdr hx hB;have hn : x.e[i]? = some n := by
  have := congrArg (fun l => l[0]?) hdr;simpa [List.getElem?_drop] using this
 have hil : i < x.e.length := (List.getElem?_eq_some_iff.1 hn).1;have hxb := hB.lt;obtain ⟨be, oe, hea, hbe, hcs⟩ := hx.ex.at_ hil;obtain ⟨n0, n1, n2, n3⟩ := hcs i n hn;have hS0 : NxS xb i be oe x n w w.drew := ⟨by rw [← hea]; exact hB.cell 8, hB.cell 9, n0, n1, n2, n3⟩;have hbw : be < w.heap.size := Nat.lt_trans hbe hxb;have HS0 := Lib.hid (hS0.alloc hxb hbw);have HS1 := Lib.hid hS0;have hia := node_at be oe x.e.length x.eca i hil;have HDR := Lib.hid hdr;have hni := nx_start (n := n) hx hB;have HNI := Lib.hid hni;have h9 : w.cell? ⟨xb, 9, none⟩ = some (.int .i64 i) := hS0.s1;have hf9 : w.frozen? ⟨xb, 9, none⟩ = false := hB.frozen 9;have hi1 : IntKind.wrap .i64 ((i : Int) + 1) = (i : Int) + 1 := by
  have := hx.el;exact IntWalk.i64_in _ (by omega)
 have hni0 := hni.drew;have hdr1 : x.e.drop (i + 1) = a ++ rest := by
  have := congrArg List.tail hdr;simpa [List.tail_drop] using this
 have hns : n.s.size ≤ 140737488351232 := (hx.ek n (List.mem_of_getElem? hn)).1;clear hcs n0 n1 n2 n3 hea hn hx hB hdr hS0 hni HDR;have t1 : (n.op == 1) = false := by simp [ho]
 have t2 : (n.op == 2) = false := by simp [ho]
 have t3 : (n.op == 3) = false := by simp [ho]
 have t4 : (n.op == 4) = false := by simp [ho]
 have t8 : (n.op == 8) = false := by simp [ho]
 have t11 : (n.op == 11) = false := by simp [ho]
 have t12 : (n.op == 12) = false := by simp [ho]
 have t13 : (n.op == 13) = false := by simp [ho]
 have t5 : (n.op == 5) = false := by simp [ho]
 have t6 : (n.op == 6) = false := by simp [ho]
 have t9 : (n.op == 9) = false := by simp [ho]
 have t10 : (n.op == 10) = false := by simp [ho]
 have t21 : (n.op == 21) = false := by simp [ho]
 have t22 : (n.op == 22) = false := by simp [ho]
 have t23 : (n.op == 23) = true := by simp [ho]
 have t24 : (n.op == 24) = false := by simp [ho]
 have hcall := hni0.next hxb ha hex (rest := rest) hdr1;unfold nw at hcall;have HA := Lib.hid hcall;have hlen : i + (n :: a).length = i + 1 + a.length := by simp; omega
 rw [hlen, evX_one x.es x.q (by omega) hex];have ho' : n.op = 9 ∨ n.op = 10 ∨ n.op = 21 ∨ n.op = 22 ∨ n.op = 23 ∨ n.op = 24 := by omega
 have HOP := Lib.hid ho';have HNS := Lib.hid hns;generalize i + 1 + a.length = j at HA ⊢;generalize evX x.es x.q a = q at HA ⊢;obtain ⟨q', hq'⟩ : ∃ q', q' = q.bind (fun v => singleR x.es n v) := ⟨_, rfl⟩;rw [← hq'];have HQ := Lib.hid hq';clear hcall hni0 hdr1 ha hex ho ho' hlen hns hq';go_enter Tryz.func52, Tryz.ntmps52
 go_wp2_with fail
 refine wp_region_ord (S := NxS xb i be oe x n w) [(0, false), (1, false), (2, false), (3, false), (4, false), (5, false), (6, false), (7, false), (8, false), (9, false), (10, true), (11, true)] (by kernel_rfl) (by kernel_rfl) (fun _ _ _ _ _ h => h) HS1.out (fun hW' => ?_);simp only [ordOps, List.filterMap_cons, List.filterMap_nil, List.getElem?_cons_zero, List.getElem?_cons_succ, Option.map_some];(repeat (first | (refine hd_take (v := ?_) (by rfl) ?_ ?_; rotate_left; (focus (intro W hW; obtain ⟨s0, s1, s2, s3, s4, s5⟩ := hW; go_simp; try with_reducible rfl)); simp only [Act.put, List.setIfInBounds_toArray, List.set_cons_zero, List.set_cons_succ]) | (refine hd_skip (by rfl) ?_; simp only [Act.put, List.setIfInBounds_toArray, List.set_cons_zero, List.set_cons_succ])))
 clear hW';refine hd_call (fun K hK => ?_);go_simp
 refine hK _ _ (HS0.out _) ?_;clear hK K;refine hd_call (fun K hK => ?_);go_simp
 refine hK _ _ (HS0.out _) ?_;clear hK K;refine hd_nil ?_;go_wp2_with fail
 refine HA.out.mono ?_;rintro r w1 ⟨hq1, hq2, ho1, hoW1⟩;have HO1 := Lib.hid ho1;clear ho1 hoW1;cases q with
 | bad k =>
  have hr := hq2 k rfl;subst hr;clear hq1 hq2;obtain rfl : q' = .bad k := HQ.out;clear HQ;go_wp2_with fail
  exact ⟨rfl, NextPost.bad HO1.out⟩
 | ok v =>
  obtain ⟨A, c, rfl, hv, hvi, -, hn1⟩ := hq1 v rfl;have HN1 := Lib.hid hn1;have hs := eval_single x xb j n v A c w1 hn1.ev hn1.blk hv hvi HNS.out HOP.out;rw [show singleR x.es n v = q' from HQ.out.symm] at hs;have HS := Lib.hid hs;have c0 : w1.cell? ⟨w.heap.size, 0, none⟩ = some (.int .i64 n.op) := hn1.nd.c0;have c1 : w1.cell? ⟨w.heap.size, 1, none⟩ = some (.int .i64 n.n) := hn1.nd.c1;have c2 : w1.cell? ⟨w.heap.size, 2, none⟩ = some (.string n.s) := hn1.nd.c2;have c3 : w1.cell? ⟨w.heap.size, 3, none⟩ = some (.string n.t) := hn1.nd.c3;clear hn1 hq1 hq2 hv hvi hs HQ;go_wp2_with fail
  refine HS.out.mono ?_;rintro r w2 hr2;have hpost := NextPost.rs HN1.out hr2;obtain ⟨g1, g2, -⟩ := hr2;have HP := Lib.hid hpost;clear hpost;cases q' with
  | bad k =>
   have hr := g2 k rfl;subst hr;clear g1 g2;go_wp2_with fail
   exact ⟨rfl, HP.out⟩
  | ok u =>
   obtain ⟨A2, c2', rfl, -⟩ := g1 u rfl;clear g1 g2;go_wp2_with fail
   go_ret
   exact HP.out
set_option maxHeartbeats 6400000 in
theorem next_24 (x : Evl) (n : Nd) (a : List Nd) (ha : NextOk x a) (hex : Ex (.one false) a) (ho : n.op = 24) : NextOk x (n :: a) := by
 intro i xb rest w hdr hx hB;have hn : x.e[i]? = some n := by
  have := congrArg (fun l => l[0]?) hdr;simpa [List.getElem?_drop] using this
 have hil : i < x.e.length := (List.getElem?_eq_some_iff.1 hn).1;have hxb := hB.lt;obtain ⟨be, oe, hea, hbe, hcs⟩ := hx.ex.at_ hil;obtain ⟨n0, n1, n2, n3⟩ := hcs i n hn;have hS0 : NxS xb i be oe x n w w.drew := ⟨by rw [← hea]; exact hB.cell 8, hB.cell 9, n0, n1, n2, n3⟩;have hbw : be < w.heap.size := Nat.lt_trans hbe hxb;have HS0 := Lib.hid (hS0.alloc hxb hbw);have HS1 := Lib.hid hS0;have hia := node_at be oe x.e.length x.eca i hil;have HDR := Lib.hid hdr;have hni := nx_start (n := n) hx hB;have HNI := Lib.hid hni;have h9 : w.cell? ⟨xb, 9, none⟩ = some (.int .i64 i) := hS0.s1;have hf9 : w.frozen? ⟨xb, 9, none⟩ = false := hB.frozen 9;have hi1 : IntKind.wrap .i64 ((i : Int) + 1) = (i : Int) + 1 := by
  have := hx.el;exact IntWalk.i64_in _ (by omega)
 have hni0 := hni.drew;have hdr1 : x.e.drop (i + 1) = a ++ rest := by
  have := congrArg List.tail hdr;simpa [List.tail_drop] using this
 have hns : n.s.size ≤ 140737488351232 := (hx.ek n (List.mem_of_getElem? hn)).1;clear hcs n0 n1 n2 n3 hea hn hx hB hdr hS0 hni HDR;have t1 : (n.op == 1) = false := by simp [ho]
 have t2 : (n.op == 2) = false := by simp [ho]
 have t3 : (n.op == 3) = false := by simp [ho]
 have t4 : (n.op == 4) = false := by simp [ho]
 have t8 : (n.op == 8) = false := by simp [ho]
 have t11 : (n.op == 11) = false := by simp [ho]
 have t12 : (n.op == 12) = false := by simp [ho]
 have t13 : (n.op == 13) = false := by simp [ho]
 have t5 : (n.op == 5) = false := by simp [ho]
 have t6 : (n.op == 6) = false := by simp [ho]
 have t9 : (n.op == 9) = false := by simp [ho]
 have t10 : (n.op == 10) = false := by simp [ho]
 have t21 : (n.op == 21) = false := by simp [ho]
 have t22 : (n.op == 22) = false := by simp [ho]
 have t23 : (n.op == 23) = false := by simp [ho]
 have t24 : (n.op == 24) = true := by simp [ho]
 have hcall := hni0.next hxb ha hex (rest := rest) hdr1;unfold nw at hcall;have HA := Lib.hid hcall;have hlen : i + (n :: a).length = i + 1 + a.length := by simp; omega
 rw [hlen, evX_one x.es x.q (by omega) hex];have ho' : n.op = 9 ∨ n.op = 10 ∨ n.op = 21 ∨ n.op = 22 ∨ n.op = 23 ∨ n.op = 24 := by omega
 have HOP := Lib.hid ho';have HNS := Lib.hid hns;generalize i + 1 + a.length = j at HA ⊢;generalize evX x.es x.q a = q at HA ⊢;obtain ⟨q', hq'⟩ : ∃ q', q' = q.bind (fun v => singleR x.es n v) := ⟨_, rfl⟩;rw [← hq'];have HQ := Lib.hid hq';clear hcall hni0 hdr1 ha hex ho ho' hlen hns hq';go_enter Tryz.func52, Tryz.ntmps52
 go_wp2_with fail
 refine wp_region_ord (S := NxS xb i be oe x n w) [(0, false), (1, false), (2, false), (3, false), (4, false), (5, false), (6, false), (7, false), (8, false), (9, false), (10, true), (11, true)] (by kernel_rfl) (by kernel_rfl) (fun _ _ _ _ _ h => h) HS1.out (fun hW' => ?_);simp only [ordOps, List.filterMap_cons, List.filterMap_nil, List.getElem?_cons_zero, List.getElem?_cons_succ, Option.map_some];(repeat (first | (refine hd_take (v := ?_) (by rfl) ?_ ?_; rotate_left; (focus (intro W hW; obtain ⟨s0, s1, s2, s3, s4, s5⟩ := hW; go_simp; try with_reducible rfl)); simp only [Act.put, List.setIfInBounds_toArray, List.set_cons_zero, List.set_cons_succ]) | (refine hd_skip (by rfl) ?_; simp only [Act.put, List.setIfInBounds_toArray, List.set_cons_zero, List.set_cons_succ])))
 clear hW';refine hd_call (fun K hK => ?_);go_simp
 refine hK _ _ (HS0.out _) ?_;clear hK K;refine hd_call (fun K hK => ?_);go_simp
 refine hK _ _ (HS0.out _) ?_;clear hK K;refine hd_nil ?_;go_wp2_with fail
 refine HA.out.mono ?_;rintro r w1 ⟨hq1, hq2, ho1, hoW1⟩;have HO1 := Lib.hid ho1;clear ho1 hoW1;cases q with
 | bad k =>
  have hr := hq2 k rfl;subst hr;clear hq1 hq2;obtain rfl : q' = .bad k := HQ.out;clear HQ;go_wp2_with fail
  exact ⟨rfl, NextPost.bad HO1.out⟩
 | ok v =>
  obtain ⟨A, c, rfl, hv, hvi, -, hn1⟩ := hq1 v rfl;have HN1 := Lib.hid hn1;have hs := eval_single x xb j n v A c w1 hn1.ev hn1.blk hv hvi HNS.out HOP.out;rw [show singleR x.es n v = q' from HQ.out.symm] at hs;have HS := Lib.hid hs;have c0 : w1.cell? ⟨w.heap.size, 0, none⟩ = some (.int .i64 n.op) := hn1.nd.c0;have c1 : w1.cell? ⟨w.heap.size, 1, none⟩ = some (.int .i64 n.n) := hn1.nd.c1;have c2 : w1.cell? ⟨w.heap.size, 2, none⟩ = some (.string n.s) := hn1.nd.c2;have c3 : w1.cell? ⟨w.heap.size, 3, none⟩ = some (.string n.t) := hn1.nd.c3;clear hn1 hq1 hq2 hv hvi hs HQ;go_wp2_with fail
  refine HS.out.mono ?_;rintro r w2 hr2;have hpost := NextPost.rs HN1.out hr2;obtain ⟨g1, g2, -⟩ := hr2;have HP := Lib.hid hpost;clear hpost;cases q' with
  | bad k =>
   have hr := g2 k rfl;subst hr;clear g1 g2;go_wp2_with fail
   exact ⟨rfl, HP.out⟩
  | ok u =>
   obtain ⟨A2, c2', rfl, -⟩ := g1 u rfl;clear g1 g2;go_wp2_with fail
   go_ret
   exact HP.out
set_option maxHeartbeats 6400000 in
theorem next_two (x : Evl) (n : Nd) (a b : List Nd) (ha : NextOk x a) (hb : NextOk x b) (hex : Ex (.one false) a) (hexb : Ex (.one false) b) (ho : n.op = 14 ∨ n.op = 15 ∨ n.op = 16 ∨ n.op = 17 ∨ n.op = 18 ∨ n.op = 19 ∨ n.op = 20 ∨ n.op = 25 ∨ n.op = 26 ∨ n.op = 27) : NextOk x (n :: (a ++ b)) := by
 intro i xb rest w hdr hx hB;have hn : x.e[i]? = some n := by
  have := congrArg (fun l => l[0]?) hdr;simpa [List.getElem?_drop] using this
 have hil : i < x.e.length := (List.getElem?_eq_some_iff.1 hn).1;have hxb := hB.lt;obtain ⟨be, oe, hea, hbe, hcs⟩ := hx.ex.at_ hil;obtain ⟨n0, n1, n2, n3⟩ := hcs i n hn;have hS0 : NxS xb i be oe x n w w.drew := ⟨by rw [← hea]; exact hB.cell 8, hB.cell 9, n0, n1, n2, n3⟩;have hbw : be < w.heap.size := Nat.lt_trans hbe hxb;have HS0 := Lib.hid (hS0.alloc hxb hbw);have HS1 := Lib.hid hS0;have hia := node_at be oe x.e.length x.eca i hil;have HDR := Lib.hid hdr;have hni := nx_start (n := n) hx hB;have HNI := Lib.hid hni;have h9 : w.cell? ⟨xb, 9, none⟩ = some (.int .i64 i) := hS0.s1;have hf9 : w.frozen? ⟨xb, 9, none⟩ = false := hB.frozen 9;have hi1 : IntKind.wrap .i64 ((i : Int) + 1) = (i : Int) + 1 := by
  have := hx.el;exact IntWalk.i64_in _ (by omega)
 have hni0 := hni.drew;have hdr1 : x.e.drop (i + 1) = (a ++ b) ++ rest := by
  have := congrArg List.tail hdr;simpa [List.tail_drop] using this
 have hns : n.s.size ≤ 140737488351232 := (hx.ek n (List.mem_of_getElem? hn)).1;clear hcs n0 n1 n2 n3 hea hn hx hB hdr hS0 hni HDR;have t1 : (n.op == 1) = false := by simp; omega
 have t2 : (n.op == 2) = false := by simp; omega
 have t3 : (n.op == 3) = false := by simp; omega
 have t4 : (n.op == 4) = false := by simp; omega
 have t8 : (n.op == 8) = false := by simp; omega
 have t11 : (n.op == 11) = false := by simp; omega
 have t12 : (n.op == 12) = false := by simp; omega
 have t13 : (n.op == 13) = false := by simp; omega
 have t5 : (n.op == 5) = false := by simp; omega
 have t6 : (n.op == 6) = false := by simp; omega
 have t9 : (n.op == 9) = false := by simp; omega
 have t10 : (n.op == 10) = false := by simp; omega
 have t21 : (n.op == 21) = false := by simp; omega
 have t22 : (n.op == 22) = false := by simp; omega
 have t23 : (n.op == 23) = false := by simp; omega
 have t24 : (n.op == 24) = false := by simp; omega
 have hdr2 : x.e.drop (i + 1 + a.length) = b ++ rest := by
  rw [← List.drop_drop, hdr1]; simp
 have hcall := hni0.next hxb ha hex (rest := b ++ rest) (by rw [hdr1]; simp);unfold nw at hcall;have HA := Lib.hid hcall;have hlen : i + (n :: (a ++ b)).length = i + 1 + a.length + b.length := by simp; omega
 rw [hlen, evX_two x.es x.q (by omega) hex hexb];have ho' : n.op = 14 ∨ n.op = 15 ∨ n.op = 16 ∨ n.op = 17 ∨ n.op = 18 ∨ n.op = 19 ∨ n.op = 20 ∨ n.op = 25 ∨ n.op = 26 ∨ n.op = 27 := by omega
 have HOP := Lib.hid ho';have hB2 : ∀ W : World, NxI x xb (i + 1 + a.length) n w W → Calls Tryz.prog 52 #[.pointer (some ⟨xb, 0, none⟩)] W (NxA x xb (i + 1 + a.length + b.length) n (evX x.es x.q b) w W) := fun W h => h.next hxb hb hexb hdr2;have HB2 := Lib.hid hB2;generalize i + 1 + a.length + b.length = j2 at HB2 ⊢;generalize i + 1 + a.length = j at HA HB2;generalize evX x.es x.q a = q at HA ⊢;generalize evX x.es x.q b = qb at HB2 ⊢;obtain ⟨q', hq'⟩ : ∃ q', q' = q.bind (fun u => qb.bind fun v => doubleR x.es n.op u v) := ⟨_, rfl⟩;rw [← hq'];have HQ := Lib.hid hq';clear hcall hni0 hdr1 hdr2 ha hex hb hexb hB2 ho ho' hlen hns hq';go_enter Tryz.func52, Tryz.ntmps52
 go_wp2_with fail
 refine wp_region_ord (S := NxS xb i be oe x n w) [(0, false), (1, false), (2, false), (3, false), (4, false), (5, false), (6, false), (7, false), (8, false), (9, false), (10, true), (11, true)] (by kernel_rfl) (by kernel_rfl) (fun _ _ _ _ _ h => h) HS1.out (fun hW' => ?_);simp only [ordOps, List.filterMap_cons, List.filterMap_nil, List.getElem?_cons_zero, List.getElem?_cons_succ, Option.map_some];(repeat (first | (refine hd_take (v := ?_) (by rfl) ?_ ?_; rotate_left; (focus (intro W hW; obtain ⟨s0, s1, s2, s3, s4, s5⟩ := hW; go_simp; try with_reducible rfl)); simp only [Act.put, List.setIfInBounds_toArray, List.set_cons_zero, List.set_cons_succ]) | (refine hd_skip (by rfl) ?_; simp only [Act.put, List.setIfInBounds_toArray, List.set_cons_zero, List.set_cons_succ])))
 clear hW';refine hd_call (fun K hK => ?_);go_simp
 refine hK _ _ (HS0.out _) ?_;clear hK K;refine hd_call (fun K hK => ?_);go_simp
 refine hK _ _ (HS0.out _) ?_;clear hK K;refine hd_nil ?_;go_wp2_with fail
 refine HA.out.mono ?_;rintro r w1 ⟨hq1, hq2, ho1, hoW1⟩;have HO1 := Lib.hid ho1;clear ho1 hoW1;cases q with
 | bad k =>
  have hr := hq2 k rfl;subst hr;clear hq1 hq2;obtain rfl : q' = .bad k := HQ.out;clear HQ;go_wp2_with fail
  exact ⟨rfl, NextPost.bad HO1.out⟩
 | ok v =>
  obtain ⟨A, c, rfl, hv, hvi, hoff, hn1⟩ := hq1 v rfl;have HN1 := Lib.hid hn1.drew;have HV := Lib.hid hv;have HVI := Lib.hid hvi;have HOF := Lib.hid hoff;have hS : OpS w.heap.size n.op w1.drew := ⟨hn1.nd.c0⟩;have HS := Lib.hid hS;have c0 : w1.cell? ⟨w.heap.size, 0, none⟩ = some (.int .i64 n.op) := hn1.nd.c0;clear hS hoff hn1 hq1 hq2 hv hvi;go_wp2_with fail
  refine wp_region_ord (S := OpS w.heap.size n.op) [(0, false), (1, false), (2, false), (3, false), (4, false), (5, true), (6, true), (7, false)] (by kernel_rfl) (by kernel_rfl) (fun _ _ _ _ _ h => h) HS.out (fun hW' => ?_);clear hW';simp only [ordOps, List.filterMap_cons, List.filterMap_nil, List.getElem?_cons_zero, List.getElem?_cons_succ, Option.map_some];(repeat (first | (refine hd_take (v := ?_) (by rfl) ?_ ?_; rotate_left; (focus (intro W hW; obtain ⟨s0⟩ := hW; go_simp; try with_reducible rfl)); simp only [Act.put, List.setIfInBounds_toArray, List.set_cons_zero, List.set_cons_succ]) | (refine hd_skip (by rfl) ?_; simp only [Act.put, List.setIfInBounds_toArray, List.set_cons_zero, List.set_cons_succ])))
  refine hd_call (fun K hK => ?_);go_simp
  refine (HB2.out _ HN1.out).mono ?_;rintro r w2 ⟨hp1, hp2, ho2, hoW2⟩;have HO2 := Lib.hid ho2;cases qb with
  | bad k =>
   have hr := hp2 k rfl;subst hr;dsimp only;clear hK K hp1 hp2;obtain rfl : q' = .bad k := HQ.out;clear HQ;go_wp2_with fail
   exact ⟨rfl, NextPost.bad HO2.out⟩
  | ok u =>
   obtain ⟨A2, c2', rfl, hu, hui, -, hn2⟩ := hp1 u rfl;have HN2 := Lib.hid hn2;have hof2 : NdOff (gx xb w) w2 w2.heap.size A v := HOF.out.past (w' := w2) (⟨hoW2.os, hoW2.tape, hoW2.output, hoW2.size, hoW2.block⟩ : Only w1.heap.size xb w1 w2) (Nat.le_refl _) hxb;have hv2 : ValIn v A c w2 := ⟨HV.out.ok, HV.out.nd, HV.out.le, HV.out.max, hof2.sl⟩;have hs := eval_double x xb j2 n.op v u A A2 c c2' w2 hn2.ev hn2.blk hv2 hu HVI.out hui HOP.out;rw [show doubleR x.es n.op v u = q' from HQ.out.symm] at hs;have HD := Lib.hid hs;refine hK _ _ ⟨hn2.nd.c0⟩ ?_;clear hK K hn2 hof2 hv2 hs hu hui hp1 hp2 ho2 hoW2 HQ;refine hd_call (fun K hK => ?_);go_simp
   refine HD.out.mono ?_;rintro r w3 hr2;have hpost := NextPost.rs HN2.out hr2;obtain ⟨g1, g2, g3⟩ := hr2;have hS3 : OpS w.heap.size n.op w3 := ⟨(g3.cell (HN2.out).sz).trans HN2.out.nd.c0⟩;have HP := Lib.hid hpost;clear hpost g3;cases q' with
   | bad k =>
    have hr := g2 k rfl;subst hr;dsimp only;clear hK K g1 g2 hS3;go_wp2_with fail
    exact ⟨rfl, HP.out⟩
   | ok u =>
    obtain ⟨A3, c3', rfl, -⟩ := g1 u rfl;refine hK _ _ hS3 ?_;clear hK K g1 g2 hS3;(repeat (first | (refine hd_take (v := ?_) (by rfl) ?_ ?_; rotate_left; (focus (intro W hW; obtain ⟨s0⟩ := hW; go_simp; try with_reducible rfl)); simp only [Act.put, List.setIfInBounds_toArray, List.set_cons_zero, List.set_cons_succ]) | (refine hd_skip (by rfl) ?_; simp only [Act.put, List.setIfInBounds_toArray, List.set_cons_zero, List.set_cons_succ])))
    refine hd_nil ?_;go_wp2_with fail
    go_ret
    exact HP.out
theorem next_14 (x : Evl) (n : Nd) (a b : List Nd) (ha : NextOk x a) (hb : NextOk x b) (hex : Ex (.one false) a) (hexb : Ex (.one false) b) (ho : n.op = 14) : NextOk x (n :: (a ++ b)) := next_two x n a b ha hb hex hexb (by omega)
theorem next_15 (x : Evl) (n : Nd) (a b : List Nd) (ha : NextOk x a) (hb : NextOk x b) (hex : Ex (.one false) a) (hexb : Ex (.one false) b) (ho : n.op = 15) : NextOk x (n :: (a ++ b)) := next_two x n a b ha hb hex hexb (by omega)
theorem next_16 (x : Evl) (n : Nd) (a b : List Nd) (ha : NextOk x a) (hb : NextOk x b) (hex : Ex (.one false) a) (hexb : Ex (.one false) b) (ho : n.op = 16) : NextOk x (n :: (a ++ b)) := next_two x n a b ha hb hex hexb (by omega)
theorem next_17 (x : Evl) (n : Nd) (a b : List Nd) (ha : NextOk x a) (hb : NextOk x b) (hex : Ex (.one false) a) (hexb : Ex (.one false) b) (ho : n.op = 17) : NextOk x (n :: (a ++ b)) := next_two x n a b ha hb hex hexb (by omega)
theorem next_18 (x : Evl) (n : Nd) (a b : List Nd) (ha : NextOk x a) (hb : NextOk x b) (hex : Ex (.one false) a) (hexb : Ex (.one false) b) (ho : n.op = 18) : NextOk x (n :: (a ++ b)) := next_two x n a b ha hb hex hexb (by omega)
theorem next_19 (x : Evl) (n : Nd) (a b : List Nd) (ha : NextOk x a) (hb : NextOk x b) (hex : Ex (.one false) a) (hexb : Ex (.one false) b) (ho : n.op = 19) : NextOk x (n :: (a ++ b)) := next_two x n a b ha hb hex hexb (by omega)
theorem next_20 (x : Evl) (n : Nd) (a b : List Nd) (ha : NextOk x a) (hb : NextOk x b) (hex : Ex (.one false) a) (hexb : Ex (.one false) b) (ho : n.op = 20) : NextOk x (n :: (a ++ b)) := next_two x n a b ha hb hex hexb (by omega)
theorem next_25 (x : Evl) (n : Nd) (a b : List Nd) (ha : NextOk x a) (hb : NextOk x b) (hex : Ex (.one false) a) (hexb : Ex (.one false) b) (ho : n.op = 25) : NextOk x (n :: (a ++ b)) := next_two x n a b ha hb hex hexb (by omega)
theorem next_26 (x : Evl) (n : Nd) (a b : List Nd) (ha : NextOk x a) (hb : NextOk x b) (hex : Ex (.one false) a) (hexb : Ex (.one false) b) (ho : n.op = 26) : NextOk x (n :: (a ++ b)) := next_two x n a b ha hb hex hexb (by omega)
theorem next_27 (x : Evl) (n : Nd) (a b : List Nd) (ha : NextOk x a) (hb : NextOk x b) (hex : Ex (.one false) a) (hexb : Ex (.one false) b) (ho : n.op = 27) : NextOk x (n :: (a ++ b)) := next_two x n a b ha hb hex hexb (by omega)
end Go.Proofs.YtpheiojmcafolaaGreatDoor
namespace Go.Proofs.YtpheiojmcafolaaGreatDoor
set_option maxRecDepth 100000
open Go.RowKit Go.Sort
structure SkS (xb : Nat) (v : Value) (W : World) : Prop where
 s0 : W.cell? ⟨xb, 8, none⟩ = some v
def FewIn (x : Evl) : Prop := ∀ y ∈ x.e, 0 ≤ ndParts y ∧ ndParts y ≤ 200
set_option maxHeartbeats 6400000 in
theorem eval_skip (x : Evl) (xb j : Nat) (p rest : List Nd) (w : World) (hf : FewIn x) (hex : Ex (.one false) p) (hd : x.e.drop j = p ++ rest) (hx : EvIn x xb w) (hB : Blk w xb 99 (x.cells j)) :
 Calls Tryz.prog 109 #[.pointer (some ⟨xb, 0, none⟩)] w fun r w' => r = .returned (.tuple #[]) ∧ Blk w' xb 99 (x.cells (j + p.length)) ∧ Only w.heap.size xb w w' := by
 have hxb := hB.lt;have hj : j ≤ x.e.length := by
  obtain ⟨y, r, e, -⟩ := ex_ne hex;have := congrArg List.length hd;rw [e] at this;simp at this; omega
 have hsk := tree_Skip x.e x.ea x.eca j (j + p.length) w.drew hx.el ((hx.drew).ex.more (Nat.le_of_lt hxb)) hf (by rw [hd]; exact skP_at hex rest j) hj;have HSK := Lib.hid hsk;have HB := Lib.hid hB;have hS : SkS xb (.slice x.ea x.e.length x.eca) w.drew := ⟨hB.cell 8⟩;have HS := Lib.hid hS;have h9 : w.cell? ⟨xb, 9, none⟩ = some (.int .i64 j) := hB.cell 9;clear hsk hx hex hd hS hf hj;go_enter Tryz.func109, Tryz.ntmps109
 go_wp2_with fail
 refine wp_region_ord (S := SkS xb (.slice x.ea x.e.length x.eca)) [(0, false), (1, false), (2, false), (3, false), (4, false), (5, false), (6, false), (7, false), (8, true), (9, true), (10, false), (11, false), (12, true)] (by kernel_rfl) (by kernel_rfl) (fun _ _ _ _ _ h => h) HS.out (fun hW' => ?_);simp only [ordOps, List.filterMap_cons, List.filterMap_nil, List.getElem?_cons_zero, List.getElem?_cons_succ, Option.map_some];(repeat (first | (refine hd_take (v := ?_) (by rfl) ?_ ?_; rotate_left; (focus (intro W hW; obtain ⟨s0⟩ := hW; go_simp; try with_reducible rfl)); simp only [Act.put, List.setIfInBounds_toArray, List.set_cons_zero, List.set_cons_succ]) | (refine hd_skip (by rfl) ?_; simp only [Act.put, List.setIfInBounds_toArray, List.set_cons_zero, List.set_cons_succ])))
 refine hd_call (fun K hK => ?_);go_simp
 refine hK _ _ HS.out ?_;clear hK K hW';refine hd_call (fun K hK => ?_);go_simp
 refine HSK.out.mono ?_;rintro r w1 ⟨rfl, hb1'⟩;have hb1 : RowKit.Below w.heap.size w w1 := (RowKit.Below.refl w.heap.size w).drew.trans hb1';clear hb1';have hB1 : Blk w1 xb 99 (x.cells j) := HB.out.below hb1 hxb;have hS1 : SkS xb (.slice x.ea x.e.length x.eca) w1 := ⟨hB1.cell 8⟩;have HB1 := Lib.hid hB1;have f9 : w1.frozen? ⟨xb, 9, none⟩ = false := hB1.frozen 9;have c9 : w1.cell? ⟨xb, 9, none⟩ = some (.int .i64 j) := hB1.cell 9;have HO1 := Lib.hid (Only.of_below (g := xb) hb1 (Nat.le_refl _));refine hK _ _ hS1 ?_;clear hK K hS1 hB1 hb1;(repeat (first | (refine hd_take (v := ?_) (by rfl) ?_ ?_; rotate_left; (focus (intro W hW; obtain ⟨s0⟩ := hW; go_simp; try with_reducible rfl)); simp only [Act.put, List.setIfInBounds_toArray, List.set_cons_zero, List.set_cons_succ]) | (refine hd_skip (by rfl) ?_; simp only [Act.put, List.setIfInBounds_toArray, List.set_cons_zero, List.set_cons_succ])))
 refine hd_call (fun K hK => ?_);go_simp
 have hB2 : Blk (w1.setCell ⟨xb, 9, none⟩ (.int .i64 ((j : Int) + (p.length : Int)))) xb 99 (x.cells (j + p.length)) := by
  have := HB1.out.set 9 (.int .i64 ((j : Int) + (p.length : Int)));exact this
 have HB2 := Lib.hid hB2;have hS2 : SkS xb (.slice x.ea x.e.length x.eca) (w1.setCell ⟨xb, 9, none⟩ (.int .i64 ((j : Int) + (p.length : Int)))) := ⟨hB2.cell 8⟩;have HOS := Lib.hid (HO1.out.setCell (p := ⟨xb, 9, none⟩) (Or.inl rfl) (.int .i64 ((j : Int) + (p.length : Int))));refine hK _ _ hS2 ?_;clear hK K hS2 hB2;refine hd_nil ?_;go_wp2_with fail
 simp [bodyPost, results, Tryz.results109, go_sem];exact ⟨HB2.out, HOS.out⟩
def NamP (xb : Nat) (q : Rs (List Nd)) (w : World) (r : Ending) (w' : World) : Prop :=
 (∀ v, q = .ok v → ∃ A c, r = .returned (.slice A v.length c) ∧ v.length ≤ c ∧ c ≤ 9223372036854775807 ∧ NdOff (gx xb w) w' w'.heap.size A v) ∧ (∀ k, q = .bad k → r = .panicked (noV k)) ∧ RowKit.Below w.heap.size w w'
theorem NamP.bad {xb : Nat} {k : Int} {w w' : World} (h : RowKit.Below w.heap.size w w') : NamP xb (.bad k) w (.panicked (noV k)) w' := ⟨fun v e => (nomatch e), fun k' e => by injection e with e; subst e; rfl, h⟩
theorem NamP.new {xb : Nat} {v : List Nd} {w w' : World} {r : Ending} (_hx : xb < w.heap.size) (h : NdsNew w r w' v) : NamP xb (.ok v) w r w' := by
 obtain ⟨A, c, e, g1, g2, g3, g4, g5⟩ := h;have hof : NdOff (gx xb w) w' w'.heap.size A v := fun hne => by
  obtain ⟨b, o, e1, e2, e3⟩ := g3 hne;exact ⟨b, o, e1, e2, by have := g5 b o e1; unfold gx; omega, e3⟩
 exact ⟨fun u hu => by injection hu with hu; subst hu; exact ⟨A, c, e, g1, g2, hof⟩, fun k e => (nomatch e), g4⟩
set_option maxHeartbeats 6400000 in
theorem named_1 (x : Evl) (xb j : Nat) (s : ByteArray) (w : World) (_hx : EvIn x xb w) (hB : Blk w xb 99 (x.cells j)) (e1 : s.toList = [112, 114, 105, 110, 99, 105, 112, 97, 108]) :
 Calls Tryz.prog 85 #[.pointer (some ⟨xb, 0, none⟩), .string s] w fun r w' => NamP xb (.ok [eN x.q.who]) w r w' := by
 have hxb := hB.lt;have c1 : w.cell? ⟨xb, 1, none⟩ = some (.string x.q.who.ty) := hB.cell 1;have c2 : w.cell? ⟨xb, 2, none⟩ = some (.string x.q.who.id) := hB.cell 2;have c3 : w.cell? ⟨xb, 3, none⟩ = some (.string x.q.act.ty) := hB.cell 3;have c4 : w.cell? ⟨xb, 4, none⟩ = some (.string x.q.act.id) := hB.cell 4;have c5 : w.cell? ⟨xb, 5, none⟩ = some (.string x.q.what.ty) := hB.cell 5;have c6 : w.cell? ⟨xb, 6, none⟩ = some (.string x.q.what.id) := hB.cell 6;have c7 : w.cell? ⟨xb, 7, none⟩ = some (.slice x.qa x.q.ctx.length x.qc) := hB.cell 7;have t1 : (s.toList == [112, 114, 105, 110, 99, 105, 112, 97, 108]) = true := by simpa using e1
 clear e1;clear _hx hB;generalize x.q.who = u at *;go_enter Tryz.func85, Tryz.ntmps85
 go_wp2_with fail
 refine (eval_entity u _).mono ?_;rintro r w1 hn;have HN := Lib.hid (NamP.new hxb hn);obtain ⟨A1, d1, rfl, -⟩ := hn;go_wp2_with fail
 go_ret
 exact HN.out
set_option maxHeartbeats 6400000 in
theorem named_2 (x : Evl) (xb j : Nat) (s : ByteArray) (w : World) (_hx : EvIn x xb w) (hB : Blk w xb 99 (x.cells j)) (n1 : ¬ s.toList = [112, 114, 105, 110, 99, 105, 112, 97, 108]) (e2 : s.toList = [97, 99, 116, 105, 111, 110]) :
 Calls Tryz.prog 85 #[.pointer (some ⟨xb, 0, none⟩), .string s] w fun r w' => NamP xb (.ok [eN x.q.act]) w r w' := by
 have hxb := hB.lt;have c1 : w.cell? ⟨xb, 1, none⟩ = some (.string x.q.who.ty) := hB.cell 1;have c2 : w.cell? ⟨xb, 2, none⟩ = some (.string x.q.who.id) := hB.cell 2;have c3 : w.cell? ⟨xb, 3, none⟩ = some (.string x.q.act.ty) := hB.cell 3;have c4 : w.cell? ⟨xb, 4, none⟩ = some (.string x.q.act.id) := hB.cell 4;have c5 : w.cell? ⟨xb, 5, none⟩ = some (.string x.q.what.ty) := hB.cell 5;have c6 : w.cell? ⟨xb, 6, none⟩ = some (.string x.q.what.id) := hB.cell 6;have c7 : w.cell? ⟨xb, 7, none⟩ = some (.slice x.qa x.q.ctx.length x.qc) := hB.cell 7;have t1 : (s.toList == [112, 114, 105, 110, 99, 105, 112, 97, 108]) = false := by simpa using n1
 have t2 : (s.toList == [97, 99, 116, 105, 111, 110]) = true := by simpa using e2
 clear n1 e2;clear _hx hB;generalize x.q.act = u at *;go_enter Tryz.func85, Tryz.ntmps85
 go_wp2_with fail
 refine (eval_entity u _).mono ?_;rintro r w1 hn;have HN := Lib.hid (NamP.new hxb hn);obtain ⟨A1, d1, rfl, -⟩ := hn;go_wp2_with fail
 go_ret
 exact HN.out
set_option maxHeartbeats 6400000 in
theorem named_3 (x : Evl) (xb j : Nat) (s : ByteArray) (w : World) (_hx : EvIn x xb w) (hB : Blk w xb 99 (x.cells j)) (n1 : ¬ s.toList = [112, 114, 105, 110, 99, 105, 112, 97, 108]) (n2 : ¬ s.toList = [97, 99, 116, 105, 111, 110]) (e3 : s.toList = [114, 101, 115, 111, 117, 114, 99, 101]) :
 Calls Tryz.prog 85 #[.pointer (some ⟨xb, 0, none⟩), .string s] w fun r w' => NamP xb (.ok [eN x.q.what]) w r w' := by
 have hxb := hB.lt;have c1 : w.cell? ⟨xb, 1, none⟩ = some (.string x.q.who.ty) := hB.cell 1;have c2 : w.cell? ⟨xb, 2, none⟩ = some (.string x.q.who.id) := hB.cell 2;have c3 : w.cell? ⟨xb, 3, none⟩ = some (.string x.q.act.ty) := hB.cell 3;have c4 : w.cell? ⟨xb, 4, none⟩ = some (.string x.q.act.id) := hB.cell 4;have c5 : w.cell? ⟨xb, 5, none⟩ = some (.string x.q.what.ty) := hB.cell 5;have c6 : w.cell? ⟨xb, 6, none⟩ = some (.string x.q.what.id) := hB.cell 6;have c7 : w.cell? ⟨xb, 7, none⟩ = some (.slice x.qa x.q.ctx.length x.qc) := hB.cell 7;have t1 : (s.toList == [112, 114, 105, 110, 99, 105, 112, 97, 108]) = false := by simpa using n1
 have t2 : (s.toList == [97, 99, 116, 105, 111, 110]) = false := by simpa using n2
 have t3 : (s.toList == [114, 101, 115, 111, 117, 114, 99, 101]) = true := by simpa using e3
 clear n1 n2 e3;clear _hx hB;generalize x.q.what = u at *;go_enter Tryz.func85, Tryz.ntmps85
 go_wp2_with fail
 refine (eval_entity u _).mono ?_;rintro r w1 hn;have HN := Lib.hid (NamP.new hxb hn);obtain ⟨A1, d1, rfl, -⟩ := hn;go_wp2_with fail
 go_ret
 exact HN.out
set_option maxHeartbeats 6400000 in
theorem named_4 (x : Evl) (xb j : Nat) (s : ByteArray) (w : World) (hx : EvIn x xb w) (hB : Blk w xb 99 (x.cells j)) (n1 : ¬ s.toList = [112, 114, 105, 110, 99, 105, 112, 97, 108]) (n2 : ¬ s.toList = [97, 99, 116, 105, 111, 110]) (n3 : ¬ s.toList = [114, 101, 115, 111, 117, 114, 99, 101]) (e4 : s.toList = [99, 111, 110, 116, 101, 120, 116]) :
 Calls Tryz.prog 85 #[.pointer (some ⟨xb, 0, none⟩), .string s] w fun r w' => NamP xb (.ok x.q.ctx) w r w' := by
 have hxb := hB.lt;have c1 : w.cell? ⟨xb, 1, none⟩ = some (.string x.q.who.ty) := hB.cell 1;have c2 : w.cell? ⟨xb, 2, none⟩ = some (.string x.q.who.id) := hB.cell 2;have c3 : w.cell? ⟨xb, 3, none⟩ = some (.string x.q.act.ty) := hB.cell 3;have c4 : w.cell? ⟨xb, 4, none⟩ = some (.string x.q.act.id) := hB.cell 4;have c5 : w.cell? ⟨xb, 5, none⟩ = some (.string x.q.what.ty) := hB.cell 5;have c6 : w.cell? ⟨xb, 6, none⟩ = some (.string x.q.what.id) := hB.cell 6;have c7 : w.cell? ⟨xb, 7, none⟩ = some (.slice x.qa x.q.ctx.length x.qc) := hB.cell 7;have t1 : (s.toList == [112, 114, 105, 110, 99, 105, 112, 97, 108]) = false := by simpa using n1
 have t2 : (s.toList == [97, 99, 116, 105, 111, 110]) = false := by simpa using n2
 have t3 : (s.toList == [114, 101, 115, 111, 117, 114, 99, 101]) = false := by simpa using n3
 have t4 : (s.toList == [99, 111, 110, 116, 101, 120, 116]) = true := by simpa using e4
 clear n1 n2 n3 e4;have hP : NamP xb (.ok x.q.ctx) w (.returned (.slice x.qa x.q.ctx.length x.qc)) w := ⟨fun v e => by injection e with e; subst e; exact ⟨x.qa, x.qc, rfl, hx.qc.1, hx.qc.2, hx.ctx.off (fun b e => e.1) (Nat.le_of_lt hxb)⟩, fun k e => (nomatch e), RowKit.Below.refl _ _⟩;have HP := Lib.hid hP;clear hx hB hP;go_enter Tryz.func85, Tryz.ntmps85
 go_wp2_with fail
 go_ret
 exact HP.out
set_option maxHeartbeats 6400000 in
theorem named_5 (x : Evl) (xb j : Nat) (s : ByteArray) (w : World) (_hx : EvIn x xb w) (hB : Blk w xb 99 (x.cells j)) (n1 : ¬ s.toList = [112, 114, 105, 110, 99, 105, 112, 97, 108]) (n2 : ¬ s.toList = [97, 99, 116, 105, 111, 110]) (n3 : ¬ s.toList = [114, 101, 115, 111, 117, 114, 99, 101]) (n4 : ¬ s.toList = [99, 111, 110, 116, 101, 120, 116]) :
 Calls Tryz.prog 85 #[.pointer (some ⟨xb, 0, none⟩), .string s] w fun r w' => NamP xb (.bad 3) w r w' := by
 have hxb := hB.lt;have c1 : w.cell? ⟨xb, 1, none⟩ = some (.string x.q.who.ty) := hB.cell 1;have c2 : w.cell? ⟨xb, 2, none⟩ = some (.string x.q.who.id) := hB.cell 2;have c3 : w.cell? ⟨xb, 3, none⟩ = some (.string x.q.act.ty) := hB.cell 3;have c4 : w.cell? ⟨xb, 4, none⟩ = some (.string x.q.act.id) := hB.cell 4;have c5 : w.cell? ⟨xb, 5, none⟩ = some (.string x.q.what.ty) := hB.cell 5;have c6 : w.cell? ⟨xb, 6, none⟩ = some (.string x.q.what.id) := hB.cell 6;have c7 : w.cell? ⟨xb, 7, none⟩ = some (.slice x.qa x.q.ctx.length x.qc) := hB.cell 7;have t1 : (s.toList == [112, 114, 105, 110, 99, 105, 112, 97, 108]) = false := by simpa using n1
 have t2 : (s.toList == [97, 99, 116, 105, 111, 110]) = false := by simpa using n2
 have t3 : (s.toList == [114, 101, 115, 111, 117, 114, 99, 101]) = false := by simpa using n3
 have t4 : (s.toList == [99, 111, 110, 116, 101, 120, 116]) = false := by simpa using n4
 clear n1 n2 n3 n4;clear _hx hB;go_enter Tryz.func85, Tryz.ntmps85
 go_wp2_with fail
 exact ⟨rfl, NamP.bad (RowKit.Below.refl _ _)⟩
theorem eval_named (x : Evl) (xb j : Nat) (s : ByteArray) (w : World) (hx : EvIn x xb w) (hB : Blk w xb 99 (x.cells j)) :
 Calls Tryz.prog 85 #[.pointer (some ⟨xb, 0, none⟩), .string s] w fun r w' => NamP xb (namedR x.q s.toList) w r w' := by
 unfold namedR;by_cases h1 : s.toList = [112, 114, 105, 110, 99, 105, 112, 97, 108]
 · rw [if_pos h1]; exact named_1 x xb j s w hx hB h1
 rw [if_neg h1];by_cases h2 : s.toList = [97, 99, 116, 105, 111, 110]
 · rw [if_pos h2]; exact named_2 x xb j s w hx hB h1 h2
 rw [if_neg h2];by_cases h3 : s.toList = [114, 101, 115, 111, 117, 114, 99, 101]
 · rw [if_pos h3]; exact named_3 x xb j s w hx hB h1 h2 h3
 rw [if_neg h3];by_cases h4 : s.toList = [99, 111, 110, 116, 101, 120, 116]
 · rw [if_pos h4]; exact named_4 x xb j s w hx hB h1 h2 h3 h4
 rw [if_neg h4];exact named_5 x xb j s w hx hB h1 h2 h3 h4
end Go.Proofs.YtpheiojmcafolaaGreatDoor
namespace Go.Proofs.YtpheiojmcafolaaGreatDoor
set_option maxRecDepth 100000
open Go.RowKit Go.Sort
theorem NextPost.nam {x : Evl} {xb j : Nat} {n : Nd} {q : Rs (List Nd)} {w W w' : World} {r : Ending} (h : NxI x xb j n w W) (hr : NamP xb q W r w') : NextPost x xb j q w r w' := by
 obtain ⟨h1, h2, h3⟩ := hr;have ho : Only W.heap.size xb W w' := Only.of_below h3 (Nat.le_refl _);refine ⟨fun v hv => ?_, h2, h.only.trans (ho.mono (Nat.le_of_lt h.sz))⟩;obtain ⟨A, c, e, g1, g2, g3⟩ := h1 v hv;exact ⟨A, c, e, g1, g2, g3.up (Nat.le_of_lt h.sz), h.blk.below h3 h.blk.lt⟩
theorem NextPost.up {x : Evl} {xb j j' : Nat} {n : Nd} {q : Rs (List Nd)} {w W w' : World} {r : Ending} (h : NxI x xb j n w W) (hr : NextPost x xb j' q W r w') : NextPost x xb j' q w r w' :=
 ⟨fun v hv => by obtain ⟨A, c, e, g1, g2, g3, g4⟩ := hr.1 v hv; exact ⟨A, c, e, g1, g2, g3.up (Nat.le_of_lt h.sz), g4⟩, hr.2.1, h.only.trans (hr.2.2.mono (Nat.le_of_lt h.sz))⟩
set_option maxHeartbeats 6400000 in
theorem next_8 (x : Evl) (n : Nd) (ho : n.op = 8) : NextOk x [n] := by
 intro i xb rest w hdr hx hB;have hn : x.e[i]? = some n := by
  have := congrArg (fun l => l[0]?) hdr;simpa [List.getElem?_drop] using this
 have hil : i < x.e.length := (List.getElem?_eq_some_iff.1 hn).1;have hxb := hB.lt;obtain ⟨be, oe, hea, hbe, hcs⟩ := hx.ex.at_ hil;obtain ⟨n0, n1, n2, n3⟩ := hcs i n hn;have hS0 : NxS xb i be oe x n w w.drew := ⟨by rw [← hea]; exact hB.cell 8, hB.cell 9, n0, n1, n2, n3⟩;have hbw : be < w.heap.size := Nat.lt_trans hbe hxb;have HS0 := Lib.hid (hS0.alloc hxb hbw);have HS1 := Lib.hid hS0;have hia := node_at be oe x.e.length x.eca i hil;have HDR := Lib.hid hdr;have hni := nx_start (n := n) hx hB;have HNI := Lib.hid hni;have h9 : w.cell? ⟨xb, 9, none⟩ = some (.int .i64 i) := hS0.s1;have hf9 : w.frozen? ⟨xb, 9, none⟩ = false := hB.frozen 9;have hi1 : IntKind.wrap .i64 ((i : Int) + 1) = (i : Int) + 1 := by
  have := hx.el;exact IntWalk.i64_in _ (by omega)
 have hni0 := hni.drew;have hdr1 : x.e.drop (i + 1) = [] ++ rest := by
  have := congrArg List.tail hdr;simpa [List.tail_drop] using this
 have hns : n.s.size ≤ 140737488351232 := (hx.ek n (List.mem_of_getElem? hn)).1;clear hcs n0 n1 n2 n3 hea hn hx hB hdr hS0 hni HDR;have t1 : (n.op == 1) = false := by simp [ho]
 have t2 : (n.op == 2) = false := by simp [ho]
 have t3 : (n.op == 3) = false := by simp [ho]
 have t4 : (n.op == 4) = false := by simp [ho]
 have t8 : (n.op == 8) = true := by simp [ho]
 have t11 : (n.op == 11) = false := by simp [ho]
 have t12 : (n.op == 12) = false := by simp [ho]
 have t13 : (n.op == 13) = false := by simp [ho]
 have t5 : (n.op == 5) = false := by simp [ho]
 have t6 : (n.op == 6) = false := by simp [ho]
 have t9 : (n.op == 9) = false := by simp [ho]
 have t10 : (n.op == 10) = false := by simp [ho]
 have t21 : (n.op == 21) = false := by simp [ho]
 have t22 : (n.op == 22) = false := by simp [ho]
 have t23 : (n.op == 23) = false := by simp [ho]
 have t24 : (n.op == 24) = false := by simp [ho]
 have hcall := eval_named x xb (i + 1) n.s (nw w xb i n).drew hni0.ev hni0.blk;unfold nw at hcall;have HA := Lib.hid hcall;rw [evX_var x.es x.q ho, show i + [n].length = i + 1 from rfl];generalize namedR x.q n.s.toList = q at HA ⊢;clear hcall hni0 hdr1 ho hns;go_enter Tryz.func52, Tryz.ntmps52
 go_wp2_with fail
 refine wp_region_ord (S := NxS xb i be oe x n w) [(0, false), (1, false), (2, false), (3, false), (4, false), (5, false), (6, false), (7, false), (8, false), (9, false), (10, true), (11, true)] (by kernel_rfl) (by kernel_rfl) (fun _ _ _ _ _ h => h) HS1.out (fun hW' => ?_);simp only [ordOps, List.filterMap_cons, List.filterMap_nil, List.getElem?_cons_zero, List.getElem?_cons_succ, Option.map_some];(repeat (first | (refine hd_take (v := ?_) (by rfl) ?_ ?_; rotate_left; (focus (intro W hW; obtain ⟨s0, s1, s2, s3, s4, s5⟩ := hW; go_simp; try with_reducible rfl)); simp only [Act.put, List.setIfInBounds_toArray, List.set_cons_zero, List.set_cons_succ]) | (refine hd_skip (by rfl) ?_; simp only [Act.put, List.setIfInBounds_toArray, List.set_cons_zero, List.set_cons_succ])))
 clear hW';refine hd_call (fun K hK => ?_);go_simp
 refine hK _ _ (HS0.out _) ?_;clear hK K;refine hd_call (fun K hK => ?_);go_simp
 refine hK _ _ (HS0.out _) ?_;clear hK K;refine hd_nil ?_;go_wp2_with fail
 refine HA.out.mono ?_;rintro r w1 hr2;have hpost := NextPost.nam HNI.out.drew hr2;obtain ⟨g1, g2, -⟩ := hr2;have HP := Lib.hid hpost;clear hpost;cases q with
 | bad k =>
  have hr := g2 k rfl;subst hr;clear g1 g2;go_wp2_with fail
  exact ⟨rfl, HP.out⟩
 | ok u =>
  obtain ⟨A2, c2', rfl, -⟩ := g1 u rfl;clear g1 g2;go_wp2_with fail
  go_ret
  exact HP.out
theorem must_hit {v : List Nd} {op : Int} (h : opH v = op) : mustV (.ok v) op = .ok v := by
 show (if opH v = op then Rs.ok v else .bad 2) = _;rw [if_pos h]
theorem must_miss {v : List Nd} {op : Int} (h : ¬ opH v = op) : mustV (.ok v) op = .bad 2 := by
 show (if opH v = op then Rs.ok v else .bad 2) = _;rw [if_neg h]
theorem either_miss {op : Int} {v : List Nd} {qb : Rs (List Nd)} (h : ¬ opH v = 1) : eitherR op (.ok v) qb = .bad 2 := by
 unfold eitherR;rw [must_miss h]; rfl
theorem either_hit {op : Int} {v : List Nd} {qb : Rs (List Nd)} (h : opH v = 1) : eitherR op (.ok v) qb = if (nH v == 1) = (op == 12) then .ok v else mustV qb 1 := by
 unfold eitherR;rw [must_hit h]; rfl
def NxG (x : Evl) (xb j : Nat) (q : Rs (List Nd)) (W : World) (r : Ending) (w' : World) : Prop :=
 (∀ v, q = .ok v → ∃ A c, r = .returned (.slice A v.length c) ∧ ValIn v A c w' ∧ NdOff (gx xb W) w' w'.heap.size A v ∧ EvIn x xb w' ∧ Blk w' xb 99 (x.cells j)) ∧ (∀ k, q = .bad k → r = .panicked (noV k)) ∧ Only W.heap.size xb W w'
theorem NextOk.go {x : Evl} {xb j : Nat} {W : World} {a rest : List Nd} (ha : NextOk x a) (hex : Ex (.one false) a) (hx : EvIn x xb W) (hB : Blk W xb 99 (x.cells j)) (hd : x.e.drop j = a ++ rest) :
 Calls Tryz.prog 52 #[.pointer (some ⟨xb, 0, none⟩)] W (NxG x xb (j + a.length) (evX x.es x.q a) W) := by
 have hmem : ∀ y ∈ a, y ∈ x.e := fun y hy => List.mem_of_mem_drop (i := j) (by rw [hd]; simp [hy]);have hk : NdOk a := NdOk.sub hx.ek hmem;have hi : NdI a := NdI.sub hx.ei hmem;refine (ha j xb rest W hd hx hB).mono ?_;rintro r w' ⟨h1, h2, h3⟩;refine ⟨fun v hv => ?_, h2, h3⟩;obtain ⟨A, c, rfl, g1, g2, g3, g4⟩ := h1 v hv;have hf := val_facts hx hex hk hi hv;exact ⟨A, c, rfl, ⟨hf.ok, hf.nd, g1, g2, g3.sl⟩, g3, hx.keep (h3.below (Nat.le_of_lt hB.lt) (Nat.le_refl _)), g4⟩
theorem head_at {w : World} {b o L c : Nat} (h : 0 < L) : (Instr.indexAt 22 (.slice (some ⟨b, o, none⟩) L c) (.int .i64 0)).run Tryz.prog w = .ok (.pointer (some ⟨b, o, none⟩)) w := by
 have h0 : (0 : Int) < (L : Int) := by omega
 go_simp
set_option maxHeartbeats 6400000 in
theorem either_11 (x : Evl) (xb j : Nat) (a b rest : List Nd) (w : World) (hf : FewIn x) (ha : NextOk x a) (hb : NextOk x b) (hex : Ex (.one false) a) (hexb : Ex (.one false) b) (hx : EvIn x xb w) (hB : Blk w xb 99 (x.cells j)) (hd : x.e.drop j = a ++ (b ++ rest)) :
 Calls Tryz.prog 86 #[.pointer (some ⟨xb, 0, none⟩), .int .i64 11] w (NextPost x xb (j + a.length + b.length) (eitherR 11 (evX x.es x.q a) (evX x.es x.q b)) w) := by
 have hxb := hB.lt;have hd2 : x.e.drop (j + a.length) = b ++ rest := by rw [← List.drop_drop, hd]; simp
 have hcA := ha.go hex hx hB hd;have HA := Lib.hid hcA;have hcB : ∀ W : World, EvIn x xb W → Blk W xb 99 (x.cells (j + a.length)) → Calls Tryz.prog 52 #[.pointer (some ⟨xb, 0, none⟩)] W (NxG x xb (j + a.length + b.length) (evX x.es x.q b) W) := fun W h1 h2 => hb.go hexb h1 h2 hd2;have HB := Lib.hid hcB;have hcS : ∀ W : World, EvIn x xb W → Blk W xb 99 (x.cells (j + a.length)) → _ := fun W h1 h2 => eval_skip x xb (j + a.length) b rest W hf hexb hd2 h1 h2;have HSK := Lib.hid hcS;generalize j + a.length + b.length = j2 at HB HSK ⊢;generalize j + a.length = j1 at HA HB HSK;generalize evX x.es x.q a = q at HA ⊢;generalize evX x.es x.q b = qb at HB ⊢;obtain ⟨q', hq'⟩ : ∃ q', q' = eitherR 11 q qb := ⟨_, rfl⟩;rw [← hq'];have HQ := Lib.hid hq';clear hcA hcB hcS hd hd2 hf hexb hex ha hb hx hB hq';go_enter Tryz.func86, Tryz.ntmps86
 go_wp2_with fail
 refine HA.out.mono ?_;rintro r w1 ⟨hq1, hq2, ho1⟩;have HO1 := Lib.hid ho1;cases q with
 | bad k =>
  have hr := hq2 k rfl;subst hr;clear hq1 hq2 ho1;obtain rfl : q' = .bad k := HQ.out;clear HQ;go_wp2_with fail
  exact ⟨rfl, NextPost.bad HO1.out⟩
 | ok v =>
  obtain ⟨A, c, rfl, hv, hof, hx1, hB1⟩ := hq1 v rfl;have HV := Lib.hid hv;have HOF := Lib.hid hof;have HX1 := Lib.hid hx1;have HB1 := Lib.hid hB1;have HM := Lib.hid (eval_must v 1 A c w1 hv);have hs1 : xb < w1.heap.size := hB1.lt;clear hq1 hq2 ho1 hv hof hx1 hB1;go_wp2_with fail
  refine HM.out.mono ?_;rintro r w2 ⟨⟨hr1, hr2⟩, rfl⟩;by_cases h1 : opH v = 1
  · have hr := hr1 h1;subst hr;have hq3 := HQ.out.trans (either_hit h1);have HQ3 := Lib.hid hq3;obtain ⟨y, yr, yb, yo, hvy, rfl, hyb, ⟨-, y1, -, -⟩, -, hny, -, -, hl⟩ := HV.out.head;rw [hny] at hq3;have HNY := Lib.hid hny;have hia := fun W => head_at (w := W) (b := yb) (o := yo) (L := v.length) (c := c) hl;have HVY := Lib.hid hvy;clear hr1 hr2 h1 HQ hvy HQ3 hny;cases hy : (y.n == 1) with
    | false =>
     have hq4 : q' = .ok v := (by rw [hq3, hy]; rfl);clear hq3;subst hq4;go_wp2_with fail
     refine (HSK.out w2 HX1.out HB1.out).mono ?_;rintro r w3 ⟨rfl, hB3, ho3⟩;have hof3 : NdOff (gx xb w) w3 w3.heap.size (some ⟨yb, yo, none⟩) v := HOF.out.past ho3 (Nat.le_refl _) hxb;have HP := Lib.hid (NextPost.ok HV.out.le HV.out.max hof3 hB3 (HO1.out.trans (ho3.mono HO1.out.size)));clear hof3 hB3 ho3;go_wp2_with fail
     go_ret
     exact HP.out
    | true =>
     have hq4 : q' = mustV qb 1 := (by rw [hq3, hy]; rfl);have HQ4 := Lib.hid hq4;clear hq3 hq4;go_wp2_with fail
     refine (HB.out w2 HX1.out HB1.out).mono ?_;rintro r w3 ⟨hp1, hp2, ho3⟩;have HO3 := Lib.hid (HO1.out.trans (ho3.mono HO1.out.size));cases qb with
     | bad k =>
      have hr := hp2 k rfl;subst hr;clear hp1 hp2 ho3;obtain rfl : q' = .bad k := HQ4.out;clear HQ4;go_wp2_with fail
      exact ⟨rfl, NextPost.bad HO3.out⟩
     | ok u =>
      obtain ⟨A2, c2, rfl, hu, hof2, -, hB2⟩ := hp1 u rfl;have HM2 := Lib.hid (eval_must u 1 A2 c2 w3 hu);have HP := Lib.hid (NextPost.ok hu.le hu.max (hof2.up HO1.out.size) hB2 HO3.out);clear hp1 hp2 ho3 hu hof2 hB2;go_wp2_with fail
      refine HM2.out.mono ?_;rintro r w4 ⟨⟨hr1, hr2⟩, rfl⟩;by_cases h1 : opH u = 1
      · have hr := hr1 h1;subst hr;obtain rfl : q' = .ok u := HQ4.out.trans (must_hit h1);clear hr1 hr2 h1 HQ4;go_wp2_with fail
        go_ret
        exact HP.out
      · have hr := hr2 h1;subst hr;obtain rfl : q' = .bad 2 := HQ4.out.trans (must_miss h1);clear hr1 hr2 h1 HQ4;go_wp2_with fail
        exact ⟨rfl, NextPost.bad HO3.out⟩
  · have hr := hr2 h1;subst hr;obtain rfl : q' = .bad 2 := HQ.out.trans (either_miss h1);clear hr1 hr2 h1 HQ;go_wp2_with fail
    exact ⟨rfl, NextPost.bad HO1.out⟩
set_option maxHeartbeats 6400000 in
theorem either_12 (x : Evl) (xb j : Nat) (a b rest : List Nd) (w : World) (hf : FewIn x) (ha : NextOk x a) (hb : NextOk x b) (hex : Ex (.one false) a) (hexb : Ex (.one false) b) (hx : EvIn x xb w) (hB : Blk w xb 99 (x.cells j)) (hd : x.e.drop j = a ++ (b ++ rest)) :
 Calls Tryz.prog 86 #[.pointer (some ⟨xb, 0, none⟩), .int .i64 12] w (NextPost x xb (j + a.length + b.length) (eitherR 12 (evX x.es x.q a) (evX x.es x.q b)) w) := by
 have hxb := hB.lt;have hd2 : x.e.drop (j + a.length) = b ++ rest := by rw [← List.drop_drop, hd]; simp
 have hcA := ha.go hex hx hB hd;have HA := Lib.hid hcA;have hcB : ∀ W : World, EvIn x xb W → Blk W xb 99 (x.cells (j + a.length)) → Calls Tryz.prog 52 #[.pointer (some ⟨xb, 0, none⟩)] W (NxG x xb (j + a.length + b.length) (evX x.es x.q b) W) := fun W h1 h2 => hb.go hexb h1 h2 hd2;have HB := Lib.hid hcB;have hcS : ∀ W : World, EvIn x xb W → Blk W xb 99 (x.cells (j + a.length)) → _ := fun W h1 h2 => eval_skip x xb (j + a.length) b rest W hf hexb hd2 h1 h2;have HSK := Lib.hid hcS;generalize j + a.length + b.length = j2 at HB HSK ⊢;generalize j + a.length = j1 at HA HB HSK;generalize evX x.es x.q a = q at HA ⊢;generalize evX x.es x.q b = qb at HB ⊢;obtain ⟨q', hq'⟩ : ∃ q', q' = eitherR 12 q qb := ⟨_, rfl⟩;rw [← hq'];have HQ := Lib.hid hq';clear hcA hcB hcS hd hd2 hf hexb hex ha hb hx hB hq';go_enter Tryz.func86, Tryz.ntmps86
 go_wp2_with fail
 refine HA.out.mono ?_;rintro r w1 ⟨hq1, hq2, ho1⟩;have HO1 := Lib.hid ho1;cases q with
 | bad k =>
  have hr := hq2 k rfl;subst hr;clear hq1 hq2 ho1;obtain rfl : q' = .bad k := HQ.out;clear HQ;go_wp2_with fail
  exact ⟨rfl, NextPost.bad HO1.out⟩
 | ok v =>
  obtain ⟨A, c, rfl, hv, hof, hx1, hB1⟩ := hq1 v rfl;have HV := Lib.hid hv;have HOF := Lib.hid hof;have HX1 := Lib.hid hx1;have HB1 := Lib.hid hB1;have HM := Lib.hid (eval_must v 1 A c w1 hv);have hs1 : xb < w1.heap.size := hB1.lt;clear hq1 hq2 ho1 hv hof hx1 hB1;go_wp2_with fail
  refine HM.out.mono ?_;rintro r w2 ⟨⟨hr1, hr2⟩, rfl⟩;by_cases h1 : opH v = 1
  · have hr := hr1 h1;subst hr;have hq3 := HQ.out.trans (either_hit h1);have HQ3 := Lib.hid hq3;obtain ⟨y, yr, yb, yo, hvy, rfl, hyb, ⟨-, y1, -, -⟩, -, hny, -, -, hl⟩ := HV.out.head;rw [hny] at hq3;have HNY := Lib.hid hny;have hia := fun W => head_at (w := W) (b := yb) (o := yo) (L := v.length) (c := c) hl;have HVY := Lib.hid hvy;clear hr1 hr2 h1 HQ hvy HQ3 hny;cases hy : (y.n == 1) with
    | true =>
     have hq4 : q' = .ok v := (by rw [hq3, hy]; rfl);clear hq3;subst hq4;go_wp2_with fail
     refine (HSK.out w2 HX1.out HB1.out).mono ?_;rintro r w3 ⟨rfl, hB3, ho3⟩;have hof3 : NdOff (gx xb w) w3 w3.heap.size (some ⟨yb, yo, none⟩) v := HOF.out.past ho3 (Nat.le_refl _) hxb;have HP := Lib.hid (NextPost.ok HV.out.le HV.out.max hof3 hB3 (HO1.out.trans (ho3.mono HO1.out.size)));clear hof3 hB3 ho3;go_wp2_with fail
     go_ret
     exact HP.out
    | false =>
     have hq4 : q' = mustV qb 1 := (by rw [hq3, hy]; rfl);have HQ4 := Lib.hid hq4;clear hq3 hq4;go_wp2_with fail
     refine (HB.out w2 HX1.out HB1.out).mono ?_;rintro r w3 ⟨hp1, hp2, ho3⟩;have HO3 := Lib.hid (HO1.out.trans (ho3.mono HO1.out.size));cases qb with
     | bad k =>
      have hr := hp2 k rfl;subst hr;clear hp1 hp2 ho3;obtain rfl : q' = .bad k := HQ4.out;clear HQ4;go_wp2_with fail
      exact ⟨rfl, NextPost.bad HO3.out⟩
     | ok u =>
      obtain ⟨A2, c2, rfl, hu, hof2, -, hB2⟩ := hp1 u rfl;have HM2 := Lib.hid (eval_must u 1 A2 c2 w3 hu);have HP := Lib.hid (NextPost.ok hu.le hu.max (hof2.up HO1.out.size) hB2 HO3.out);clear hp1 hp2 ho3 hu hof2 hB2;go_wp2_with fail
      refine HM2.out.mono ?_;rintro r w4 ⟨⟨hr1, hr2⟩, rfl⟩;by_cases h1 : opH u = 1
      · have hr := hr1 h1;subst hr;obtain rfl : q' = .ok u := HQ4.out.trans (must_hit h1);clear hr1 hr2 h1 HQ4;go_wp2_with fail
        go_ret
        exact HP.out
      · have hr := hr2 h1;subst hr;obtain rfl : q' = .bad 2 := HQ4.out.trans (must_miss h1);clear hr1 hr2 h1 HQ4;go_wp2_with fail
        exact ⟨rfl, NextPost.bad HO3.out⟩
  · have hr := hr2 h1;subst hr;obtain rfl : q' = .bad 2 := HQ.out.trans (either_miss h1);clear hr1 hr2 h1 HQ;go_wp2_with fail
    exact ⟨rfl, NextPost.bad HO1.out⟩
set_option maxHeartbeats 6400000 in
theorem next_11 (x : Evl) (n : Nd) (hf : FewIn x) (a b : List Nd) (ha : NextOk x a) (hb : NextOk x b) (hex : Ex (.one false) a) (hexb : Ex (.one false) b) (ho : n.op = 11) : NextOk x (n :: (a ++ b)) := by
 intro i xb rest w hdr hx hB;have hn : x.e[i]? = some n := by
  have := congrArg (fun l => l[0]?) hdr;simpa [List.getElem?_drop] using this
 have hil : i < x.e.length := (List.getElem?_eq_some_iff.1 hn).1;have hxb := hB.lt;obtain ⟨be, oe, hea, hbe, hcs⟩ := hx.ex.at_ hil;obtain ⟨n0, n1, n2, n3⟩ := hcs i n hn;have hS0 : NxS xb i be oe x n w w.drew := ⟨by rw [← hea]; exact hB.cell 8, hB.cell 9, n0, n1, n2, n3⟩;have hbw : be < w.heap.size := Nat.lt_trans hbe hxb;have HS0 := Lib.hid (hS0.alloc hxb hbw);have HS1 := Lib.hid hS0;have hia := node_at be oe x.e.length x.eca i hil;have HDR := Lib.hid hdr;have hni := nx_start (n := n) hx hB;have HNI := Lib.hid hni;have h9 : w.cell? ⟨xb, 9, none⟩ = some (.int .i64 i) := hS0.s1;have hf9 : w.frozen? ⟨xb, 9, none⟩ = false := hB.frozen 9;have hi1 : IntKind.wrap .i64 ((i : Int) + 1) = (i : Int) + 1 := by
  have := hx.el;exact IntWalk.i64_in _ (by omega)
 have hni0 := hni.drew;have hdr1 : x.e.drop (i + 1) = (a ++ b) ++ rest := by
  have := congrArg List.tail hdr;simpa [List.tail_drop] using this
 have hns : n.s.size ≤ 140737488351232 := (hx.ek n (List.mem_of_getElem? hn)).1;clear hcs n0 n1 n2 n3 hea hn hx hB hdr hS0 hni HDR;have t1 : (n.op == 1) = false := by simp [ho]
 have t2 : (n.op == 2) = false := by simp [ho]
 have t3 : (n.op == 3) = false := by simp [ho]
 have t4 : (n.op == 4) = false := by simp [ho]
 have t8 : (n.op == 8) = false := by simp [ho]
 have t11 : (n.op == 11) = true := by simp [ho]
 have t12 : (n.op == 12) = false := by simp [ho]
 have t13 : (n.op == 13) = false := by simp [ho]
 have t5 : (n.op == 5) = false := by simp [ho]
 have t6 : (n.op == 6) = false := by simp [ho]
 have t9 : (n.op == 9) = false := by simp [ho]
 have t10 : (n.op == 10) = false := by simp [ho]
 have t21 : (n.op == 21) = false := by simp [ho]
 have t22 : (n.op == 22) = false := by simp [ho]
 have t23 : (n.op == 23) = false := by simp [ho]
 have t24 : (n.op == 24) = false := by simp [ho]
 have hlen : i + (n :: (a ++ b)).length = i + 1 + a.length + b.length := by simp; omega
 have hcall : Calls Tryz.prog 86 #[.pointer (some ⟨xb, 0, none⟩), .int .i64 n.op] (nw w xb i n).drew (NextPost x xb (i + 1 + a.length + b.length) (eitherR n.op (evX x.es x.q a) (evX x.es x.q b)) (nw w xb i n).drew) := by
  rw [ho]; exact either_11 x xb (i + 1) a b rest _ hf ha hb hex hexb hni0.ev hni0.blk (by rw [hdr1]; simp)
 rw [hlen, evX_and x.es x.q (by omega) hex hexb];generalize i + 1 + a.length + b.length = j2 at hcall ⊢;generalize eitherR n.op (evX x.es x.q a) (evX x.es x.q b) = q at hcall ⊢;unfold nw at hcall;have HA := Lib.hid hcall;clear hcall hni0 hdr1 ho hns hf ha hb hex hexb hlen;go_enter Tryz.func52, Tryz.ntmps52
 go_wp2_with fail
 refine wp_region_ord (S := NxS xb i be oe x n w) [(0, false), (1, false), (2, false), (3, false), (4, false), (5, false), (6, false), (7, false), (8, false), (9, false), (10, true), (11, true)] (by kernel_rfl) (by kernel_rfl) (fun _ _ _ _ _ h => h) HS1.out (fun hW' => ?_);simp only [ordOps, List.filterMap_cons, List.filterMap_nil, List.getElem?_cons_zero, List.getElem?_cons_succ, Option.map_some];(repeat (first | (refine hd_take (v := ?_) (by rfl) ?_ ?_; rotate_left; (focus (intro W hW; obtain ⟨s0, s1, s2, s3, s4, s5⟩ := hW; go_simp; try with_reducible rfl)); simp only [Act.put, List.setIfInBounds_toArray, List.set_cons_zero, List.set_cons_succ]) | (refine hd_skip (by rfl) ?_; simp only [Act.put, List.setIfInBounds_toArray, List.set_cons_zero, List.set_cons_succ])))
 clear hW';refine hd_call (fun K hK => ?_);go_simp
 refine hK _ _ (HS0.out _) ?_;clear hK K;refine hd_call (fun K hK => ?_);go_simp
 refine hK _ _ (HS0.out _) ?_;clear hK K;refine hd_nil ?_;go_wp2_with fail
 refine HA.out.mono ?_;rintro r w1 hr2;have hpost := NextPost.up HNI.out.drew hr2;obtain ⟨g1, g2, -⟩ := hr2;have HP := Lib.hid hpost;clear hpost;cases q with
 | bad k =>
  have hr := g2 k rfl;subst hr;clear g1 g2;go_wp2_with fail
  exact ⟨rfl, HP.out⟩
 | ok u =>
  obtain ⟨A2, c2', rfl, -⟩ := g1 u rfl;clear g1 g2;go_wp2_with fail
  go_ret
  exact HP.out
set_option maxHeartbeats 6400000 in
theorem next_12 (x : Evl) (n : Nd) (hf : FewIn x) (a b : List Nd) (ha : NextOk x a) (hb : NextOk x b) (hex : Ex (.one false) a) (hexb : Ex (.one false) b) (ho : n.op = 12) : NextOk x (n :: (a ++ b)) := by
 intro i xb rest w hdr hx hB;have hn : x.e[i]? = some n := by
  have := congrArg (fun l => l[0]?) hdr;simpa [List.getElem?_drop] using this
 have hil : i < x.e.length := (List.getElem?_eq_some_iff.1 hn).1;have hxb := hB.lt;obtain ⟨be, oe, hea, hbe, hcs⟩ := hx.ex.at_ hil;obtain ⟨n0, n1, n2, n3⟩ := hcs i n hn;have hS0 : NxS xb i be oe x n w w.drew := ⟨by rw [← hea]; exact hB.cell 8, hB.cell 9, n0, n1, n2, n3⟩;have hbw : be < w.heap.size := Nat.lt_trans hbe hxb;have HS0 := Lib.hid (hS0.alloc hxb hbw);have HS1 := Lib.hid hS0;have hia := node_at be oe x.e.length x.eca i hil;have HDR := Lib.hid hdr;have hni := nx_start (n := n) hx hB;have HNI := Lib.hid hni;have h9 : w.cell? ⟨xb, 9, none⟩ = some (.int .i64 i) := hS0.s1;have hf9 : w.frozen? ⟨xb, 9, none⟩ = false := hB.frozen 9;have hi1 : IntKind.wrap .i64 ((i : Int) + 1) = (i : Int) + 1 := by
  have := hx.el;exact IntWalk.i64_in _ (by omega)
 have hni0 := hni.drew;have hdr1 : x.e.drop (i + 1) = (a ++ b) ++ rest := by
  have := congrArg List.tail hdr;simpa [List.tail_drop] using this
 have hns : n.s.size ≤ 140737488351232 := (hx.ek n (List.mem_of_getElem? hn)).1;clear hcs n0 n1 n2 n3 hea hn hx hB hdr hS0 hni HDR;have t1 : (n.op == 1) = false := by simp [ho]
 have t2 : (n.op == 2) = false := by simp [ho]
 have t3 : (n.op == 3) = false := by simp [ho]
 have t4 : (n.op == 4) = false := by simp [ho]
 have t8 : (n.op == 8) = false := by simp [ho]
 have t11 : (n.op == 11) = false := by simp [ho]
 have t12 : (n.op == 12) = true := by simp [ho]
 have t13 : (n.op == 13) = false := by simp [ho]
 have t5 : (n.op == 5) = false := by simp [ho]
 have t6 : (n.op == 6) = false := by simp [ho]
 have t9 : (n.op == 9) = false := by simp [ho]
 have t10 : (n.op == 10) = false := by simp [ho]
 have t21 : (n.op == 21) = false := by simp [ho]
 have t22 : (n.op == 22) = false := by simp [ho]
 have t23 : (n.op == 23) = false := by simp [ho]
 have t24 : (n.op == 24) = false := by simp [ho]
 have hlen : i + (n :: (a ++ b)).length = i + 1 + a.length + b.length := by simp; omega
 have hcall : Calls Tryz.prog 86 #[.pointer (some ⟨xb, 0, none⟩), .int .i64 n.op] (nw w xb i n).drew (NextPost x xb (i + 1 + a.length + b.length) (eitherR n.op (evX x.es x.q a) (evX x.es x.q b)) (nw w xb i n).drew) := by
  rw [ho]; exact either_12 x xb (i + 1) a b rest _ hf ha hb hex hexb hni0.ev hni0.blk (by rw [hdr1]; simp)
 rw [hlen, evX_and x.es x.q (by omega) hex hexb];generalize i + 1 + a.length + b.length = j2 at hcall ⊢;generalize eitherR n.op (evX x.es x.q a) (evX x.es x.q b) = q at hcall ⊢;unfold nw at hcall;have HA := Lib.hid hcall;clear hcall hni0 hdr1 ho hns hf ha hb hex hexb hlen;go_enter Tryz.func52, Tryz.ntmps52
 go_wp2_with fail
 refine wp_region_ord (S := NxS xb i be oe x n w) [(0, false), (1, false), (2, false), (3, false), (4, false), (5, false), (6, false), (7, false), (8, false), (9, false), (10, true), (11, true)] (by kernel_rfl) (by kernel_rfl) (fun _ _ _ _ _ h => h) HS1.out (fun hW' => ?_);simp only [ordOps, List.filterMap_cons, List.filterMap_nil, List.getElem?_cons_zero, List.getElem?_cons_succ, Option.map_some];(repeat (first | (refine hd_take (v := ?_) (by rfl) ?_ ?_; rotate_left; (focus (intro W hW; obtain ⟨s0, s1, s2, s3, s4, s5⟩ := hW; go_simp; try with_reducible rfl)); simp only [Act.put, List.setIfInBounds_toArray, List.set_cons_zero, List.set_cons_succ]) | (refine hd_skip (by rfl) ?_; simp only [Act.put, List.setIfInBounds_toArray, List.set_cons_zero, List.set_cons_succ])))
 clear hW';refine hd_call (fun K hK => ?_);go_simp
 refine hK _ _ (HS0.out _) ?_;clear hK K;refine hd_call (fun K hK => ?_);go_simp
 refine hK _ _ (HS0.out _) ?_;clear hK K;refine hd_nil ?_;go_wp2_with fail
 refine HA.out.mono ?_;rintro r w1 hr2;have hpost := NextPost.up HNI.out.drew hr2;obtain ⟨g1, g2, -⟩ := hr2;have HP := Lib.hid hpost;clear hpost;cases q with
 | bad k =>
  have hr := g2 k rfl;subst hr;clear g1 g2;go_wp2_with fail
  exact ⟨rfl, HP.out⟩
 | ok u =>
  obtain ⟨A2, c2', rfl, -⟩ := g1 u rfl;clear g1 g2;go_wp2_with fail
  go_ret
  exact HP.out
theorem choice_miss {v : List Nd} {qa qb : Rs (List Nd)} (h : ¬ opH v = 1) : choiceR (.ok v) qa qb = .bad 2 := by
 unfold choiceR;rw [must_miss h]; rfl
theorem choice_hit {v : List Nd} {qa qb : Rs (List Nd)} (h : opH v = 1) : choiceR (.ok v) qa qb = if nH v = 1 then qa else qb := by
 unfold choiceR;rw [must_hit h]; rfl
set_option maxHeartbeats 6400000 in
theorem eval_choice (x : Evl) (xb j : Nat) (e a b rest : List Nd) (w : World) (hf : FewIn x) (he : NextOk x e) (ha : NextOk x a) (hb : NextOk x b) (hexe : Ex (.one false) e) (hex : Ex (.one false) a) (hexb : Ex (.one false) b) (hx : EvIn x xb w) (hB : Blk w xb 99 (x.cells j)) (hd : x.e.drop j = e ++ (a ++ (b ++ rest))) :
 Calls Tryz.prog 87 #[.pointer (some ⟨xb, 0, none⟩)] w (NextPost x xb (j + e.length + a.length + b.length) (choiceR (evX x.es x.q e) (evX x.es x.q a) (evX x.es x.q b)) w) := by
 have hxb := hB.lt;have hd1 : x.e.drop (j + e.length) = a ++ (b ++ rest) := by rw [← List.drop_drop, hd]; simp
 have hd2 : x.e.drop (j + e.length + a.length) = b ++ rest := by rw [← List.drop_drop, hd1]; simp
 have hcE := he.go hexe hx hB hd;have HE := Lib.hid hcE;have hcA : ∀ W : World, EvIn x xb W → Blk W xb 99 (x.cells (j + e.length)) → Calls Tryz.prog 52 #[.pointer (some ⟨xb, 0, none⟩)] W (NxG x xb (j + e.length + a.length) (evX x.es x.q a) W) := fun W h1 h2 => ha.go hex h1 h2 hd1;have HA := Lib.hid hcA;have hcB : ∀ W : World, EvIn x xb W → Blk W xb 99 (x.cells (j + e.length + a.length)) → Calls Tryz.prog 52 #[.pointer (some ⟨xb, 0, none⟩)] W (NxG x xb (j + e.length + a.length + b.length) (evX x.es x.q b) W) := fun W h1 h2 => hb.go hexb h1 h2 hd2;have HB := Lib.hid hcB;have hcS : ∀ W : World, EvIn x xb W → Blk W xb 99 (x.cells (j + e.length + a.length)) → _ := fun W h1 h2 => eval_skip x xb (j + e.length + a.length) b rest W hf hexb hd2 h1 h2;have HSB := Lib.hid hcS;have hcS' : ∀ W : World, EvIn x xb W → Blk W xb 99 (x.cells (j + e.length)) → _ := fun W h1 h2 => eval_skip x xb (j + e.length) a (b ++ rest) W hf hex hd1 h1 h2;have HSA := Lib.hid hcS';generalize j + e.length + a.length + b.length = j3 at HB HSB ⊢;generalize j + e.length + a.length = j2 at HA HB HSB HSA;generalize j + e.length = j1 at HE HA HSA;generalize evX x.es x.q e = qe at HE ⊢;generalize evX x.es x.q a = qa at HA ⊢;generalize evX x.es x.q b = qb at HB ⊢;obtain ⟨q', hq'⟩ : ∃ q', q' = choiceR qe qa qb := ⟨_, rfl⟩;rw [← hq'];have HQ := Lib.hid hq';clear hcA hcB hcS hcS' hcE hd hd1 hd2 hf hexe hexb hex he ha hb hx hB hq';go_enter Tryz.func87, Tryz.ntmps87
 go_wp2_with fail
 refine HE.out.mono ?_;rintro r w1 ⟨hq1, hq2, ho1⟩;have HO1 := Lib.hid ho1;cases qe with
 | bad k =>
  have hr := hq2 k rfl;subst hr;clear hq1 hq2 ho1;obtain rfl : q' = .bad k := HQ.out;clear HQ;go_wp2_with fail
  exact ⟨rfl, NextPost.bad HO1.out⟩
 | ok v =>
  obtain ⟨A, c, rfl, hv, -, hx1, hB1⟩ := hq1 v rfl;have HV := Lib.hid hv;have HX1 := Lib.hid hx1;have HB1 := Lib.hid hB1;have HM := Lib.hid (eval_must v 1 A c w1 hv);have hs1 : xb < w1.heap.size := hB1.lt;clear hq1 hq2 ho1 hv hx1 hB1;go_wp2_with fail
  refine HM.out.mono ?_;rintro r w2 ⟨⟨hr1, hr2⟩, rfl⟩;by_cases h1 : opH v = 1
  · have hr := hr1 h1;subst hr;have hq3 := HQ.out.trans (choice_hit h1);obtain ⟨y, yr, yb, yo, hvy, rfl, hyb, ⟨-, y1, -, -⟩, -, hny, -, -, hl⟩ := HV.out.head;rw [hny] at hq3;have hia := fun W => head_at (w := W) (b := yb) (o := yo) (L := v.length) (c := c) hl;clear hr1 hr2 h1 HQ hvy hny;cases hy : (y.n == 1) with
    | true =>
     have hq4 : q' = qa := (by rw [hq3, if_pos (by simpa using hy)]);clear hq3;subst hq4;go_wp2_with fail
     refine (HA.out w2 HX1.out HB1.out).mono ?_;rintro r w3 ⟨hp1, hp2, ho3⟩;have HO3 := Lib.hid (HO1.out.trans (ho3.mono HO1.out.size));cases q' with
     | bad k =>
      have hr := hp2 k rfl;subst hr;clear hp1 hp2 ho3;go_wp2_with fail
      exact ⟨rfl, NextPost.bad HO3.out⟩
     | ok u =>
      obtain ⟨A2, c2, rfl, hu, hof2, hx2, hB2⟩ := hp1 u rfl;have HU := Lib.hid hu;have HOF := Lib.hid hof2;have HX2 := Lib.hid hx2;have HB2 := Lib.hid hB2;clear hp1 hp2 ho3 hu hof2 hx2 hB2;go_wp2_with fail
      refine (HSB.out w3 HX2.out HB2.out).mono ?_;rintro r w4 ⟨rfl, hB4, ho4⟩;have hof4 : NdOff (gx xb w) w4 w4.heap.size A2 u := (HOF.out.up HO1.out.size).past ho4 (Nat.le_refl _) hxb;have HP := Lib.hid (NextPost.ok HU.out.le HU.out.max hof4 hB4 (HO3.out.trans (ho4.mono HO3.out.size)));clear hof4 hB4 ho4;go_wp2_with fail
      go_ret
      exact HP.out
    | false =>
     have hq4 : q' = qb := (by rw [hq3, if_neg (by simpa using hy)]);clear hq3;subst hq4;go_wp2_with fail
     refine (HSA.out w2 HX1.out HB1.out).mono ?_;rintro r w3 ⟨rfl, hB3, ho3⟩;have hx3 : EvIn x xb w3 := HX1.out.keep (ho3.below (Nat.le_of_lt hs1) (Nat.le_refl _));have HO3 := Lib.hid (HO1.out.trans (ho3.mono HO1.out.size));have HC := Lib.hid (HB.out w3 hx3 hB3);clear hB3 hx3 ho3;go_wp2_with fail
     refine HC.out.mono ?_;rintro r w4 ⟨hp1, hp2, ho4⟩;have HO4 := Lib.hid (HO3.out.trans (ho4.mono HO3.out.size));cases q' with
     | bad k =>
      have hr := hp2 k rfl;subst hr;clear hp1 hp2 ho4;go_wp2_with fail
      exact ⟨rfl, NextPost.bad HO4.out⟩
     | ok u =>
      obtain ⟨A2, c2, rfl, hu, hof2, hx2, hB2⟩ := hp1 u rfl;have HP := Lib.hid (NextPost.ok hu.le hu.max (hof2.up HO3.out.size) hB2 HO4.out);clear hp1 hp2 ho4 hu hof2 hx2 hB2;go_wp2_with fail
      go_ret
      exact HP.out
  · have hr := hr2 h1;subst hr;obtain rfl : q' = .bad 2 := HQ.out.trans (choice_miss h1);clear hr1 hr2 h1 HQ;go_wp2_with fail
    exact ⟨rfl, NextPost.bad HO1.out⟩
set_option maxHeartbeats 6400000 in
theorem next_13 (x : Evl) (n : Nd) (hf : FewIn x) (e a b : List Nd) (he : NextOk x e) (ha : NextOk x a) (hb : NextOk x b) (hexe : Ex (.one false) e) (hex : Ex (.one false) a) (hexb : Ex (.one false) b) (ho : n.op = 13) : NextOk x (n :: (e ++ (a ++ b))) := by
 intro i xb rest w hdr hx hB;have hn : x.e[i]? = some n := by
  have := congrArg (fun l => l[0]?) hdr;simpa [List.getElem?_drop] using this
 have hil : i < x.e.length := (List.getElem?_eq_some_iff.1 hn).1;have hxb := hB.lt;obtain ⟨be, oe, hea, hbe, hcs⟩ := hx.ex.at_ hil;obtain ⟨n0, n1, n2, n3⟩ := hcs i n hn;have hS0 : NxS xb i be oe x n w w.drew := ⟨by rw [← hea]; exact hB.cell 8, hB.cell 9, n0, n1, n2, n3⟩;have hbw : be < w.heap.size := Nat.lt_trans hbe hxb;have HS0 := Lib.hid (hS0.alloc hxb hbw);have HS1 := Lib.hid hS0;have hia := node_at be oe x.e.length x.eca i hil;have HDR := Lib.hid hdr;have hni := nx_start (n := n) hx hB;have HNI := Lib.hid hni;have h9 : w.cell? ⟨xb, 9, none⟩ = some (.int .i64 i) := hS0.s1;have hf9 : w.frozen? ⟨xb, 9, none⟩ = false := hB.frozen 9;have hi1 : IntKind.wrap .i64 ((i : Int) + 1) = (i : Int) + 1 := by
  have := hx.el;exact IntWalk.i64_in _ (by omega)
 have hni0 := hni.drew;have hdr1 : x.e.drop (i + 1) = (e ++ (a ++ b)) ++ rest := by
  have := congrArg List.tail hdr;simpa [List.tail_drop] using this
 have hns : n.s.size ≤ 140737488351232 := (hx.ek n (List.mem_of_getElem? hn)).1;clear hcs n0 n1 n2 n3 hea hn hx hB hdr hS0 hni HDR;have t1 : (n.op == 1) = false := by simp [ho]
 have t2 : (n.op == 2) = false := by simp [ho]
 have t3 : (n.op == 3) = false := by simp [ho]
 have t4 : (n.op == 4) = false := by simp [ho]
 have t8 : (n.op == 8) = false := by simp [ho]
 have t11 : (n.op == 11) = false := by simp [ho]
 have t12 : (n.op == 12) = false := by simp [ho]
 have t13 : (n.op == 13) = true := by simp [ho]
 have t5 : (n.op == 5) = false := by simp [ho]
 have t6 : (n.op == 6) = false := by simp [ho]
 have t9 : (n.op == 9) = false := by simp [ho]
 have t10 : (n.op == 10) = false := by simp [ho]
 have t21 : (n.op == 21) = false := by simp [ho]
 have t22 : (n.op == 22) = false := by simp [ho]
 have t23 : (n.op == 23) = false := by simp [ho]
 have t24 : (n.op == 24) = false := by simp [ho]
 have hlen : i + (n :: (e ++ (a ++ b))).length = i + 1 + e.length + a.length + b.length := by simp; omega
 have hcall := eval_choice x xb (i + 1) e a b rest (nw w xb i n).drew hf he ha hb hexe hex hexb hni0.ev hni0.blk (by rw [hdr1]; simp);rw [hlen, evX_if x.es x.q ho hexe hex hexb];generalize i + 1 + e.length + a.length + b.length = j2 at hcall ⊢;generalize choiceR (evX x.es x.q e) (evX x.es x.q a) (evX x.es x.q b) = q at hcall ⊢;unfold nw at hcall;have HA := Lib.hid hcall;clear hcall hni0 hdr1 ho hns hf he ha hb hexe hex hexb hlen;go_enter Tryz.func52, Tryz.ntmps52
 go_wp2_with fail
 refine wp_region_ord (S := NxS xb i be oe x n w) [(0, false), (1, false), (2, false), (3, false), (4, false), (5, false), (6, false), (7, false), (8, false), (9, false), (10, true), (11, true)] (by kernel_rfl) (by kernel_rfl) (fun _ _ _ _ _ h => h) HS1.out (fun hW' => ?_);simp only [ordOps, List.filterMap_cons, List.filterMap_nil, List.getElem?_cons_zero, List.getElem?_cons_succ, Option.map_some];(repeat (first | (refine hd_take (v := ?_) (by rfl) ?_ ?_; rotate_left; (focus (intro W hW; obtain ⟨s0, s1, s2, s3, s4, s5⟩ := hW; go_simp; try with_reducible rfl)); simp only [Act.put, List.setIfInBounds_toArray, List.set_cons_zero, List.set_cons_succ]) | (refine hd_skip (by rfl) ?_; simp only [Act.put, List.setIfInBounds_toArray, List.set_cons_zero, List.set_cons_succ])))
 clear hW';refine hd_call (fun K hK => ?_);go_simp
 refine hK _ _ (HS0.out _) ?_;clear hK K;refine hd_call (fun K hK => ?_);go_simp
 refine hK _ _ (HS0.out _) ?_;clear hK K;refine hd_nil ?_;go_wp2_with fail
 refine HA.out.mono ?_;rintro r w1 hr2;have hpost := NextPost.up HNI.out.drew hr2;obtain ⟨g1, g2, -⟩ := hr2;have HP := Lib.hid hpost;clear hpost;cases q with
 | bad k =>
  have hr := g2 k rfl;subst hr;clear g1 g2;go_wp2_with fail
  exact ⟨rfl, HP.out⟩
 | ok u =>
  obtain ⟨A2, c2', rfl, -⟩ := g1 u rfl;clear g1 g2;go_wp2_with fail
  go_ret
  exact HP.out
end Go.Proofs.YtpheiojmcafolaaGreatDoor
namespace Go.Proofs.YtpheiojmcafolaaGreatDoor
set_option maxRecDepth 100000
open Go.RowKit Go.Sort
theorem told_back {w w1 w2 : World} {r r2 : Ending} {q : Rs (List Nd)} (h : NdsNewE w r w1 (rsL q) (rsE q)) (hne : ∀ k, q = .bad k → k ≠ 0) {A : Option Addr} {c : Nat} (hr : r = .returned (.tuple #[.slice A (rsL q).length c, errV (rsE q)]))
 (ht : ((rsE q = 0 → r2 = .returned (.slice A (rsL q).length c)) ∧ (rsE q ≠ 0 → r2 = .panicked (noV (rsE q)))) ∧ RowKit.Below w1.heap.size w1 w2) : RsBack w r2 w2 q := by
 obtain ⟨A', c', e, h1, h2, h3, h4, h5⟩ := h;rw [hr] at e;injection e with e
 have e' : A = A' ∧ c = c' := by simpa using e
 obtain ⟨rfl, rfl⟩ := e';obtain ⟨⟨t1, t2⟩, hb⟩ := ht;have hb2 : RowKit.Below w.heap.size w w2 := h4.trans (hb.mono h4.size);cases q with
 | ok v => exact RsBack.ok ⟨A, c, t1 rfl, h1, h2, (h3.below hb).more hb.size, hb2, h5⟩
 | bad k =>
  have := t2 (hne k rfl);rw [this]; exact RsBack.no hb2
theorem set_bad {vs : List (List Nd)} {k : Int} (h : setR vs = .bad k) : k ≠ 0 := by
 unfold setR at h;split at h
 · injection h with h; rw [← h]; assumption
 · cases h
theorem rec_bad {fs : List (ByteArray × List Nd)} {k : Int} (h : recR fs = .bad k) : k ≠ 0 := by
 unfold recR at h;split at h
 · injection h with h; rw [← h]; assumption
 · split at h
   · injection h with h; omega
   · cases h
theorem vals_zero : ∀ vs : List (List Nd), (∀ p ∈ vs, valErr p = 0) → valsErr vs = 0
 | [], _ => rfl
 | v :: vs, h => by
  have h1 := h v (by simp);have h2 := vals_zero vs fun p hp => h p (by simp [hp]);simp [valsErr, h1, h2]
theorem setR_L (vs : List (List Nd)) (h : valsErr vs = 0) : rsL (setR vs) = (setV vs).1 ∧ rsE (setR vs) = (setV vs).2 := by
 unfold setR;rw [setV_of h];unfold setV;split <;> (split <;> simp_all [rsL, rsE])
set_option maxHeartbeats 6400000 in
theorem coll_rec (ss : List (List UInt8)) (ms : List NsM) (An Av : Option Addr) (cn cv : Nat) (w : World) (hg : ErrCell w) (hB : 0 < w.heap.size) (hl : ms.length = ss.length) (hl2 : ss.length ≤ 1000) (hnd : ss.Nodup) (hsz : ∀ l ∈ ss, l.length ≤ 140737488351232) (hnm : ∀ l ∈ ss, nameErr l = 0)
 (hv : ∀ y ∈ ms, valErr y.e = 0 ∧ NdOk y.e) (hgo : recGo ((ss.map bsL).zip (ms.map NsM.e)) [] = 0) (hss : StrSl w w.heap.size An ss) (hms : NssAt w Av ms) :
 Calls Tryz.prog 110 #[.int .i64 6, .slice An ss.length cn, .slice Av ms.length cv] w fun r w' => RsBack w r w' (recR ((ss.map bsL).zip (ms.map NsM.e))) := by
 have HR := Lib.hid (val_RecOf ss ms An Av cn cv w hl hl2 hnd hsz hnm hv hgo hss hms);obtain ⟨q, hq⟩ : ∃ q, q = recR ((ss.map bsL).zip (ms.map NsM.e)) := ⟨_, rfl⟩;rw [← hq] at HR ⊢;have HNE := Lib.hid (fun k (h : q = .bad k) => rec_bad (hq ▸ h));have HG := Lib.hid hg;have HGB := Lib.hid hB;clear hl hl2 hnd hsz hnm hv hgo hss hms hq hg hB;go_enter Tryz.func110, Tryz.ntmps110
 go_wp2_with fail
 refine HR.out.mono ?_;rintro r w1 hr;have HN := Lib.hid hr;obtain ⟨A, c, e, -, -, -, hb1, -⟩ := hr;have HE := Lib.hid e;have HT := Lib.hid (told_nds (.slice A (rsL q).length c) (rsE q) w1 (HG.out.below hb1 HGB.out));subst e;clear hb1;go_wp2_with fail
 refine HT.out.mono ?_;rintro r2 w2 ht;have hback := told_back HN.out HNE.out rfl ht;have HB := Lib.hid hback;obtain ⟨g1, g2, -⟩ := hback;clear ht HE;cases q with
 | bad k =>
  have hr := g2 k rfl;subst hr;clear g1 g2;go_wp2_with fail
  exact ⟨rfl, HB.out⟩
 | ok u =>
  obtain ⟨A2, c2', rfl, -⟩ := g1 u rfl;clear g1 g2;go_wp2_with fail
  go_ret
  exact HB.out
set_option maxHeartbeats 6400000 in
theorem coll_set (vn : Value) (ms : List NsM) (Av : Option Addr) (cv : Nat) (w : World) (hg : ErrCell w) (hB : 0 < w.heap.size) (hl2 : ms.length ≤ 1000)
 (hv : ∀ y ∈ ms, valErr y.e = 0) (hok : ∀ y ∈ ms, NdOk y.e) (hms : NssAt w Av ms) :
 Calls Tryz.prog 110 #[.int .i64 5, vn, .slice Av ms.length cv] w fun r w' => RsBack w r w' (setR (ms.map NsM.e)) := by
 have hR := val_SetOf ms Av cv w hms hv hok hl2;have h0 : valsErr (ms.map NsM.e) = 0 := vals_zero _ (by intro p hp; obtain ⟨y, hy, rfl⟩ := List.mem_map.1 hp; exact hv y hy);obtain ⟨q, hq⟩ : ∃ q, q = setR (ms.map NsM.e) := ⟨_, rfl⟩;rw [← (setR_L _ h0).1, ← (setR_L _ h0).2, ← hq] at hR;rw [← hq];have HR := Lib.hid hR;have HNE := Lib.hid (fun k (h : q = .bad k) => set_bad (hq ▸ h));have HG := Lib.hid hg;have HGB := Lib.hid hB;clear hl2 hv hok hms hq hg hB h0 hR;go_enter Tryz.func110, Tryz.ntmps110
 go_wp2_with fail
 refine HR.out.mono ?_;rintro r w1 hr;have HN := Lib.hid hr;obtain ⟨A, c, e, -, -, -, hb1, -⟩ := hr;have HT := Lib.hid (told_nds (.slice A (rsL q).length c) (rsE q) w1 (HG.out.below hb1 HGB.out));subst e;clear hb1;go_wp2_with fail
 refine HT.out.mono ?_;rintro r2 w2 ht;have hback := told_back HN.out HNE.out rfl ht;have HB := Lib.hid hback;obtain ⟨g1, g2, -⟩ := hback;clear ht;cases q with
 | bad k =>
  have hr := g2 k rfl;subst hr;clear g1 g2;go_wp2_with fail
  exact ⟨rfl, HB.out⟩
 | ok u =>
  obtain ⟨A2, c2', rfl, -⟩ := g1 u rfl;clear g1 g2;go_wp2_with fail
  go_ret
  exact HB.out
end Go.Proofs.YtpheiojmcafolaaGreatDoor
