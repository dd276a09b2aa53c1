/-
  THE WALKS: (*eval.evaluation).next at a node of one piece, of two pieces.
-/
import Derived.Test.YtpheiojmcafolaaGreatDoorB15
namespace Go.Proofs.YtpheiojmcafolaaGreatDoor
set_option maxRecDepth 100000
open Go.RowKit Go.Sort
def NxA (x : Evl) (xb j : Nat) (n : Nd) (q : Rs (List Nd)) (w W : World) (r : Ending) (w' : World) : Prop :=
 (∀ v, q = .ok v → ∃ A c, r = .returned (.slice A v.length c) ∧ ValIn v A c w' ∧ NdI v ∧ NdOff (gx xb w) w' w'.heap.size A v ∧ NxI x xb j n w w') ∧ (∀ k, q = .bad k → r = .panicked (noV k)) ∧ Only w.heap.size xb w w' ∧ Only W.heap.size xb W w'
theorem NdAt.only {W w' : World} {b o B g : Nat} {n : Nd} (h : NdAt W b o n) (ho : Only B g W w') (hb : b < B) (hg : b ≠ g) : NdAt w' b o n :=
 ⟨(ho.cell hb hg).trans h.c0, (ho.cell hb hg).trans h.c1, (ho.cell hb hg).trans h.c2, (ho.cell hb hg).trans h.c3⟩
theorem NxI.next {x : Evl} {xb j : Nat} {n : Nd} {w W : World} {a rest : List Nd} (h : NxI x xb j n w W) (hxb : xb < w.heap.size) (ha : NextOk x a) (hex : Ex (.one false) a) (hd : x.e.drop j = a ++ rest) :
   Calls Tryz.prog 52 #[.pointer (some ⟨xb, 0, none⟩)] W (NxA x xb (j + a.length) n (evX x.es x.q a) w W) := by
 have hmem : ∀ y ∈ a, y ∈ x.e := fun y hy => List.mem_of_mem_drop (i := j) (by rw [hd]; simp [hy])
 have hk : NdOk a := NdOk.sub h.ev.ek hmem
 have hi : NdI a := NdI.sub h.ev.ei hmem
 have hsz := h.sz
 refine (ha j xb rest W hd h.ev h.blk).mono ?_
 rintro r w' ⟨h1, h2, h3⟩
 have ho : Only w.heap.size xb w w' := h.only.trans (h3.mono (Nat.le_of_lt hsz))
 refine ⟨fun v hv => ?_, h2, ho, h3⟩
 obtain ⟨A, c, rfl, g1, g2, g3, g4⟩ := h1 v hv
 have hf := val_facts h.ev hex hk hi hv
 exact ⟨A, c, rfl, ⟨hf.ok, hf.nd, g1, g2, g3.sl⟩, hf.ni, g3.up (Nat.le_of_lt hsz), g4, h.ev.keep (h3.below (Nat.le_of_lt h.blk.lt) (Nat.le_refl _)), h.nd.only h3 hsz (by omega), ho, Nat.lt_of_lt_of_le hsz h3.size⟩
theorem NextPost.rs {x : Evl} {xb j : Nat} {n : Nd} {q : Rs (List Nd)} {w W w' : World} {r : Ending} (h : NxI x xb j n w W) (hr : RsBack W r w' q) : NextPost x xb j q w r w' := by
 obtain ⟨h1, h2, h3⟩ := hr
 have hl := h.blk.lt
 have ho : Only W.heap.size xb W w' := Only.of_below h3 (Nat.le_refl _)
 refine ⟨fun v hv => ?_, h2, h.only.trans (ho.mono (Nat.le_of_lt h.sz))⟩
 obtain ⟨A, c, e, g1, g2, g3, _, g5⟩ := h1 v hv
 refine ⟨A, c, e, g1, g2, fun hne => ?_, h.blk.below h3 hl⟩
 obtain ⟨b, o, e1, e2, e3⟩ := g3 hne
 exact ⟨b, o, e1, e2, by have := g5 b o e1; have := h.sz; unfold gx; omega, e3⟩
structure OpS (b : Nat) (k : Int) (W : World) : Prop where
 s0 : W.cell? ⟨b, 0, none⟩ = some (.int .i64 k)
set_option maxHeartbeats 6400000 in
theorem next_9 (x : Evl) (n : Nd) (a : List Nd) (ha : NextOk x a) (hex : Ex (.one false) a) (ho : n.op = 9) : NextOk x (n :: a) := by
 intro i xb rest w hdr hx hB
 have hn : x.e[i]? = some n := by
   have := congrArg (fun l => l[0]?) hdr
   simpa [List.getElem?_drop] using this
 have hil : i < x.e.length := (List.getElem?_eq_some_iff.1 hn).1
 have hxb := hB.lt
 obtain ⟨be, oe, hea, hbe, hcs⟩ := hx.ex.at_ hil
 obtain ⟨n0, n1, n2, n3⟩ := hcs i n hn
 have hS0 : NxS xb i be oe x n w w.drew := ⟨by rw [← hea]; exact hB.cell 8, hB.cell 9, n0, n1, n2, n3⟩
 have hbw : be < w.heap.size := Nat.lt_trans hbe hxb
 have HS0 := Lib.hid (hS0.alloc hxb hbw)
 have HS1 := Lib.hid hS0
 have hia := node_at be oe x.e.length x.eca i hil
 have HDR := Lib.hid hdr
 have hni := nx_start (n := n) hx hB
 have HNI := Lib.hid hni
 have h9 : w.cell? ⟨xb, 9, none⟩ = some (.int .i64 i) := hS0.s1
 have hf9 : w.frozen? ⟨xb, 9, none⟩ = false := hB.frozen 9
 have hi1 : IntKind.wrap .i64 ((i : Int) + 1) = (i : Int) + 1 := by
   have := hx.el
   exact IntWalk.i64_in _ (by omega)
 have hni0 := hni.drew
 have hdr1 : x.e.drop (i + 1) = a ++ rest := by
   have := congrArg List.tail hdr
   simpa [List.tail_drop] using this
 have hns : n.s.size ≤ 140737488351232 := (hx.ek n (List.mem_of_getElem? hn)).1
 clear hcs n0 n1 n2 n3 hea hn hx hB hdr hS0 hni HDR
 have t1 : (n.op == 1) = false := by simp [ho]
 have t2 : (n.op == 2) = false := by simp [ho]
 have t3 : (n.op == 3) = false := by simp [ho]
 have t4 : (n.op == 4) = false := by simp [ho]
 have t8 : (n.op == 8) = false := by simp [ho]
 have t11 : (n.op == 11) = false := by simp [ho]
 have t12 : (n.op == 12) = false := by simp [ho]
 have t13 : (n.op == 13) = false := by simp [ho]
 have t5 : (n.op == 5) = false := by simp [ho]
 have t6 : (n.op == 6) = false := by simp [ho]
 have t9 : (n.op == 9) = true := by simp [ho]
 have t10 : (n.op == 10) = false := by simp [ho]
 have t21 : (n.op == 21) = false := by simp [ho]
 have t22 : (n.op == 22) = false := by simp [ho]
 have t23 : (n.op == 23) = false := by simp [ho]
 have t24 : (n.op == 24) = false := by simp [ho]
 have hcall := hni0.next hxb ha hex (rest := rest) hdr1
 unfold nw at hcall
 have HA := Lib.hid hcall
 have hlen : i + (n :: a).length = i + 1 + a.length := by simp; omega
 rw [hlen, evX_one x.es x.q (by omega) hex]
 have ho' : n.op = 9 ∨ n.op = 10 ∨ n.op = 21 ∨ n.op = 22 ∨ n.op = 23 ∨ n.op = 24 := by omega
 have HOP := Lib.hid ho'
 have HNS := Lib.hid hns
 generalize i + 1 + a.length = j at HA ⊢
 generalize evX x.es x.q a = q at HA ⊢
 obtain ⟨q', hq'⟩ : ∃ q', q' = q.bind (fun v => singleR x.es n v) := ⟨_, rfl⟩
 rw [← hq']
 have HQ := Lib.hid hq'
 clear hcall hni0 hdr1 ha hex ho ho' hlen hns hq'
 go_enter Tryz.func52, Tryz.ntmps52
 go_wp2_with fail
 refine wp_region_ord (S := NxS xb i be oe x n w) [(0, false), (1, false), (2, false), (3, false), (4, false), (5, false), (6, false), (7, false), (8, false), (9, false), (10, true), (11, true)] (by kernel_rfl) (by kernel_rfl) (fun _ _ _ _ _ h => h) HS1.out (fun hW' => ?_)
 simp only [ordOps, List.filterMap_cons, List.filterMap_nil, List.getElem?_cons_zero, List.getElem?_cons_succ, Option.map_some]
 (repeat (first | (refine hd_take (v := ?_) (by rfl) ?_ ?_; rotate_left; (focus (intro W hW; obtain ⟨s0, s1, s2, s3, s4, s5⟩ := hW; go_simp; try with_reducible rfl)); simp only [Act.put, List.setIfInBounds_toArray, List.set_cons_zero, List.set_cons_succ]) | (refine hd_skip (by rfl) ?_; simp only [Act.put, List.setIfInBounds_toArray, List.set_cons_zero, List.set_cons_succ])))
 clear hW'
 refine hd_call (fun K hK => ?_)
 go_simp
 refine hK _ _ (HS0.out _) ?_
 clear hK K
 refine hd_call (fun K hK => ?_)
 go_simp
 refine hK _ _ (HS0.out _) ?_
 clear hK K
 refine hd_nil ?_
 go_wp2_with fail
 refine HA.out.mono ?_
 rintro r w1 ⟨hq1, hq2, ho1, hoW1⟩
 have HO1 := Lib.hid ho1
 clear ho1 hoW1
 cases q with
 | bad k =>
   have hr := hq2 k rfl
   subst hr
   clear hq1 hq2
   obtain rfl : q' = .bad k := HQ.out
   clear HQ
   go_wp2_with fail
   exact ⟨rfl, NextPost.bad HO1.out⟩
 | ok v =>
   obtain ⟨A, c, rfl, hv, hvi, -, hn1⟩ := hq1 v rfl
   have HN1 := Lib.hid hn1
   have hs := eval_single x xb j n v A c w1 hn1.ev hn1.blk hv hvi HNS.out HOP.out
   rw [show singleR x.es n v = q' from HQ.out.symm] at hs
   have HS := Lib.hid hs
   have c0 : w1.cell? ⟨w.heap.size, 0, none⟩ = some (.int .i64 n.op) := hn1.nd.c0
   have c1 : w1.cell? ⟨w.heap.size, 1, none⟩ = some (.int .i64 n.n) := hn1.nd.c1
   have c2 : w1.cell? ⟨w.heap.size, 2, none⟩ = some (.string n.s) := hn1.nd.c2
   have c3 : w1.cell? ⟨w.heap.size, 3, none⟩ = some (.string n.t) := hn1.nd.c3
   clear hn1 hq1 hq2 hv hvi hs HQ
   go_wp2_with fail
   refine HS.out.mono ?_
   rintro r w2 hr2
   have hpost := NextPost.rs HN1.out hr2
   obtain ⟨g1, g2, -⟩ := hr2
   have HP := Lib.hid hpost
   clear hpost
   cases q' with
   | bad k =>
     have hr := g2 k rfl
     subst hr
     clear g1 g2
     go_wp2_with fail
     exact ⟨rfl, HP.out⟩
   | ok u =>
     obtain ⟨A2, c2', rfl, -⟩ := g1 u rfl
     clear g1 g2
     go_wp2_with fail
     go_ret
     exact HP.out
set_option maxHeartbeats 6400000 in
theorem next_10 (x : Evl) (n : Nd) (a : List Nd) (ha : NextOk x a) (hex : Ex (.one false) a) (ho : n.op = 10) : NextOk x (n :: a) := by
 intro i xb rest w hdr hx hB
 have hn : x.e[i]? = some n := by
   have := congrArg (fun l => l[0]?) hdr
   simpa [List.getElem?_drop] using this
 have hil : i < x.e.length := (List.getElem?_eq_some_iff.1 hn).1
 have hxb := hB.lt
 obtain ⟨be, oe, hea, hbe, hcs⟩ := hx.ex.at_ hil
 obtain ⟨n0, n1, n2, n3⟩ := hcs i n hn
 have hS0 : NxS xb i be oe x n w w.drew := ⟨by rw [← hea]; exact hB.cell 8, hB.cell 9, n0, n1, n2, n3⟩
 have hbw : be < w.heap.size := Nat.lt_trans hbe hxb
 have HS0 := Lib.hid (hS0.alloc hxb hbw)
 have HS1 := Lib.hid hS0
 have hia := node_at be oe x.e.length x.eca i hil
 have HDR := Lib.hid hdr
 have hni := nx_start (n := n) hx hB
 have HNI := Lib.hid hni
 have h9 : w.cell? ⟨xb, 9, none⟩ = some (.int .i64 i) := hS0.s1
 have hf9 : w.frozen? ⟨xb, 9, none⟩ = false := hB.frozen 9
 have hi1 : IntKind.wrap .i64 ((i : Int) + 1) = (i : Int) + 1 := by
   have := hx.el
   exact IntWalk.i64_in _ (by omega)
 have hni0 := hni.drew
 have hdr1 : x.e.drop (i + 1) = a ++ rest := by
   have := congrArg List.tail hdr
   simpa [List.tail_drop] using this
 have hns : n.s.size ≤ 140737488351232 := (hx.ek n (List.mem_of_getElem? hn)).1
 clear hcs n0 n1 n2 n3 hea hn hx hB hdr hS0 hni HDR
 have t1 : (n.op == 1) = false := by simp [ho]
 have t2 : (n.op == 2) = false := by simp [ho]
 have t3 : (n.op == 3) = false := by simp [ho]
 have t4 : (n.op == 4) = false := by simp [ho]
 have t8 : (n.op == 8) = false := by simp [ho]
 have t11 : (n.op == 11) = false := by simp [ho]
 have t12 : (n.op == 12) = false := by simp [ho]
 have t13 : (n.op == 13) = false := by simp [ho]
 have t5 : (n.op == 5) = false := by simp [ho]
 have t6 : (n.op == 6) = false := by simp [ho]
 have t9 : (n.op == 9) = false := by simp [ho]
 have t10 : (n.op == 10) = true := by simp [ho]
 have t21 : (n.op == 21) = false := by simp [ho]
 have t22 : (n.op == 22) = false := by simp [ho]
 have t23 : (n.op == 23) = false := by simp [ho]
 have t24 : (n.op == 24) = false := by simp [ho]
 have hcall := hni0.next hxb ha hex (rest := rest) hdr1
 unfold nw at hcall
 have HA := Lib.hid hcall
 have hlen : i + (n :: a).length = i + 1 + a.length := by simp; omega
 rw [hlen, evX_one x.es x.q (by omega) hex]
 have ho' : n.op = 9 ∨ n.op = 10 ∨ n.op = 21 ∨ n.op = 22 ∨ n.op = 23 ∨ n.op = 24 := by omega
 have HOP := Lib.hid ho'
 have HNS := Lib.hid hns
 generalize i + 1 + a.length = j at HA ⊢
 generalize evX x.es x.q a = q at HA ⊢
 obtain ⟨q', hq'⟩ : ∃ q', q' = q.bind (fun v => singleR x.es n v) := ⟨_, rfl⟩
 rw [← hq']
 have HQ := Lib.hid hq'
 clear hcall hni0 hdr1 ha hex ho ho' hlen hns hq'
 go_enter Tryz.func52, Tryz.ntmps52
 go_wp2_with fail
 refine wp_region_ord (S := NxS xb i be oe x n w) [(0, false), (1, false), (2, false), (3, false), (4, false), (5, false), (6, false), (7, false), (8, false), (9, false), (10, true), (11, true)] (by kernel_rfl) (by kernel_rfl) (fun _ _ _ _ _ h => h) HS1.out (fun hW' => ?_)
 simp only [ordOps, List.filterMap_cons, List.filterMap_nil, List.getElem?_cons_zero, List.getElem?_cons_succ, Option.map_some]
 (repeat (first | (refine hd_take (v := ?_) (by rfl) ?_ ?_; rotate_left; (focus (intro W hW; obtain ⟨s0, s1, s2, s3, s4, s5⟩ := hW; go_simp; try with_reducible rfl)); simp only [Act.put, List.setIfInBounds_toArray, List.set_cons_zero, List.set_cons_succ]) | (refine hd_skip (by rfl) ?_; simp only [Act.put, List.setIfInBounds_toArray, List.set_cons_zero, List.set_cons_succ])))
 clear hW'
 refine hd_call (fun K hK => ?_)
 go_simp
 refine hK _ _ (HS0.out _) ?_
 clear hK K
 refine hd_call (fun K hK => ?_)
 go_simp
 refine hK _ _ (HS0.out _) ?_
 clear hK K
 refine hd_nil ?_
 go_wp2_with fail
 refine HA.out.mono ?_
 rintro r w1 ⟨hq1, hq2, ho1, hoW1⟩
 have HO1 := Lib.hid ho1
 clear ho1 hoW1
 cases q with
 | bad k =>
   have hr := hq2 k rfl
   subst hr
   clear hq1 hq2
   obtain rfl : q' = .bad k := HQ.out
   clear HQ
   go_wp2_with fail
   exact ⟨rfl, NextPost.bad HO1.out⟩
 | ok v =>
   obtain ⟨A, c, rfl, hv, hvi, -, hn1⟩ := hq1 v rfl
   have HN1 := Lib.hid hn1
   have hs := eval_single x xb j n v A c w1 hn1.ev hn1.blk hv hvi HNS.out HOP.out
   rw [show singleR x.es n v = q' from HQ.out.symm] at hs
   have HS := Lib.hid hs
   have c0 : w1.cell? ⟨w.heap.size, 0, none⟩ = some (.int .i64 n.op) := hn1.nd.c0
   have c1 : w1.cell? ⟨w.heap.size, 1, none⟩ = some (.int .i64 n.n) := hn1.nd.c1
   have c2 : w1.cell? ⟨w.heap.size, 2, none⟩ = some (.string n.s) := hn1.nd.c2
   have c3 : w1.cell? ⟨w.heap.size, 3, none⟩ = some (.string n.t) := hn1.nd.c3
   clear hn1 hq1 hq2 hv hvi hs HQ
   go_wp2_with fail
   refine HS.out.mono ?_
   rintro r w2 hr2
   have hpost := NextPost.rs HN1.out hr2
   obtain ⟨g1, g2, -⟩ := hr2
   have HP := Lib.hid hpost
   clear hpost
   cases q' with
   | bad k =>
     have hr := g2 k rfl
     subst hr
     clear g1 g2
     go_wp2_with fail
     exact ⟨rfl, HP.out⟩
   | ok u =>
     obtain ⟨A2, c2', rfl, -⟩ := g1 u rfl
     clear g1 g2
     go_wp2_with fail
     go_ret
     exact HP.out
set_option maxHeartbeats 6400000 in
theorem next_21 (x : Evl) (n : Nd) (a : List Nd) (ha : NextOk x a) (hex : Ex (.one false) a) (ho : n.op = 21) : NextOk x (n :: a) := by
 intro i xb rest w hdr hx hB
 have hn : x.e[i]? = some n := by
   have := congrArg (fun l => l[0]?) hdr
   simpa [List.getElem?_drop] using this
 have hil : i < x.e.length := (List.getElem?_eq_some_iff.1 hn).1
 have hxb := hB.lt
 obtain ⟨be, oe, hea, hbe, hcs⟩ := hx.ex.at_ hil
 obtain ⟨n0, n1, n2, n3⟩ := hcs i n hn
 have hS0 : NxS xb i be oe x n w w.drew := ⟨by rw [← hea]; exact hB.cell 8, hB.cell 9, n0, n1, n2, n3⟩
 have hbw : be < w.heap.size := Nat.lt_trans hbe hxb
 have HS0 := Lib.hid (hS0.alloc hxb hbw)
 have HS1 := Lib.hid hS0
 have hia := node_at be oe x.e.length x.eca i hil
 have HDR := Lib.hid hdr
 have hni := nx_start (n := n) hx hB
 have HNI := Lib.hid hni
 have h9 : w.cell? ⟨xb, 9, none⟩ = some (.int .i64 i) := hS0.s1
 have hf9 : w.frozen? ⟨xb, 9, none⟩ = false := hB.frozen 9
 have hi1 : IntKind.wrap .i64 ((i : Int) + 1) = (i : Int) + 1 := by
   have := hx.el
   exact IntWalk.i64_in _ (by omega)
 have hni0 := hni.drew
 have hdr1 : x.e.drop (i + 1) = a ++ rest := by
   have := congrArg List.tail hdr
   simpa [List.tail_drop] using this
 have hns : n.s.size ≤ 140737488351232 := (hx.ek n (List.mem_of_getElem? hn)).1
 clear hcs n0 n1 n2 n3 hea hn hx hB hdr hS0 hni HDR
 have t1 : (n.op == 1) = false := by simp [ho]
 have t2 : (n.op == 2) = false := by simp [ho]
 have t3 : (n.op == 3) = false := by simp [ho]
 have t4 : (n.op == 4) = false := by simp [ho]
 have t8 : (n.op == 8) = false := by simp [ho]
 have t11 : (n.op == 11) = false := by simp [ho]
 have t12 : (n.op == 12) = false := by simp [ho]
 have t13 : (n.op == 13) = false := by simp [ho]
 have t5 : (n.op == 5) = false := by simp [ho]
 have t6 : (n.op == 6) = false := by simp [ho]
 have t9 : (n.op == 9) = false := by simp [ho]
 have t10 : (n.op == 10) = false := by simp [ho]
 have t21 : (n.op == 21) = true := by simp [ho]
 have t22 : (n.op == 22) = false := by simp [ho]
 have t23 : (n.op == 23) = false := by simp [ho]
 have t24 : (n.op == 24) = false := by simp [ho]
 have hcall := hni0.next hxb ha hex (rest := rest) hdr1
 unfold nw at hcall
 have HA := Lib.hid hcall
 have hlen : i + (n :: a).length = i + 1 + a.length := by simp; omega
 rw [hlen, evX_one x.es x.q (by omega) hex]
 have ho' : n.op = 9 ∨ n.op = 10 ∨ n.op = 21 ∨ n.op = 22 ∨ n.op = 23 ∨ n.op = 24 := by omega
 have HOP := Lib.hid ho'
 have HNS := Lib.hid hns
 generalize i + 1 + a.length = j at HA ⊢
 generalize evX x.es x.q a = q at HA ⊢
 obtain ⟨q', hq'⟩ : ∃ q', q' = q.bind (fun v => singleR x.es n v) := ⟨_, rfl⟩
 rw [← hq']
 have HQ := Lib.hid hq'
 clear hcall hni0 hdr1 ha hex ho ho' hlen hns hq'
 go_enter Tryz.func52, Tryz.ntmps52
 go_wp2_with fail
 refine wp_region_ord (S := NxS xb i be oe x n w) [(0, false), (1, false), (2, false), (3, false), (4, false), (5, false), (6, false), (7, false), (8, false), (9, false), (10, true), (11, true)] (by kernel_rfl) (by kernel_rfl) (fun _ _ _ _ _ h => h) HS1.out (fun hW' => ?_)
 simp only [ordOps, List.filterMap_cons, List.filterMap_nil, List.getElem?_cons_zero, List.getElem?_cons_succ, Option.map_some]
 (repeat (first | (refine hd_take (v := ?_) (by rfl) ?_ ?_; rotate_left; (focus (intro W hW; obtain ⟨s0, s1, s2, s3, s4, s5⟩ := hW; go_simp; try with_reducible rfl)); simp only [Act.put, List.setIfInBounds_toArray, List.set_cons_zero, List.set_cons_succ]) | (refine hd_skip (by rfl) ?_; simp only [Act.put, List.setIfInBounds_toArray, List.set_cons_zero, List.set_cons_succ])))
 clear hW'
 refine hd_call (fun K hK => ?_)
 go_simp
 refine hK _ _ (HS0.out _) ?_
 clear hK K
 refine hd_call (fun K hK => ?_)
 go_simp
 refine hK _ _ (HS0.out _) ?_
 clear hK K
 refine hd_nil ?_
 go_wp2_with fail
 refine HA.out.mono ?_
 rintro r w1 ⟨hq1, hq2, ho1, hoW1⟩
 have HO1 := Lib.hid ho1
 clear ho1 hoW1
 cases q with
 | bad k =>
   have hr := hq2 k rfl
   subst hr
   clear hq1 hq2
   obtain rfl : q' = .bad k := HQ.out
   clear HQ
   go_wp2_with fail
   exact ⟨rfl, NextPost.bad HO1.out⟩
 | ok v =>
   obtain ⟨A, c, rfl, hv, hvi, -, hn1⟩ := hq1 v rfl
   have HN1 := Lib.hid hn1
   have hs := eval_single x xb j n v A c w1 hn1.ev hn1.blk hv hvi HNS.out HOP.out
   rw [show singleR x.es n v = q' from HQ.out.symm] at hs
   have HS := Lib.hid hs
   have c0 : w1.cell? ⟨w.heap.size, 0, none⟩ = some (.int .i64 n.op) := hn1.nd.c0
   have c1 : w1.cell? ⟨w.heap.size, 1, none⟩ = some (.int .i64 n.n) := hn1.nd.c1
   have c2 : w1.cell? ⟨w.heap.size, 2, none⟩ = some (.string n.s) := hn1.nd.c2
   have c3 : w1.cell? ⟨w.heap.size, 3, none⟩ = some (.string n.t) := hn1.nd.c3
   clear hn1 hq1 hq2 hv hvi hs HQ
   go_wp2_with fail
   refine HS.out.mono ?_
   rintro r w2 hr2
   have hpost := NextPost.rs HN1.out hr2
   obtain ⟨g1, g2, -⟩ := hr2
   have HP := Lib.hid hpost
   clear hpost
   cases q' with
   | bad k =>
     have hr := g2 k rfl
     subst hr
     clear g1 g2
     go_wp2_with fail
     exact ⟨rfl, HP.out⟩
   | ok u =>
     obtain ⟨A2, c2', rfl, -⟩ := g1 u rfl
     clear g1 g2
     go_wp2_with fail
     go_ret
     exact HP.out
set_option maxHeartbeats 6400000 in
theorem next_22 (x : Evl) (n : Nd) (a : List Nd) (ha : NextOk x a) (hex : Ex (.one false) a) (ho : n.op = 22) : NextOk x (n :: a) := by
 intro i xb rest w hdr hx hB
 have hn : x.e[i]? = some n := by
   have := congrArg (fun l => l[0]?) hdr
   simpa [List.getElem?_drop] using this
 have hil : i < x.e.length := (List.getElem?_eq_some_iff.1 hn).1
 have hxb := hB.lt
 obtain ⟨be, oe, hea, hbe, hcs⟩ := hx.ex.at_ hil
 obtain ⟨n0, n1, n2, n3⟩ := hcs i n hn
 have hS0 : NxS xb i be oe x n w w.drew := ⟨by rw [← hea]; exact hB.cell 8, hB.cell 9, n0, n1, n2, n3⟩
 have hbw : be < w.heap.size := Nat.lt_trans hbe hxb
 have HS0 := Lib.hid (hS0.alloc hxb hbw)
 have HS1 := Lib.hid hS0
 have hia := node_at be oe x.e.length x.eca i hil
 have HDR := Lib.hid hdr
 have hni := nx_start (n := n) hx hB
 have HNI := Lib.hid hni
 have h9 : w.cell? ⟨xb, 9, none⟩ = some (.int .i64 i) := hS0.s1
 have hf9 : w.frozen? ⟨xb, 9, none⟩ = false := hB.frozen 9
 have hi1 : IntKind.wrap .i64 ((i : Int) + 1) = (i : Int) + 1 := by
   have := hx.el
   exact IntWalk.i64_in _ (by omega)
 have hni0 := hni.drew
 have hdr1 : x.e.drop (i + 1) = a ++ rest := by
   have := congrArg List.tail hdr
   simpa [List.tail_drop] using this
 have hns : n.s.size ≤ 140737488351232 := (hx.ek n (List.mem_of_getElem? hn)).1
 clear hcs n0 n1 n2 n3 hea hn hx hB hdr hS0 hni HDR
 have t1 : (n.op == 1) = false := by simp [ho]
 have t2 : (n.op == 2) = false := by simp [ho]
 have t3 : (n.op == 3) = false := by simp [ho]
 have t4 : (n.op == 4) = false := by simp [ho]
 have t8 : (n.op == 8) = false := by simp [ho]
 have t11 : (n.op == 11) = false := by simp [ho]
 have t12 : (n.op == 12) = false := by simp [ho]
 have t13 : (n.op == 13) = false := by simp [ho]
 have t5 : (n.op == 5) = false := by simp [ho]
 have t6 : (n.op == 6) = false := by simp [ho]
 have t9 : (n.op == 9) = false := by simp [ho]
 have t10 : (n.op == 10) = false := by simp [ho]
 have t21 : (n.op == 21) = false := by simp [ho]
 have t22 : (n.op == 22) = true := by simp [ho]
 have t23 : (n.op == 23) = false := by simp [ho]
 have t24 : (n.op == 24) = false := by simp [ho]
 have hcall := hni0.next hxb ha hex (rest := rest) hdr1
 unfold nw at hcall
 have HA := Lib.hid hcall
 have hlen : i + (n :: a).length = i + 1 + a.length := by simp; omega
 rw [hlen, evX_one x.es x.q (by omega) hex]
 have ho' : n.op = 9 ∨ n.op = 10 ∨ n.op = 21 ∨ n.op = 22 ∨ n.op = 23 ∨ n.op = 24 := by omega
 have HOP := Lib.hid ho'
 have HNS := Lib.hid hns
 generalize i + 1 + a.length = j at HA ⊢
 generalize evX x.es x.q a = q at HA ⊢
 obtain ⟨q', hq'⟩ : ∃ q', q' = q.bind (fun v => singleR x.es n v) := ⟨_, rfl⟩
 rw [← hq']
 have HQ := Lib.hid hq'
 clear hcall hni0 hdr1 ha hex ho ho' hlen hns hq'
 go_enter Tryz.func52, Tryz.ntmps52
 go_wp2_with fail
 refine wp_region_ord (S := NxS xb i be oe x n w) [(0, false), (1, false), (2, false), (3, false), (4, false), (5, false), (6, false), (7, false), (8, false), (9, false), (10, true), (11, true)] (by kernel_rfl) (by kernel_rfl) (fun _ _ _ _ _ h => h) HS1.out (fun hW' => ?_)
 simp only [ordOps, List.filterMap_cons, List.filterMap_nil, List.getElem?_cons_zero, List.getElem?_cons_succ, Option.map_some]
 (repeat (first | (refine hd_take (v := ?_) (by rfl) ?_ ?_; rotate_left; (focus (intro W hW; obtain ⟨s0, s1, s2, s3, s4, s5⟩ := hW; go_simp; try with_reducible rfl)); simp only [Act.put, List.setIfInBounds_toArray, List.set_cons_zero, List.set_cons_succ]) | (refine hd_skip (by rfl) ?_; simp only [Act.put, List.setIfInBounds_toArray, List.set_cons_zero, List.set_cons_succ])))
 clear hW'
 refine hd_call (fun K hK => ?_)
 go_simp
 refine hK _ _ (HS0.out _) ?_
 clear hK K
 refine hd_call (fun K hK => ?_)
 go_simp
 refine hK _ _ (HS0.out _) ?_
 clear hK K
 refine hd_nil ?_
 go_wp2_with fail
 refine HA.out.mono ?_
 rintro r w1 ⟨hq1, hq2, ho1, hoW1⟩
 have HO1 := Lib.hid ho1
 clear ho1 hoW1
 cases q with
 | bad k =>
   have hr := hq2 k rfl
   subst hr
   clear hq1 hq2
   obtain rfl : q' = .bad k := HQ.out
   clear HQ
   go_wp2_with fail
   exact ⟨rfl, NextPost.bad HO1.out⟩
 | ok v =>
   obtain ⟨A, c, rfl, hv, hvi, -, hn1⟩ := hq1 v rfl
   have HN1 := Lib.hid hn1
   have hs := eval_single x xb j n v A c w1 hn1.ev hn1.blk hv hvi HNS.out HOP.out
   rw [show singleR x.es n v = q' from HQ.out.symm] at hs
   have HS := Lib.hid hs
   have c0 : w1.cell? ⟨w.heap.size, 0, none⟩ = some (.int .i64 n.op) := hn1.nd.c0
   have c1 : w1.cell? ⟨w.heap.size, 1, none⟩ = some (.int .i64 n.n) := hn1.nd.c1
   have c2 : w1.cell? ⟨w.heap.size, 2, none⟩ = some (.string n.s) := hn1.nd.c2
   have c3 : w1.cell? ⟨w.heap.size, 3, none⟩ = some (.string n.t) := hn1.nd.c3
   clear hn1 hq1 hq2 hv hvi hs HQ
   go_wp2_with fail
   refine HS.out.mono ?_
   rintro r w2 hr2
   have hpost := NextPost.rs HN1.out hr2
   obtain ⟨g1, g2, -⟩ := hr2
   have HP := Lib.hid hpost
   clear hpost
   cases q' with
   | bad k =>
     have hr := g2 k rfl
     subst hr
     clear g1 g2
     go_wp2_with fail
     exact ⟨rfl, HP.out⟩
   | ok u =>
     obtain ⟨A2, c2', rfl, -⟩ := g1 u rfl
     clear g1 g2
     go_wp2_with fail
     go_ret
     exact HP.out
set_option maxHeartbeats 6400000 in
theorem next_23 (x : Evl) (n : Nd) (a : List Nd) (ha : NextOk x a) (hex : Ex (.one false) a) (ho : n.op = 23) : NextOk x (n :: a) := by
 intro i xb rest w hdr hx hB
 have hn : x.e[i]? = some n := by
   have := congrArg (fun l => l[0]?) hdr
   simpa [List.getElem?_drop] using this
 have hil : i < x.e.length := (List.getElem?_eq_some_iff.1 hn).1
 have hxb := hB.lt
 obtain ⟨be, oe, hea, hbe, hcs⟩ := hx.ex.at_ hil
 obtain ⟨n0, n1, n2, n3⟩ := hcs i n hn
 have hS0 : NxS xb i be oe x n w w.drew := ⟨by rw [← hea]; exact hB.cell 8, hB.cell 9, n0, n1, n2, n3⟩
 have hbw : be < w.heap.size := Nat.lt_trans hbe hxb
 have HS0 := Lib.hid (hS0.alloc hxb hbw)
 have HS1 := Lib.hid hS0
 have hia := node_at be oe x.e.length x.eca i hil
 have HDR := Lib.hid hdr
 have hni := nx_start (n := n) hx hB
 have HNI := Lib.hid hni
 have h9 : w.cell? ⟨xb, 9, none⟩ = some (.int .i64 i) := hS0.s1
 have hf9 : w.frozen? ⟨xb, 9, none⟩ = false := hB.frozen 9
 have hi1 : IntKind.wrap .i64 ((i : Int) + 1) = (i : Int) + 1 := by
   have := hx.el
   exact IntWalk.i64_in _ (by omega)
 have hni0 := hni.drew
 have hdr1 : x.e.drop (i + 1) = a ++ rest := by
   have := congrArg List.tail hdr
   simpa [List.tail_drop] using this
 have hns : n.s.size ≤ 140737488351232 := (hx.ek n (List.mem_of_getElem? hn)).1
 clear hcs n0 n1 n2 n3 hea hn hx hB hdr hS0 hni HDR
 have t1 : (n.op == 1) = false := by simp [ho]
 have t2 : (n.op == 2) = false := by simp [ho]
 have t3 : (n.op == 3) = false := by simp [ho]
 have t4 : (n.op == 4) = false := by simp [ho]
 have t8 : (n.op == 8) = false := by simp [ho]
 have t11 : (n.op == 11) = false := by simp [ho]
 have t12 : (n.op == 12) = false := by simp [ho]
 have t13 : (n.op == 13) = false := by simp [ho]
 have t5 : (n.op == 5) = false := by simp [ho]
 have t6 : (n.op == 6) = false := by simp [ho]
 have t9 : (n.op == 9) = false := by simp [ho]
 have t10 : (n.op == 10) = false := by simp [ho]
 have t21 : (n.op == 21) = false := by simp [ho]
 have t22 : (n.op == 22) = false := by simp [ho]
 have t23 : (n.op == 23) = true := by simp [ho]
 have t24 : (n.op == 24) = false := by simp [ho]
 have hcall := hni0.next hxb ha hex (rest := rest) hdr1
 unfold nw at hcall
 have HA := Lib.hid hcall
 have hlen : i + (n :: a).length = i + 1 + a.length := by simp; omega
 rw [hlen, evX_one x.es x.q (by omega) hex]
 have ho' : n.op = 9 ∨ n.op = 10 ∨ n.op = 21 ∨ n.op = 22 ∨ n.op = 23 ∨ n.op = 24 := by omega
 have HOP := Lib.hid ho'
 have HNS := Lib.hid hns
 generalize i + 1 + a.length = j at HA ⊢
 generalize evX x.es x.q a = q at HA ⊢
 obtain ⟨q', hq'⟩ : ∃ q', q' = q.bind (fun v => singleR x.es n v) := ⟨_, rfl⟩
 rw [← hq']
 have HQ := Lib.hid hq'
 clear hcall hni0 hdr1 ha hex ho ho' hlen hns hq'
 go_enter Tryz.func52, Tryz.ntmps52
 go_wp2_with fail
 refine wp_region_ord (S := NxS xb i be oe x n w) [(0, false), (1, false), (2, false), (3, false), (4, false), (5, false), (6, false), (7, false), (8, false), (9, false), (10, true), (11, true)] (by kernel_rfl) (by kernel_rfl) (fun _ _ _ _ _ h => h) HS1.out (fun hW' => ?_)
 simp only [ordOps, List.filterMap_cons, List.filterMap_nil, List.getElem?_cons_zero, List.getElem?_cons_succ, Option.map_some]
 (repeat (first | (refine hd_take (v := ?_) (by rfl) ?_ ?_; rotate_left; (focus (intro W hW; obtain ⟨s0, s1, s2, s3, s4, s5⟩ := hW; go_simp; try with_reducible rfl)); simp only [Act.put, List.setIfInBounds_toArray, List.set_cons_zero, List.set_cons_succ]) | (refine hd_skip (by rfl) ?_; simp only [Act.put, List.setIfInBounds_toArray, List.set_cons_zero, List.set_cons_succ])))
 clear hW'
 refine hd_call (fun K hK => ?_)
 go_simp
 refine hK _ _ (HS0.out _) ?_
 clear hK K
 refine hd_call (fun K hK => ?_)
 go_simp
 refine hK _ _ (HS0.out _) ?_
 clear hK K
 refine hd_nil ?_
 go_wp2_with fail
 refine HA.out.mono ?_
 rintro r w1 ⟨hq1, hq2, ho1, hoW1⟩
 have HO1 := Lib.hid ho1
 clear ho1 hoW1
 cases q with
 | bad k =>
   have hr := hq2 k rfl
   subst hr
   clear hq1 hq2
   obtain rfl : q' = .bad k := HQ.out
   clear HQ
   go_wp2_with fail
   exact ⟨rfl, NextPost.bad HO1.out⟩
 | ok v =>
   obtain ⟨A, c, rfl, hv, hvi, -, hn1⟩ := hq1 v rfl
   have HN1 := Lib.hid hn1
   have hs := eval_single x xb j n v A c w1 hn1.ev hn1.blk hv hvi HNS.out HOP.out
   rw [show singleR x.es n v = q' from HQ.out.symm] at hs
   have HS := Lib.hid hs
   have c0 : w1.cell? ⟨w.heap.size, 0, none⟩ = some (.int .i64 n.op) := hn1.nd.c0
   have c1 : w1.cell? ⟨w.heap.size, 1, none⟩ = some (.int .i64 n.n) := hn1.nd.c1
   have c2 : w1.cell? ⟨w.heap.size, 2, none⟩ = some (.string n.s) := hn1.nd.c2
   have c3 : w1.cell? ⟨w.heap.size, 3, none⟩ = some (.string n.t) := hn1.nd.c3
   clear hn1 hq1 hq2 hv hvi hs HQ
   go_wp2_with fail
   refine HS.out.mono ?_
   rintro r w2 hr2
   have hpost := NextPost.rs HN1.out hr2
   obtain ⟨g1, g2, -⟩ := hr2
   have HP := Lib.hid hpost
   clear hpost
   cases q' with
   | bad k =>
     have hr := g2 k rfl
     subst hr
     clear g1 g2
     go_wp2_with fail
     exact ⟨rfl, HP.out⟩
   | ok u =>
     obtain ⟨A2, c2', rfl, -⟩ := g1 u rfl
     clear g1 g2
     go_wp2_with fail
     go_ret
     exact HP.out
set_option maxHeartbeats 6400000 in
theorem next_24 (x : Evl) (n : Nd) (a : List Nd) (ha : NextOk x a) (hex : Ex (.one false) a) (ho : n.op = 24) : NextOk x (n :: a) := by
 intro i xb rest w hdr hx hB
 have hn : x.e[i]? = some n := by
   have := congrArg (fun l => l[0]?) hdr
   simpa [List.getElem?_drop] using this
 have hil : i < x.e.length := (List.getElem?_eq_some_iff.1 hn).1
 have hxb := hB.lt
 obtain ⟨be, oe, hea, hbe, hcs⟩ := hx.ex.at_ hil
 obtain ⟨n0, n1, n2, n3⟩ := hcs i n hn
 have hS0 : NxS xb i be oe x n w w.drew := ⟨by rw [← hea]; exact hB.cell 8, hB.cell 9, n0, n1, n2, n3⟩
 have hbw : be < w.heap.size := Nat.lt_trans hbe hxb
 have HS0 := Lib.hid (hS0.alloc hxb hbw)
 have HS1 := Lib.hid hS0
 have hia := node_at be oe x.e.length x.eca i hil
 have HDR := Lib.hid hdr
 have hni := nx_start (n := n) hx hB
 have HNI := Lib.hid hni
 have h9 : w.cell? ⟨xb, 9, none⟩ = some (.int .i64 i) := hS0.s1
 have hf9 : w.frozen? ⟨xb, 9, none⟩ = false := hB.frozen 9
 have hi1 : IntKind.wrap .i64 ((i : Int) + 1) = (i : Int) + 1 := by
   have := hx.el
   exact IntWalk.i64_in _ (by omega)
 have hni0 := hni.drew
 have hdr1 : x.e.drop (i + 1) = a ++ rest := by
   have := congrArg List.tail hdr
   simpa [List.tail_drop] using this
 have hns : n.s.size ≤ 140737488351232 := (hx.ek n (List.mem_of_getElem? hn)).1
 clear hcs n0 n1 n2 n3 hea hn hx hB hdr hS0 hni HDR
 have t1 : (n.op == 1) = false := by simp [ho]
 have t2 : (n.op == 2) = false := by simp [ho]
 have t3 : (n.op == 3) = false := by simp [ho]
 have t4 : (n.op == 4) = false := by simp [ho]
 have t8 : (n.op == 8) = false := by simp [ho]
 have t11 : (n.op == 11) = false := by simp [ho]
 have t12 : (n.op == 12) = false := by simp [ho]
 have t13 : (n.op == 13) = false := by simp [ho]
 have t5 : (n.op == 5) = false := by simp [ho]
 have t6 : (n.op == 6) = false := by simp [ho]
 have t9 : (n.op == 9) = false := by simp [ho]
 have t10 : (n.op == 10) = false := by simp [ho]
 have t21 : (n.op == 21) = false := by simp [ho]
 have t22 : (n.op == 22) = false := by simp [ho]
 have t23 : (n.op == 23) = false := by simp [ho]
 have t24 : (n.op == 24) = true := by simp [ho]
 have hcall := hni0.next hxb ha hex (rest := rest) hdr1
 unfold nw at hcall
 have HA := Lib.hid hcall
 have hlen : i + (n :: a).length = i + 1 + a.length := by simp; omega
 rw [hlen, evX_one x.es x.q (by omega) hex]
 have ho' : n.op = 9 ∨ n.op = 10 ∨ n.op = 21 ∨ n.op = 22 ∨ n.op = 23 ∨ n.op = 24 := by omega
 have HOP := Lib.hid ho'
 have HNS := Lib.hid hns
 generalize i + 1 + a.length = j at HA ⊢
 generalize evX x.es x.q a = q at HA ⊢
 obtain ⟨q', hq'⟩ : ∃ q', q' = q.bind (fun v => singleR x.es n v) := ⟨_, rfl⟩
 rw [← hq']
 have HQ := Lib.hid hq'
 clear hcall hni0 hdr1 ha hex ho ho' hlen hns hq'
 go_enter Tryz.func52, Tryz.ntmps52
 go_wp2_with fail
 refine wp_region_ord (S := NxS xb i be oe x n w) [(0, false), (1, false), (2, false), (3, false), (4, false), (5, false), (6, false), (7, false), (8, false), (9, false), (10, true), (11, true)] (by kernel_rfl) (by kernel_rfl) (fun _ _ _ _ _ h => h) HS1.out (fun hW' => ?_)
 simp only [ordOps, List.filterMap_cons, List.filterMap_nil, List.getElem?_cons_zero, List.getElem?_cons_succ, Option.map_some]
 (repeat (first | (refine hd_take (v := ?_) (by rfl) ?_ ?_; rotate_left; (focus (intro W hW; obtain ⟨s0, s1, s2, s3, s4, s5⟩ := hW; go_simp; try with_reducible rfl)); simp only [Act.put, List.setIfInBounds_toArray, List.set_cons_zero, List.set_cons_succ]) | (refine hd_skip (by rfl) ?_; simp only [Act.put, List.setIfInBounds_toArray, List.set_cons_zero, List.set_cons_succ])))
 clear hW'
 refine hd_call (fun K hK => ?_)
 go_simp
 refine hK _ _ (HS0.out _) ?_
 clear hK K
 refine hd_call (fun K hK => ?_)
 go_simp
 refine hK _ _ (HS0.out _) ?_
 clear hK K
 refine hd_nil ?_
 go_wp2_with fail
 refine HA.out.mono ?_
 rintro r w1 ⟨hq1, hq2, ho1, hoW1⟩
 have HO1 := Lib.hid ho1
 clear ho1 hoW1
 cases q with
 | bad k =>
   have hr := hq2 k rfl
   subst hr
   clear hq1 hq2
   obtain rfl : q' = .bad k := HQ.out
   clear HQ
   go_wp2_with fail
   exact ⟨rfl, NextPost.bad HO1.out⟩
 | ok v =>
   obtain ⟨A, c, rfl, hv, hvi, -, hn1⟩ := hq1 v rfl
   have HN1 := Lib.hid hn1
   have hs := eval_single x xb j n v A c w1 hn1.ev hn1.blk hv hvi HNS.out HOP.out
   rw [show singleR x.es n v = q' from HQ.out.symm] at hs
   have HS := Lib.hid hs
   have c0 : w1.cell? ⟨w.heap.size, 0, none⟩ = some (.int .i64 n.op) := hn1.nd.c0
   have c1 : w1.cell? ⟨w.heap.size, 1, none⟩ = some (.int .i64 n.n) := hn1.nd.c1
   have c2 : w1.cell? ⟨w.heap.size, 2, none⟩ = some (.string n.s) := hn1.nd.c2
   have c3 : w1.cell? ⟨w.heap.size, 3, none⟩ = some (.string n.t) := hn1.nd.c3
   clear hn1 hq1 hq2 hv hvi hs HQ
   go_wp2_with fail
   refine HS.out.mono ?_
   rintro r w2 hr2
   have hpost := NextPost.rs HN1.out hr2
   obtain ⟨g1, g2, -⟩ := hr2
   have HP := Lib.hid hpost
   clear hpost
   cases q' with
   | bad k =>
     have hr := g2 k rfl
     subst hr
     clear g1 g2
     go_wp2_with fail
     exact ⟨rfl, HP.out⟩
   | ok u =>
     obtain ⟨A2, c2', rfl, -⟩ := g1 u rfl
     clear g1 g2
     go_wp2_with fail
     go_ret
     exact HP.out
set_option maxHeartbeats 6400000 in
theorem next_14 (x : Evl) (n : Nd) (a b : List Nd) (ha : NextOk x a) (hb : NextOk x b) (hex : Ex (.one false) a) (hexb : Ex (.one false) b) (ho : n.op = 14) : NextOk x (n :: (a ++ b)) := by
 intro i xb rest w hdr hx hB
 have hn : x.e[i]? = some n := by
   have := congrArg (fun l => l[0]?) hdr
   simpa [List.getElem?_drop] using this
 have hil : i < x.e.length := (List.getElem?_eq_some_iff.1 hn).1
 have hxb := hB.lt
 obtain ⟨be, oe, hea, hbe, hcs⟩ := hx.ex.at_ hil
 obtain ⟨n0, n1, n2, n3⟩ := hcs i n hn
 have hS0 : NxS xb i be oe x n w w.drew := ⟨by rw [← hea]; exact hB.cell 8, hB.cell 9, n0, n1, n2, n3⟩
 have hbw : be < w.heap.size := Nat.lt_trans hbe hxb
 have HS0 := Lib.hid (hS0.alloc hxb hbw)
 have HS1 := Lib.hid hS0
 have hia := node_at be oe x.e.length x.eca i hil
 have HDR := Lib.hid hdr
 have hni := nx_start (n := n) hx hB
 have HNI := Lib.hid hni
 have h9 : w.cell? ⟨xb, 9, none⟩ = some (.int .i64 i) := hS0.s1
 have hf9 : w.frozen? ⟨xb, 9, none⟩ = false := hB.frozen 9
 have hi1 : IntKind.wrap .i64 ((i : Int) + 1) = (i : Int) + 1 := by
   have := hx.el
   exact IntWalk.i64_in _ (by omega)
 have hni0 := hni.drew
 have hdr1 : x.e.drop (i + 1) = (a ++ b) ++ rest := by
   have := congrArg List.tail hdr
   simpa [List.tail_drop] using this
 have hns : n.s.size ≤ 140737488351232 := (hx.ek n (List.mem_of_getElem? hn)).1
 clear hcs n0 n1 n2 n3 hea hn hx hB hdr hS0 hni HDR
 have t1 : (n.op == 1) = false := by simp [ho]
 have t2 : (n.op == 2) = false := by simp [ho]
 have t3 : (n.op == 3) = false := by simp [ho]
 have t4 : (n.op == 4) = false := by simp [ho]
 have t8 : (n.op == 8) = false := by simp [ho]
 have t11 : (n.op == 11) = false := by simp [ho]
 have t12 : (n.op == 12) = false := by simp [ho]
 have t13 : (n.op == 13) = false := by simp [ho]
 have t5 : (n.op == 5) = false := by simp [ho]
 have t6 : (n.op == 6) = false := by simp [ho]
 have t9 : (n.op == 9) = false := by simp [ho]
 have t10 : (n.op == 10) = false := by simp [ho]
 have t21 : (n.op == 21) = false := by simp [ho]
 have t22 : (n.op == 22) = false := by simp [ho]
 have t23 : (n.op == 23) = false := by simp [ho]
 have t24 : (n.op == 24) = false := by simp [ho]
 have hdr2 : x.e.drop (i + 1 + a.length) = b ++ rest := by
   rw [← List.drop_drop, hdr1]; simp
 have hcall := hni0.next hxb ha hex (rest := b ++ rest) (by rw [hdr1]; simp)
 unfold nw at hcall
 have HA := Lib.hid hcall
 have hlen : i + (n :: (a ++ b)).length = i + 1 + a.length + b.length := by simp; omega
 rw [hlen, evX_two x.es x.q (by omega) hex hexb]
 have ho' : n.op = 14 ∨ n.op = 15 ∨ n.op = 16 ∨ n.op = 17 ∨ n.op = 18 ∨ n.op = 19 ∨ n.op = 20 ∨ n.op = 25 ∨ n.op = 26 ∨ n.op = 27 := by omega
 have HOP := Lib.hid ho'
 have hB2 : ∀ W : World, NxI x xb (i + 1 + a.length) n w W → Calls Tryz.prog 52 #[.pointer (some ⟨xb, 0, none⟩)] W (NxA x xb (i + 1 + a.length + b.length) n (evX x.es x.q b) w W) := fun W h => h.next hxb hb hexb hdr2
 have HB2 := Lib.hid hB2
 generalize i + 1 + a.length + b.length = j2 at HB2 ⊢
 generalize i + 1 + a.length = j at HA HB2
 generalize evX x.es x.q a = q at HA ⊢
 generalize evX x.es x.q b = qb at HB2 ⊢
 obtain ⟨q', hq'⟩ : ∃ q', q' = q.bind (fun u => qb.bind fun v => doubleR x.es n.op u v) := ⟨_, rfl⟩
 rw [← hq']
 have HQ := Lib.hid hq'
 clear hcall hni0 hdr1 hdr2 ha hex hb hexb hB2 ho ho' hlen hns hq'
 go_enter Tryz.func52, Tryz.ntmps52
 go_wp2_with fail
 refine wp_region_ord (S := NxS xb i be oe x n w) [(0, false), (1, false), (2, false), (3, false), (4, false), (5, false), (6, false), (7, false), (8, false), (9, false), (10, true), (11, true)] (by kernel_rfl) (by kernel_rfl) (fun _ _ _ _ _ h => h) HS1.out (fun hW' => ?_)
 simp only [ordOps, List.filterMap_cons, List.filterMap_nil, List.getElem?_cons_zero, List.getElem?_cons_succ, Option.map_some]
 (repeat (first | (refine hd_take (v := ?_) (by rfl) ?_ ?_; rotate_left; (focus (intro W hW; obtain ⟨s0, s1, s2, s3, s4, s5⟩ := hW; go_simp; try with_reducible rfl)); simp only [Act.put, List.setIfInBounds_toArray, List.set_cons_zero, List.set_cons_succ]) | (refine hd_skip (by rfl) ?_; simp only [Act.put, List.setIfInBounds_toArray, List.set_cons_zero, List.set_cons_succ])))
 clear hW'
 refine hd_call (fun K hK => ?_)
 go_simp
 refine hK _ _ (HS0.out _) ?_
 clear hK K
 refine hd_call (fun K hK => ?_)
 go_simp
 refine hK _ _ (HS0.out _) ?_
 clear hK K
 refine hd_nil ?_
 go_wp2_with fail
 refine HA.out.mono ?_
 rintro r w1 ⟨hq1, hq2, ho1, hoW1⟩
 have HO1 := Lib.hid ho1
 clear ho1 hoW1
 cases q with
 | bad k =>
   have hr := hq2 k rfl
   subst hr
   clear hq1 hq2
   obtain rfl : q' = .bad k := HQ.out
   clear HQ
   go_wp2_with fail
   exact ⟨rfl, NextPost.bad HO1.out⟩
 | ok v =>
   obtain ⟨A, c, rfl, hv, hvi, hoff, hn1⟩ := hq1 v rfl
   have HN1 := Lib.hid hn1.drew
   have HV := Lib.hid hv
   have HVI := Lib.hid hvi
   have HOF := Lib.hid hoff
   have hS : OpS w.heap.size n.op w1.drew := ⟨hn1.nd.c0⟩
   have HS := Lib.hid hS
   have c0 : w1.cell? ⟨w.heap.size, 0, none⟩ = some (.int .i64 n.op) := hn1.nd.c0
   clear hS hoff hn1 hq1 hq2 hv hvi
   go_wp2_with fail
   refine wp_region_ord (S := OpS w.heap.size n.op) [(0, false), (1, false), (2, false), (3, false), (4, false), (5, true), (6, true), (7, false)] (by kernel_rfl) (by kernel_rfl) (fun _ _ _ _ _ h => h) HS.out (fun hW' => ?_)
   clear hW'
   simp only [ordOps, List.filterMap_cons, List.filterMap_nil, List.getElem?_cons_zero, List.getElem?_cons_succ, Option.map_some]
   (repeat (first | (refine hd_take (v := ?_) (by rfl) ?_ ?_; rotate_left; (focus (intro W hW; obtain ⟨s0⟩ := hW; go_simp; try with_reducible rfl)); simp only [Act.put, List.setIfInBounds_toArray, List.set_cons_zero, List.set_cons_succ]) | (refine hd_skip (by rfl) ?_; simp only [Act.put, List.setIfInBounds_toArray, List.set_cons_zero, List.set_cons_succ])))
   refine hd_call (fun K hK => ?_)
   go_simp
   refine (HB2.out _ HN1.out).mono ?_
   rintro r w2 ⟨hp1, hp2, ho2, hoW2⟩
   have HO2 := Lib.hid ho2
   cases qb with
   | bad k =>
     have hr := hp2 k rfl
     subst hr
     dsimp only
     clear hK K hp1 hp2
     obtain rfl : q' = .bad k := HQ.out
     clear HQ
     go_wp2_with fail
     exact ⟨rfl, NextPost.bad HO2.out⟩
   | ok u =>
     obtain ⟨A2, c2', rfl, hu, hui, -, hn2⟩ := hp1 u rfl
     have HN2 := Lib.hid hn2
     have hof2 : NdOff (gx xb w) w2 w2.heap.size A v := HOF.out.past (w' := w2) (⟨hoW2.os, hoW2.tape, hoW2.output, hoW2.size, hoW2.block⟩ : Only w1.heap.size xb w1 w2) (Nat.le_refl _) hxb
     have hv2 : ValIn v A c w2 := ⟨HV.out.ok, HV.out.nd, HV.out.le, HV.out.max, hof2.sl⟩
     have hs := eval_double x xb j2 n.op v u A A2 c c2' w2 hn2.ev hn2.blk hv2 hu HVI.out hui HOP.out
     rw [show doubleR x.es n.op v u = q' from HQ.out.symm] at hs
     have HD := Lib.hid hs
     refine hK _ _ ⟨hn2.nd.c0⟩ ?_
     clear hK K hn2 hof2 hv2 hs hu hui hp1 hp2 ho2 hoW2 HQ
     refine hd_call (fun K hK => ?_)
     go_simp
     refine HD.out.mono ?_
     rintro r w3 hr2
     have hpost := NextPost.rs HN2.out hr2
     obtain ⟨g1, g2, g3⟩ := hr2
     have hS3 : OpS w.heap.size n.op w3 := ⟨(g3.cell (HN2.out).sz).trans HN2.out.nd.c0⟩
     have HP := Lib.hid hpost
     clear hpost g3
     cases q' with
     | bad k =>
       have hr := g2 k rfl
       subst hr
       dsimp only
       clear hK K g1 g2 hS3
       go_wp2_with fail
       exact ⟨rfl, HP.out⟩
     | ok u =>
       obtain ⟨A3, c3', rfl, -⟩ := g1 u rfl
       refine hK _ _ hS3 ?_
       clear hK K g1 g2 hS3
       (repeat (first | (refine hd_take (v := ?_) (by rfl) ?_ ?_; rotate_left; (focus (intro W hW; obtain ⟨s0⟩ := hW; go_simp; try with_reducible rfl)); simp only [Act.put, List.setIfInBounds_toArray, List.set_cons_zero, List.set_cons_succ]) | (refine hd_skip (by rfl) ?_; simp only [Act.put, List.setIfInBounds_toArray, List.set_cons_zero, List.set_cons_succ])))
       refine hd_nil ?_
       go_wp2_with fail
       go_ret
       exact HP.out
set_option maxHeartbeats 6400000 in
theorem next_15 (x : Evl) (n : Nd) (a b : List Nd) (ha : NextOk x a) (hb : NextOk x b) (hex : Ex (.one false) a) (hexb : Ex (.one false) b) (ho : n.op = 15) : NextOk x (n :: (a ++ b)) := by
 intro i xb rest w hdr hx hB
 have hn : x.e[i]? = some n := by
   have := congrArg (fun l => l[0]?) hdr
   simpa [List.getElem?_drop] using this
 have hil : i < x.e.length := (List.getElem?_eq_some_iff.1 hn).1
 have hxb := hB.lt
 obtain ⟨be, oe, hea, hbe, hcs⟩ := hx.ex.at_ hil
 obtain ⟨n0, n1, n2, n3⟩ := hcs i n hn
 have hS0 : NxS xb i be oe x n w w.drew := ⟨by rw [← hea]; exact hB.cell 8, hB.cell 9, n0, n1, n2, n3⟩
 have hbw : be < w.heap.size := Nat.lt_trans hbe hxb
 have HS0 := Lib.hid (hS0.alloc hxb hbw)
 have HS1 := Lib.hid hS0
 have hia := node_at be oe x.e.length x.eca i hil
 have HDR := Lib.hid hdr
 have hni := nx_start (n := n) hx hB
 have HNI := Lib.hid hni
 have h9 : w.cell? ⟨xb, 9, none⟩ = some (.int .i64 i) := hS0.s1
 have hf9 : w.frozen? ⟨xb, 9, none⟩ = false := hB.frozen 9
 have hi1 : IntKind.wrap .i64 ((i : Int) + 1) = (i : Int) + 1 := by
   have := hx.el
   exact IntWalk.i64_in _ (by omega)
 have hni0 := hni.drew
 have hdr1 : x.e.drop (i + 1) = (a ++ b) ++ rest := by
   have := congrArg List.tail hdr
   simpa [List.tail_drop] using this
 have hns : n.s.size ≤ 140737488351232 := (hx.ek n (List.mem_of_getElem? hn)).1
 clear hcs n0 n1 n2 n3 hea hn hx hB hdr hS0 hni HDR
 have t1 : (n.op == 1) = false := by simp [ho]
 have t2 : (n.op == 2) = false := by simp [ho]
 have t3 : (n.op == 3) = false := by simp [ho]
 have t4 : (n.op == 4) = false := by simp [ho]
 have t8 : (n.op == 8) = false := by simp [ho]
 have t11 : (n.op == 11) = false := by simp [ho]
 have t12 : (n.op == 12) = false := by simp [ho]
 have t13 : (n.op == 13) = false := by simp [ho]
 have t5 : (n.op == 5) = false := by simp [ho]
 have t6 : (n.op == 6) = false := by simp [ho]
 have t9 : (n.op == 9) = false := by simp [ho]
 have t10 : (n.op == 10) = false := by simp [ho]
 have t21 : (n.op == 21) = false := by simp [ho]
 have t22 : (n.op == 22) = false := by simp [ho]
 have t23 : (n.op == 23) = false := by simp [ho]
 have t24 : (n.op == 24) = false := by simp [ho]
 have hdr2 : x.e.drop (i + 1 + a.length) = b ++ rest := by
   rw [← List.drop_drop, hdr1]; simp
 have hcall := hni0.next hxb ha hex (rest := b ++ rest) (by rw [hdr1]; simp)
 unfold nw at hcall
 have HA := Lib.hid hcall
 have hlen : i + (n :: (a ++ b)).length = i + 1 + a.length + b.length := by simp; omega
 rw [hlen, evX_two x.es x.q (by omega) hex hexb]
 have ho' : n.op = 14 ∨ n.op = 15 ∨ n.op = 16 ∨ n.op = 17 ∨ n.op = 18 ∨ n.op = 19 ∨ n.op = 20 ∨ n.op = 25 ∨ n.op = 26 ∨ n.op = 27 := by omega
 have HOP := Lib.hid ho'
 have hB2 : ∀ W : World, NxI x xb (i + 1 + a.length) n w W → Calls Tryz.prog 52 #[.pointer (some ⟨xb, 0, none⟩)] W (NxA x xb (i + 1 + a.length + b.length) n (evX x.es x.q b) w W) := fun W h => h.next hxb hb hexb hdr2
 have HB2 := Lib.hid hB2
 generalize i + 1 + a.length + b.length = j2 at HB2 ⊢
 generalize i + 1 + a.length = j at HA HB2
 generalize evX x.es x.q a = q at HA ⊢
 generalize evX x.es x.q b = qb at HB2 ⊢
 obtain ⟨q', hq'⟩ : ∃ q', q' = q.bind (fun u => qb.bind fun v => doubleR x.es n.op u v) := ⟨_, rfl⟩
 rw [← hq']
 have HQ := Lib.hid hq'
 clear hcall hni0 hdr1 hdr2 ha hex hb hexb hB2 ho ho' hlen hns hq'
 go_enter Tryz.func52, Tryz.ntmps52
 go_wp2_with fail
 refine wp_region_ord (S := NxS xb i be oe x n w) [(0, false), (1, false), (2, false), (3, false), (4, false), (5, false), (6, false), (7, false), (8, false), (9, false), (10, true), (11, true)] (by kernel_rfl) (by kernel_rfl) (fun _ _ _ _ _ h => h) HS1.out (fun hW' => ?_)
 simp only [ordOps, List.filterMap_cons, List.filterMap_nil, List.getElem?_cons_zero, List.getElem?_cons_succ, Option.map_some]
 (repeat (first | (refine hd_take (v := ?_) (by rfl) ?_ ?_; rotate_left; (focus (intro W hW; obtain ⟨s0, s1, s2, s3, s4, s5⟩ := hW; go_simp; try with_reducible rfl)); simp only [Act.put, List.setIfInBounds_toArray, List.set_cons_zero, List.set_cons_succ]) | (refine hd_skip (by rfl) ?_; simp only [Act.put, List.setIfInBounds_toArray, List.set_cons_zero, List.set_cons_succ])))
 clear hW'
 refine hd_call (fun K hK => ?_)
 go_simp
 refine hK _ _ (HS0.out _) ?_
 clear hK K
 refine hd_call (fun K hK => ?_)
 go_simp
 refine hK _ _ (HS0.out _) ?_
 clear hK K
 refine hd_nil ?_
 go_wp2_with fail
 refine HA.out.mono ?_
 rintro r w1 ⟨hq1, hq2, ho1, hoW1⟩
 have HO1 := Lib.hid ho1
 clear ho1 hoW1
 cases q with
 | bad k =>
   have hr := hq2 k rfl
   subst hr
   clear hq1 hq2
   obtain rfl : q' = .bad k := HQ.out
   clear HQ
   go_wp2_with fail
   exact ⟨rfl, NextPost.bad HO1.out⟩
 | ok v =>
   obtain ⟨A, c, rfl, hv, hvi, hoff, hn1⟩ := hq1 v rfl
   have HN1 := Lib.hid hn1.drew
   have HV := Lib.hid hv
   have HVI := Lib.hid hvi
   have HOF := Lib.hid hoff
   have hS : OpS w.heap.size n.op w1.drew := ⟨hn1.nd.c0⟩
   have HS := Lib.hid hS
   have c0 : w1.cell? ⟨w.heap.size, 0, none⟩ = some (.int .i64 n.op) := hn1.nd.c0
   clear hS hoff hn1 hq1 hq2 hv hvi
   go_wp2_with fail
   refine wp_region_ord (S := OpS w.heap.size n.op) [(0, false), (1, false), (2, false), (3, false), (4, false), (5, true), (6, true), (7, false)] (by kernel_rfl) (by kernel_rfl) (fun _ _ _ _ _ h => h) HS.out (fun hW' => ?_)
   clear hW'
   simp only [ordOps, List.filterMap_cons, List.filterMap_nil, List.getElem?_cons_zero, List.getElem?_cons_succ, Option.map_some]
   (repeat (first | (refine hd_take (v := ?_) (by rfl) ?_ ?_; rotate_left; (focus (intro W hW; obtain ⟨s0⟩ := hW; go_simp; try with_reducible rfl)); simp only [Act.put, List.setIfInBounds_toArray, List.set_cons_zero, List.set_cons_succ]) | (refine hd_skip (by rfl) ?_; simp only [Act.put, List.setIfInBounds_toArray, List.set_cons_zero, List.set_cons_succ])))
   refine hd_call (fun K hK => ?_)
   go_simp
   refine (HB2.out _ HN1.out).mono ?_
   rintro r w2 ⟨hp1, hp2, ho2, hoW2⟩
   have HO2 := Lib.hid ho2
   cases qb with
   | bad k =>
     have hr := hp2 k rfl
     subst hr
     dsimp only
     clear hK K hp1 hp2
     obtain rfl : q' = .bad k := HQ.out
     clear HQ
     go_wp2_with fail
     exact ⟨rfl, NextPost.bad HO2.out⟩
   | ok u =>
     obtain ⟨A2, c2', rfl, hu, hui, -, hn2⟩ := hp1 u rfl
     have HN2 := Lib.hid hn2
     have hof2 : NdOff (gx xb w) w2 w2.heap.size A v := HOF.out.past (w' := w2) (⟨hoW2.os, hoW2.tape, hoW2.output, hoW2.size, hoW2.block⟩ : Only w1.heap.size xb w1 w2) (Nat.le_refl _) hxb
     have hv2 : ValIn v A c w2 := ⟨HV.out.ok, HV.out.nd, HV.out.le, HV.out.max, hof2.sl⟩
     have hs := eval_double x xb j2 n.op v u A A2 c c2' w2 hn2.ev hn2.blk hv2 hu HVI.out hui HOP.out
     rw [show doubleR x.es n.op v u = q' from HQ.out.symm] at hs
     have HD := Lib.hid hs
     refine hK _ _ ⟨hn2.nd.c0⟩ ?_
     clear hK K hn2 hof2 hv2 hs hu hui hp1 hp2 ho2 hoW2 HQ
     refine hd_call (fun K hK => ?_)
     go_simp
     refine HD.out.mono ?_
     rintro r w3 hr2
     have hpost := NextPost.rs HN2.out hr2
     obtain ⟨g1, g2, g3⟩ := hr2
     have hS3 : OpS w.heap.size n.op w3 := ⟨(g3.cell (HN2.out).sz).trans HN2.out.nd.c0⟩
     have HP := Lib.hid hpost
     clear hpost g3
     cases q' with
     | bad k =>
       have hr := g2 k rfl
       subst hr
       dsimp only
       clear hK K g1 g2 hS3
       go_wp2_with fail
       exact ⟨rfl, HP.out⟩
     | ok u =>
       obtain ⟨A3, c3', rfl, -⟩ := g1 u rfl
       refine hK _ _ hS3 ?_
       clear hK K g1 g2 hS3
       (repeat (first | (refine hd_take (v := ?_) (by rfl) ?_ ?_; rotate_left; (focus (intro W hW; obtain ⟨s0⟩ := hW; go_simp; try with_reducible rfl)); simp only [Act.put, List.setIfInBounds_toArray, List.set_cons_zero, List.set_cons_succ]) | (refine hd_skip (by rfl) ?_; simp only [Act.put, List.setIfInBounds_toArray, List.set_cons_zero, List.set_cons_succ])))
       refine hd_nil ?_
       go_wp2_with fail
       go_ret
       exact HP.out
set_option maxHeartbeats 6400000 in
theorem next_16 (x : Evl) (n : Nd) (a b : List Nd) (ha : NextOk x a) (hb : NextOk x b) (hex : Ex (.one false) a) (hexb : Ex (.one false) b) (ho : n.op = 16) : NextOk x (n :: (a ++ b)) := by
 intro i xb rest w hdr hx hB
 have hn : x.e[i]? = some n := by
   have := congrArg (fun l => l[0]?) hdr
   simpa [List.getElem?_drop] using this
 have hil : i < x.e.length := (List.getElem?_eq_some_iff.1 hn).1
 have hxb := hB.lt
 obtain ⟨be, oe, hea, hbe, hcs⟩ := hx.ex.at_ hil
 obtain ⟨n0, n1, n2, n3⟩ := hcs i n hn
 have hS0 : NxS xb i be oe x n w w.drew := ⟨by rw [← hea]; exact hB.cell 8, hB.cell 9, n0, n1, n2, n3⟩
 have hbw : be < w.heap.size := Nat.lt_trans hbe hxb
 have HS0 := Lib.hid (hS0.alloc hxb hbw)
 have HS1 := Lib.hid hS0
 have hia := node_at be oe x.e.length x.eca i hil
 have HDR := Lib.hid hdr
 have hni := nx_start (n := n) hx hB
 have HNI := Lib.hid hni
 have h9 : w.cell? ⟨xb, 9, none⟩ = some (.int .i64 i) := hS0.s1
 have hf9 : w.frozen? ⟨xb, 9, none⟩ = false := hB.frozen 9
 have hi1 : IntKind.wrap .i64 ((i : Int) + 1) = (i : Int) + 1 := by
   have := hx.el
   exact IntWalk.i64_in _ (by omega)
 have hni0 := hni.drew
 have hdr1 : x.e.drop (i + 1) = (a ++ b) ++ rest := by
   have := congrArg List.tail hdr
   simpa [List.tail_drop] using this
 have hns : n.s.size ≤ 140737488351232 := (hx.ek n (List.mem_of_getElem? hn)).1
 clear hcs n0 n1 n2 n3 hea hn hx hB hdr hS0 hni HDR
 have t1 : (n.op == 1) = false := by simp [ho]
 have t2 : (n.op == 2) = false := by simp [ho]
 have t3 : (n.op == 3) = false := by simp [ho]
 have t4 : (n.op == 4) = false := by simp [ho]
 have t8 : (n.op == 8) = false := by simp [ho]
 have t11 : (n.op == 11) = false := by simp [ho]
 have t12 : (n.op == 12) = false := by simp [ho]
 have t13 : (n.op == 13) = false := by simp [ho]
 have t5 : (n.op == 5) = false := by simp [ho]
 have t6 : (n.op == 6) = false := by simp [ho]
 have t9 : (n.op == 9) = false := by simp [ho]
 have t10 : (n.op == 10) = false := by simp [ho]
 have t21 : (n.op == 21) = false := by simp [ho]
 have t22 : (n.op == 22) = false := by simp [ho]
 have t23 : (n.op == 23) = false := by simp [ho]
 have t24 : (n.op == 24) = false := by simp [ho]
 have hdr2 : x.e.drop (i + 1 + a.length) = b ++ rest := by
   rw [← List.drop_drop, hdr1]; simp
 have hcall := hni0.next hxb ha hex (rest := b ++ rest) (by rw [hdr1]; simp)
 unfold nw at hcall
 have HA := Lib.hid hcall
 have hlen : i + (n :: (a ++ b)).length = i + 1 + a.length + b.length := by simp; omega
 rw [hlen, evX_two x.es x.q (by omega) hex hexb]
 have ho' : n.op = 14 ∨ n.op = 15 ∨ n.op = 16 ∨ n.op = 17 ∨ n.op = 18 ∨ n.op = 19 ∨ n.op = 20 ∨ n.op = 25 ∨ n.op = 26 ∨ n.op = 27 := by omega
 have HOP := Lib.hid ho'
 have hB2 : ∀ W : World, NxI x xb (i + 1 + a.length) n w W → Calls Tryz.prog 52 #[.pointer (some ⟨xb, 0, none⟩)] W (NxA x xb (i + 1 + a.length + b.length) n (evX x.es x.q b) w W) := fun W h => h.next hxb hb hexb hdr2
 have HB2 := Lib.hid hB2
 generalize i + 1 + a.length + b.length = j2 at HB2 ⊢
 generalize i + 1 + a.length = j at HA HB2
 generalize evX x.es x.q a = q at HA ⊢
 generalize evX x.es x.q b = qb at HB2 ⊢
 obtain ⟨q', hq'⟩ : ∃ q', q' = q.bind (fun u => qb.bind fun v => doubleR x.es n.op u v) := ⟨_, rfl⟩
 rw [← hq']
 have HQ := Lib.hid hq'
 clear hcall hni0 hdr1 hdr2 ha hex hb hexb hB2 ho ho' hlen hns hq'
 go_enter Tryz.func52, Tryz.ntmps52
 go_wp2_with fail
 refine wp_region_ord (S := NxS xb i be oe x n w) [(0, false), (1, false), (2, false), (3, false), (4, false), (5, false), (6, false), (7, false), (8, false), (9, false), (10, true), (11, true)] (by kernel_rfl) (by kernel_rfl) (fun _ _ _ _ _ h => h) HS1.out (fun hW' => ?_)
 simp only [ordOps, List.filterMap_cons, List.filterMap_nil, List.getElem?_cons_zero, List.getElem?_cons_succ, Option.map_some]
 (repeat (first | (refine hd_take (v := ?_) (by rfl) ?_ ?_; rotate_left; (focus (intro W hW; obtain ⟨s0, s1, s2, s3, s4, s5⟩ := hW; go_simp; try with_reducible rfl)); simp only [Act.put, List.setIfInBounds_toArray, List.set_cons_zero, List.set_cons_succ]) | (refine hd_skip (by rfl) ?_; simp only [Act.put, List.setIfInBounds_toArray, List.set_cons_zero, List.set_cons_succ])))
 clear hW'
 refine hd_call (fun K hK => ?_)
 go_simp
 refine hK _ _ (HS0.out _) ?_
 clear hK K
 refine hd_call (fun K hK => ?_)
 go_simp
 refine hK _ _ (HS0.out _) ?_
 clear hK K
 refine hd_nil ?_
 go_wp2_with fail
 refine HA.out.mono ?_
 rintro r w1 ⟨hq1, hq2, ho1, hoW1⟩
 have HO1 := Lib.hid ho1
 clear ho1 hoW1
 cases q with
 | bad k =>
   have hr := hq2 k rfl
   subst hr
   clear hq1 hq2
   obtain rfl : q' = .bad k := HQ.out
   clear HQ
   go_wp2_with fail
   exact ⟨rfl, NextPost.bad HO1.out⟩
 | ok v =>
   obtain ⟨A, c, rfl, hv, hvi, hoff, hn1⟩ := hq1 v rfl
   have HN1 := Lib.hid hn1.drew
   have HV := Lib.hid hv
   have HVI := Lib.hid hvi
   have HOF := Lib.hid hoff
   have hS : OpS w.heap.size n.op w1.drew := ⟨hn1.nd.c0⟩
   have HS := Lib.hid hS
   have c0 : w1.cell? ⟨w.heap.size, 0, none⟩ = some (.int .i64 n.op) := hn1.nd.c0
   clear hS hoff hn1 hq1 hq2 hv hvi
   go_wp2_with fail
   refine wp_region_ord (S := OpS w.heap.size n.op) [(0, false), (1, false), (2, false), (3, false), (4, false), (5, true), (6, true), (7, false)] (by kernel_rfl) (by kernel_rfl) (fun _ _ _ _ _ h => h) HS.out (fun hW' => ?_)
   clear hW'
   simp only [ordOps, List.filterMap_cons, List.filterMap_nil, List.getElem?_cons_zero, List.getElem?_cons_succ, Option.map_some]
   (repeat (first | (refine hd_take (v := ?_) (by rfl) ?_ ?_; rotate_left; (focus (intro W hW; obtain ⟨s0⟩ := hW; go_simp; try with_reducible rfl)); simp only [Act.put, List.setIfInBounds_toArray, List.set_cons_zero, List.set_cons_succ]) | (refine hd_skip (by rfl) ?_; simp only [Act.put, List.setIfInBounds_toArray, List.set_cons_zero, List.set_cons_succ])))
   refine hd_call (fun K hK => ?_)
   go_simp
   refine (HB2.out _ HN1.out).mono ?_
   rintro r w2 ⟨hp1, hp2, ho2, hoW2⟩
   have HO2 := Lib.hid ho2
   cases qb with
   | bad k =>
     have hr := hp2 k rfl
     subst hr
     dsimp only
     clear hK K hp1 hp2
     obtain rfl : q' = .bad k := HQ.out
     clear HQ
     go_wp2_with fail
     exact ⟨rfl, NextPost.bad HO2.out⟩
   | ok u =>
     obtain ⟨A2, c2', rfl, hu, hui, -, hn2⟩ := hp1 u rfl
     have HN2 := Lib.hid hn2
     have hof2 : NdOff (gx xb w) w2 w2.heap.size A v := HOF.out.past (w' := w2) (⟨hoW2.os, hoW2.tape, hoW2.output, hoW2.size, hoW2.block⟩ : Only w1.heap.size xb w1 w2) (Nat.le_refl _) hxb
     have hv2 : ValIn v A c w2 := ⟨HV.out.ok, HV.out.nd, HV.out.le, HV.out.max, hof2.sl⟩
     have hs := eval_double x xb j2 n.op v u A A2 c c2' w2 hn2.ev hn2.blk hv2 hu HVI.out hui HOP.out
     rw [show doubleR x.es n.op v u = q' from HQ.out.symm] at hs
     have HD := Lib.hid hs
     refine hK _ _ ⟨hn2.nd.c0⟩ ?_
     clear hK K hn2 hof2 hv2 hs hu hui hp1 hp2 ho2 hoW2 HQ
     refine hd_call (fun K hK => ?_)
     go_simp
     refine HD.out.mono ?_
     rintro r w3 hr2
     have hpost := NextPost.rs HN2.out hr2
     obtain ⟨g1, g2, g3⟩ := hr2
     have hS3 : OpS w.heap.size n.op w3 := ⟨(g3.cell (HN2.out).sz).trans HN2.out.nd.c0⟩
     have HP := Lib.hid hpost
     clear hpost g3
     cases q' with
     | bad k =>
       have hr := g2 k rfl
       subst hr
       dsimp only
       clear hK K g1 g2 hS3
       go_wp2_with fail
       exact ⟨rfl, HP.out⟩
     | ok u =>
       obtain ⟨A3, c3', rfl, -⟩ := g1 u rfl
       refine hK _ _ hS3 ?_
       clear hK K g1 g2 hS3
       (repeat (first | (refine hd_take (v := ?_) (by rfl) ?_ ?_; rotate_left; (focus (intro W hW; obtain ⟨s0⟩ := hW; go_simp; try with_reducible rfl)); simp only [Act.put, List.setIfInBounds_toArray, List.set_cons_zero, List.set_cons_succ]) | (refine hd_skip (by rfl) ?_; simp only [Act.put, List.setIfInBounds_toArray, List.set_cons_zero, List.set_cons_succ])))
       refine hd_nil ?_
       go_wp2_with fail
       go_ret
       exact HP.out
set_option maxHeartbeats 6400000 in
theorem next_17 (x : Evl) (n : Nd) (a b : List Nd) (ha : NextOk x a) (hb : NextOk x b) (hex : Ex (.one false) a) (hexb : Ex (.one false) b) (ho : n.op = 17) : NextOk x (n :: (a ++ b)) := by
 intro i xb rest w hdr hx hB
 have hn : x.e[i]? = some n := by
   have := congrArg (fun l => l[0]?) hdr
   simpa [List.getElem?_drop] using this
 have hil : i < x.e.length := (List.getElem?_eq_some_iff.1 hn).1
 have hxb := hB.lt
 obtain ⟨be, oe, hea, hbe, hcs⟩ := hx.ex.at_ hil
 obtain ⟨n0, n1, n2, n3⟩ := hcs i n hn
 have hS0 : NxS xb i be oe x n w w.drew := ⟨by rw [← hea]; exact hB.cell 8, hB.cell 9, n0, n1, n2, n3⟩
 have hbw : be < w.heap.size := Nat.lt_trans hbe hxb
 have HS0 := Lib.hid (hS0.alloc hxb hbw)
 have HS1 := Lib.hid hS0
 have hia := node_at be oe x.e.length x.eca i hil
 have HDR := Lib.hid hdr
 have hni := nx_start (n := n) hx hB
 have HNI := Lib.hid hni
 have h9 : w.cell? ⟨xb, 9, none⟩ = some (.int .i64 i) := hS0.s1
 have hf9 : w.frozen? ⟨xb, 9, none⟩ = false := hB.frozen 9
 have hi1 : IntKind.wrap .i64 ((i : Int) + 1) = (i : Int) + 1 := by
   have := hx.el
   exact IntWalk.i64_in _ (by omega)
 have hni0 := hni.drew
 have hdr1 : x.e.drop (i + 1) = (a ++ b) ++ rest := by
   have := congrArg List.tail hdr
   simpa [List.tail_drop] using this
 have hns : n.s.size ≤ 140737488351232 := (hx.ek n (List.mem_of_getElem? hn)).1
 clear hcs n0 n1 n2 n3 hea hn hx hB hdr hS0 hni HDR
 have t1 : (n.op == 1) = false := by simp [ho]
 have t2 : (n.op == 2) = false := by simp [ho]
 have t3 : (n.op == 3) = false := by simp [ho]
 have t4 : (n.op == 4) = false := by simp [ho]
 have t8 : (n.op == 8) = false := by simp [ho]
 have t11 : (n.op == 11) = false := by simp [ho]
 have t12 : (n.op == 12) = false := by simp [ho]
 have t13 : (n.op == 13) = false := by simp [ho]
 have t5 : (n.op == 5) = false := by simp [ho]
 have t6 : (n.op == 6) = false := by simp [ho]
 have t9 : (n.op == 9) = false := by simp [ho]
 have t10 : (n.op == 10) = false := by simp [ho]
 have t21 : (n.op == 21) = false := by simp [ho]
 have t22 : (n.op == 22) = false := by simp [ho]
 have t23 : (n.op == 23) = false := by simp [ho]
 have t24 : (n.op == 24) = false := by simp [ho]
 have hdr2 : x.e.drop (i + 1 + a.length) = b ++ rest := by
   rw [← List.drop_drop, hdr1]; simp
 have hcall := hni0.next hxb ha hex (rest := b ++ rest) (by rw [hdr1]; simp)
 unfold nw at hcall
 have HA := Lib.hid hcall
 have hlen : i + (n :: (a ++ b)).length = i + 1 + a.length + b.length := by simp; omega
 rw [hlen, evX_two x.es x.q (by omega) hex hexb]
 have ho' : n.op = 14 ∨ n.op = 15 ∨ n.op = 16 ∨ n.op = 17 ∨ n.op = 18 ∨ n.op = 19 ∨ n.op = 20 ∨ n.op = 25 ∨ n.op = 26 ∨ n.op = 27 := by omega
 have HOP := Lib.hid ho'
 have hB2 : ∀ W : World, NxI x xb (i + 1 + a.length) n w W → Calls Tryz.prog 52 #[.pointer (some ⟨xb, 0, none⟩)] W (NxA x xb (i + 1 + a.length + b.length) n (evX x.es x.q b) w W) := fun W h => h.next hxb hb hexb hdr2
 have HB2 := Lib.hid hB2
 generalize i + 1 + a.length + b.length = j2 at HB2 ⊢
 generalize i + 1 + a.length = j at HA HB2
 generalize evX x.es x.q a = q at HA ⊢
 generalize evX x.es x.q b = qb at HB2 ⊢
 obtain ⟨q', hq'⟩ : ∃ q', q' = q.bind (fun u => qb.bind fun v => doubleR x.es n.op u v) := ⟨_, rfl⟩
 rw [← hq']
 have HQ := Lib.hid hq'
 clear hcall hni0 hdr1 hdr2 ha hex hb hexb hB2 ho ho' hlen hns hq'
 go_enter Tryz.func52, Tryz.ntmps52
 go_wp2_with fail
 refine wp_region_ord (S := NxS xb i be oe x n w) [(0, false), (1, false), (2, false), (3, false), (4, false), (5, false), (6, false), (7, false), (8, false), (9, false), (10, true), (11, true)] (by kernel_rfl) (by kernel_rfl) (fun _ _ _ _ _ h => h) HS1.out (fun hW' => ?_)
 simp only [ordOps, List.filterMap_cons, List.filterMap_nil, List.getElem?_cons_zero, List.getElem?_cons_succ, Option.map_some]
 (repeat (first | (refine hd_take (v := ?_) (by rfl) ?_ ?_; rotate_left; (focus (intro W hW; obtain ⟨s0, s1, s2, s3, s4, s5⟩ := hW; go_simp; try with_reducible rfl)); simp only [Act.put, List.setIfInBounds_toArray, List.set_cons_zero, List.set_cons_succ]) | (refine hd_skip (by rfl) ?_; simp only [Act.put, List.setIfInBounds_toArray, List.set_cons_zero, List.set_cons_succ])))
 clear hW'
 refine hd_call (fun K hK => ?_)
 go_simp
 refine hK _ _ (HS0.out _) ?_
 clear hK K
 refine hd_call (fun K hK => ?_)
 go_simp
 refine hK _ _ (HS0.out _) ?_
 clear hK K
 refine hd_nil ?_
 go_wp2_with fail
 refine HA.out.mono ?_
 rintro r w1 ⟨hq1, hq2, ho1, hoW1⟩
 have HO1 := Lib.hid ho1
 clear ho1 hoW1
 cases q with
 | bad k =>
   have hr := hq2 k rfl
   subst hr
   clear hq1 hq2
   obtain rfl : q' = .bad k := HQ.out
   clear HQ
   go_wp2_with fail
   exact ⟨rfl, NextPost.bad HO1.out⟩
 | ok v =>
   obtain ⟨A, c, rfl, hv, hvi, hoff, hn1⟩ := hq1 v rfl
   have HN1 := Lib.hid hn1.drew
   have HV := Lib.hid hv
   have HVI := Lib.hid hvi
   have HOF := Lib.hid hoff
   have hS : OpS w.heap.size n.op w1.drew := ⟨hn1.nd.c0⟩
   have HS := Lib.hid hS
   have c0 : w1.cell? ⟨w.heap.size, 0, none⟩ = some (.int .i64 n.op) := hn1.nd.c0
   clear hS hoff hn1 hq1 hq2 hv hvi
   go_wp2_with fail
   refine wp_region_ord (S := OpS w.heap.size n.op) [(0, false), (1, false), (2, false), (3, false), (4, false), (5, true), (6, true), (7, false)] (by kernel_rfl) (by kernel_rfl) (fun _ _ _ _ _ h => h) HS.out (fun hW' => ?_)
   clear hW'
   simp only [ordOps, List.filterMap_cons, List.filterMap_nil, List.getElem?_cons_zero, List.getElem?_cons_succ, Option.map_some]
   (repeat (first | (refine hd_take (v := ?_) (by rfl) ?_ ?_; rotate_left; (focus (intro W hW; obtain ⟨s0⟩ := hW; go_simp; try with_reducible rfl)); simp only [Act.put, List.setIfInBounds_toArray, List.set_cons_zero, List.set_cons_succ]) | (refine hd_skip (by rfl) ?_; simp only [Act.put, List.setIfInBounds_toArray, List.set_cons_zero, List.set_cons_succ])))
   refine hd_call (fun K hK => ?_)
   go_simp
   refine (HB2.out _ HN1.out).mono ?_
   rintro r w2 ⟨hp1, hp2, ho2, hoW2⟩
   have HO2 := Lib.hid ho2
   cases qb with
   | bad k =>
     have hr := hp2 k rfl
     subst hr
     dsimp only
     clear hK K hp1 hp2
     obtain rfl : q' = .bad k := HQ.out
     clear HQ
     go_wp2_with fail
     exact ⟨rfl, NextPost.bad HO2.out⟩
   | ok u =>
     obtain ⟨A2, c2', rfl, hu, hui, -, hn2⟩ := hp1 u rfl
     have HN2 := Lib.hid hn2
     have hof2 : NdOff (gx xb w) w2 w2.heap.size A v := HOF.out.past (w' := w2) (⟨hoW2.os, hoW2.tape, hoW2.output, hoW2.size, hoW2.block⟩ : Only w1.heap.size xb w1 w2) (Nat.le_refl _) hxb
     have hv2 : ValIn v A c w2 := ⟨HV.out.ok, HV.out.nd, HV.out.le, HV.out.max, hof2.sl⟩
     have hs := eval_double x xb j2 n.op v u A A2 c c2' w2 hn2.ev hn2.blk hv2 hu HVI.out hui HOP.out
     rw [show doubleR x.es n.op v u = q' from HQ.out.symm] at hs
     have HD := Lib.hid hs
     refine hK _ _ ⟨hn2.nd.c0⟩ ?_
     clear hK K hn2 hof2 hv2 hs hu hui hp1 hp2 ho2 hoW2 HQ
     refine hd_call (fun K hK => ?_)
     go_simp
     refine HD.out.mono ?_
     rintro r w3 hr2
     have hpost := NextPost.rs HN2.out hr2
     obtain ⟨g1, g2, g3⟩ := hr2
     have hS3 : OpS w.heap.size n.op w3 := ⟨(g3.cell (HN2.out).sz).trans HN2.out.nd.c0⟩
     have HP := Lib.hid hpost
     clear hpost g3
     cases q' with
     | bad k =>
       have hr := g2 k rfl
       subst hr
       dsimp only
       clear hK K g1 g2 hS3
       go_wp2_with fail
       exact ⟨rfl, HP.out⟩
     | ok u =>
       obtain ⟨A3, c3', rfl, -⟩ := g1 u rfl
       refine hK _ _ hS3 ?_
       clear hK K g1 g2 hS3
       (repeat (first | (refine hd_take (v := ?_) (by rfl) ?_ ?_; rotate_left; (focus (intro W hW; obtain ⟨s0⟩ := hW; go_simp; try with_reducible rfl)); simp only [Act.put, List.setIfInBounds_toArray, List.set_cons_zero, List.set_cons_succ]) | (refine hd_skip (by rfl) ?_; simp only [Act.put, List.setIfInBounds_toArray, List.set_cons_zero, List.set_cons_succ])))
       refine hd_nil ?_
       go_wp2_with fail
       go_ret
       exact HP.out
set_option maxHeartbeats 6400000 in
theorem next_18 (x : Evl) (n : Nd) (a b : List Nd) (ha : NextOk x a) (hb : NextOk x b) (hex : Ex (.one false) a) (hexb : Ex (.one false) b) (ho : n.op = 18) : NextOk x (n :: (a ++ b)) := by
 intro i xb rest w hdr hx hB
 have hn : x.e[i]? = some n := by
   have := congrArg (fun l => l[0]?) hdr
   simpa [List.getElem?_drop] using this
 have hil : i < x.e.length := (List.getElem?_eq_some_iff.1 hn).1
 have hxb := hB.lt
 obtain ⟨be, oe, hea, hbe, hcs⟩ := hx.ex.at_ hil
 obtain ⟨n0, n1, n2, n3⟩ := hcs i n hn
 have hS0 : NxS xb i be oe x n w w.drew := ⟨by rw [← hea]; exact hB.cell 8, hB.cell 9, n0, n1, n2, n3⟩
 have hbw : be < w.heap.size := Nat.lt_trans hbe hxb
 have HS0 := Lib.hid (hS0.alloc hxb hbw)
 have HS1 := Lib.hid hS0
 have hia := node_at be oe x.e.length x.eca i hil
 have HDR := Lib.hid hdr
 have hni := nx_start (n := n) hx hB
 have HNI := Lib.hid hni
 have h9 : w.cell? ⟨xb, 9, none⟩ = some (.int .i64 i) := hS0.s1
 have hf9 : w.frozen? ⟨xb, 9, none⟩ = false := hB.frozen 9
 have hi1 : IntKind.wrap .i64 ((i : Int) + 1) = (i : Int) + 1 := by
   have := hx.el
   exact IntWalk.i64_in _ (by omega)
 have hni0 := hni.drew
 have hdr1 : x.e.drop (i + 1) = (a ++ b) ++ rest := by
   have := congrArg List.tail hdr
   simpa [List.tail_drop] using this
 have hns : n.s.size ≤ 140737488351232 := (hx.ek n (List.mem_of_getElem? hn)).1
 clear hcs n0 n1 n2 n3 hea hn hx hB hdr hS0 hni HDR
 have t1 : (n.op == 1) = false := by simp [ho]
 have t2 : (n.op == 2) = false := by simp [ho]
 have t3 : (n.op == 3) = false := by simp [ho]
 have t4 : (n.op == 4) = false := by simp [ho]
 have t8 : (n.op == 8) = false := by simp [ho]
 have t11 : (n.op == 11) = false := by simp [ho]
 have t12 : (n.op == 12) = false := by simp [ho]
 have t13 : (n.op == 13) = false := by simp [ho]
 have t5 : (n.op == 5) = false := by simp [ho]
 have t6 : (n.op == 6) = false := by simp [ho]
 have t9 : (n.op == 9) = false := by simp [ho]
 have t10 : (n.op == 10) = false := by simp [ho]
 have t21 : (n.op == 21) = false := by simp [ho]
 have t22 : (n.op == 22) = false := by simp [ho]
 have t23 : (n.op == 23) = false := by simp [ho]
 have t24 : (n.op == 24) = false := by simp [ho]
 have hdr2 : x.e.drop (i + 1 + a.length) = b ++ rest := by
   rw [← List.drop_drop, hdr1]; simp
 have hcall := hni0.next hxb ha hex (rest := b ++ rest) (by rw [hdr1]; simp)
 unfold nw at hcall
 have HA := Lib.hid hcall
 have hlen : i + (n :: (a ++ b)).length = i + 1 + a.length + b.length := by simp; omega
 rw [hlen, evX_two x.es x.q (by omega) hex hexb]
 have ho' : n.op = 14 ∨ n.op = 15 ∨ n.op = 16 ∨ n.op = 17 ∨ n.op = 18 ∨ n.op = 19 ∨ n.op = 20 ∨ n.op = 25 ∨ n.op = 26 ∨ n.op = 27 := by omega
 have HOP := Lib.hid ho'
 have hB2 : ∀ W : World, NxI x xb (i + 1 + a.length) n w W → Calls Tryz.prog 52 #[.pointer (some ⟨xb, 0, none⟩)] W (NxA x xb (i + 1 + a.length + b.length) n (evX x.es x.q b) w W) := fun W h => h.next hxb hb hexb hdr2
 have HB2 := Lib.hid hB2
 generalize i + 1 + a.length + b.length = j2 at HB2 ⊢
 generalize i + 1 + a.length = j at HA HB2
 generalize evX x.es x.q a = q at HA ⊢
 generalize evX x.es x.q b = qb at HB2 ⊢
 obtain ⟨q', hq'⟩ : ∃ q', q' = q.bind (fun u => qb.bind fun v => doubleR x.es n.op u v) := ⟨_, rfl⟩
 rw [← hq']
 have HQ := Lib.hid hq'
 clear hcall hni0 hdr1 hdr2 ha hex hb hexb hB2 ho ho' hlen hns hq'
 go_enter Tryz.func52, Tryz.ntmps52
 go_wp2_with fail
 refine wp_region_ord (S := NxS xb i be oe x n w) [(0, false), (1, false), (2, false), (3, false), (4, false), (5, false), (6, false), (7, false), (8, false), (9, false), (10, true), (11, true)] (by kernel_rfl) (by kernel_rfl) (fun _ _ _ _ _ h => h) HS1.out (fun hW' => ?_)
 simp only [ordOps, List.filterMap_cons, List.filterMap_nil, List.getElem?_cons_zero, List.getElem?_cons_succ, Option.map_some]
 (repeat (first | (refine hd_take (v := ?_) (by rfl) ?_ ?_; rotate_left; (focus (intro W hW; obtain ⟨s0, s1, s2, s3, s4, s5⟩ := hW; go_simp; try with_reducible rfl)); simp only [Act.put, List.setIfInBounds_toArray, List.set_cons_zero, List.set_cons_succ]) | (refine hd_skip (by rfl) ?_; simp only [Act.put, List.setIfInBounds_toArray, List.set_cons_zero, List.set_cons_succ])))
 clear hW'
 refine hd_call (fun K hK => ?_)
 go_simp
 refine hK _ _ (HS0.out _) ?_
 clear hK K
 refine hd_call (fun K hK => ?_)
 go_simp
 refine hK _ _ (HS0.out _) ?_
 clear hK K
 refine hd_nil ?_
 go_wp2_with fail
 refine HA.out.mono ?_
 rintro r w1 ⟨hq1, hq2, ho1, hoW1⟩
 have HO1 := Lib.hid ho1
 clear ho1 hoW1
 cases q with
 | bad k =>
   have hr := hq2 k rfl
   subst hr
   clear hq1 hq2
   obtain rfl : q' = .bad k := HQ.out
   clear HQ
   go_wp2_with fail
   exact ⟨rfl, NextPost.bad HO1.out⟩
 | ok v =>
   obtain ⟨A, c, rfl, hv, hvi, hoff, hn1⟩ := hq1 v rfl
   have HN1 := Lib.hid hn1.drew
   have HV := Lib.hid hv
   have HVI := Lib.hid hvi
   have HOF := Lib.hid hoff
   have hS : OpS w.heap.size n.op w1.drew := ⟨hn1.nd.c0⟩
   have HS := Lib.hid hS
   have c0 : w1.cell? ⟨w.heap.size, 0, none⟩ = some (.int .i64 n.op) := hn1.nd.c0
   clear hS hoff hn1 hq1 hq2 hv hvi
   go_wp2_with fail
   refine wp_region_ord (S := OpS w.heap.size n.op) [(0, false), (1, false), (2, false), (3, false), (4, false), (5, true), (6, true), (7, false)] (by kernel_rfl) (by kernel_rfl) (fun _ _ _ _ _ h => h) HS.out (fun hW' => ?_)
   clear hW'
   simp only [ordOps, List.filterMap_cons, List.filterMap_nil, List.getElem?_cons_zero, List.getElem?_cons_succ, Option.map_some]
   (repeat (first | (refine hd_take (v := ?_) (by rfl) ?_ ?_; rotate_left; (focus (intro W hW; obtain ⟨s0⟩ := hW; go_simp; try with_reducible rfl)); simp only [Act.put, List.setIfInBounds_toArray, List.set_cons_zero, List.set_cons_succ]) | (refine hd_skip (by rfl) ?_; simp only [Act.put, List.setIfInBounds_toArray, List.set_cons_zero, List.set_cons_succ])))
   refine hd_call (fun K hK => ?_)
   go_simp
   refine (HB2.out _ HN1.out).mono ?_
   rintro r w2 ⟨hp1, hp2, ho2, hoW2⟩
   have HO2 := Lib.hid ho2
   cases qb with
   | bad k =>
     have hr := hp2 k rfl
     subst hr
     dsimp only
     clear hK K hp1 hp2
     obtain rfl : q' = .bad k := HQ.out
     clear HQ
     go_wp2_with fail
     exact ⟨rfl, NextPost.bad HO2.out⟩
   | ok u =>
     obtain ⟨A2, c2', rfl, hu, hui, -, hn2⟩ := hp1 u rfl
     have HN2 := Lib.hid hn2
     have hof2 : NdOff (gx xb w) w2 w2.heap.size A v := HOF.out.past (w' := w2) (⟨hoW2.os, hoW2.tape, hoW2.output, hoW2.size, hoW2.block⟩ : Only w1.heap.size xb w1 w2) (Nat.le_refl _) hxb
     have hv2 : ValIn v A c w2 := ⟨HV.out.ok, HV.out.nd, HV.out.le, HV.out.max, hof2.sl⟩
     have hs := eval_double x xb j2 n.op v u A A2 c c2' w2 hn2.ev hn2.blk hv2 hu HVI.out hui HOP.out
     rw [show doubleR x.es n.op v u = q' from HQ.out.symm] at hs
     have HD := Lib.hid hs
     refine hK _ _ ⟨hn2.nd.c0⟩ ?_
     clear hK K hn2 hof2 hv2 hs hu hui hp1 hp2 ho2 hoW2 HQ
     refine hd_call (fun K hK => ?_)
     go_simp
     refine HD.out.mono ?_
     rintro r w3 hr2
     have hpost := NextPost.rs HN2.out hr2
     obtain ⟨g1, g2, g3⟩ := hr2
     have hS3 : OpS w.heap.size n.op w3 := ⟨(g3.cell (HN2.out).sz).trans HN2.out.nd.c0⟩
     have HP := Lib.hid hpost
     clear hpost g3
     cases q' with
     | bad k =>
       have hr := g2 k rfl
       subst hr
       dsimp only
       clear hK K g1 g2 hS3
       go_wp2_with fail
       exact ⟨rfl, HP.out⟩
     | ok u =>
       obtain ⟨A3, c3', rfl, -⟩ := g1 u rfl
       refine hK _ _ hS3 ?_
       clear hK K g1 g2 hS3
       (repeat (first | (refine hd_take (v := ?_) (by rfl) ?_ ?_; rotate_left; (focus (intro W hW; obtain ⟨s0⟩ := hW; go_simp; try with_reducible rfl)); simp only [Act.put, List.setIfInBounds_toArray, List.set_cons_zero, List.set_cons_succ]) | (refine hd_skip (by rfl) ?_; simp only [Act.put, List.setIfInBounds_toArray, List.set_cons_zero, List.set_cons_succ])))
       refine hd_nil ?_
       go_wp2_with fail
       go_ret
       exact HP.out
set_option maxHeartbeats 6400000 in
theorem next_19 (x : Evl) (n : Nd) (a b : List Nd) (ha : NextOk x a) (hb : NextOk x b) (hex : Ex (.one false) a) (hexb : Ex (.one false) b) (ho : n.op = 19) : NextOk x (n :: (a ++ b)) := by
 intro i xb rest w hdr hx hB
 have hn : x.e[i]? = some n := by
   have := congrArg (fun l => l[0]?) hdr
   simpa [List.getElem?_drop] using this
 have hil : i < x.e.length := (List.getElem?_eq_some_iff.1 hn).1
 have hxb := hB.lt
 obtain ⟨be, oe, hea, hbe, hcs⟩ := hx.ex.at_ hil
 obtain ⟨n0, n1, n2, n3⟩ := hcs i n hn
 have hS0 : NxS xb i be oe x n w w.drew := ⟨by rw [← hea]; exact hB.cell 8, hB.cell 9, n0, n1, n2, n3⟩
 have hbw : be < w.heap.size := Nat.lt_trans hbe hxb
 have HS0 := Lib.hid (hS0.alloc hxb hbw)
 have HS1 := Lib.hid hS0
 have hia := node_at be oe x.e.length x.eca i hil
 have HDR := Lib.hid hdr
 have hni := nx_start (n := n) hx hB
 have HNI := Lib.hid hni
 have h9 : w.cell? ⟨xb, 9, none⟩ = some (.int .i64 i) := hS0.s1
 have hf9 : w.frozen? ⟨xb, 9, none⟩ = false := hB.frozen 9
 have hi1 : IntKind.wrap .i64 ((i : Int) + 1) = (i : Int) + 1 := by
   have := hx.el
   exact IntWalk.i64_in _ (by omega)
 have hni0 := hni.drew
 have hdr1 : x.e.drop (i + 1) = (a ++ b) ++ rest := by
   have := congrArg List.tail hdr
   simpa [List.tail_drop] using this
 have hns : n.s.size ≤ 140737488351232 := (hx.ek n (List.mem_of_getElem? hn)).1
 clear hcs n0 n1 n2 n3 hea hn hx hB hdr hS0 hni HDR
 have t1 : (n.op == 1) = false := by simp [ho]
 have t2 : (n.op == 2) = false := by simp [ho]
 have t3 : (n.op == 3) = false := by simp [ho]
 have t4 : (n.op == 4) = false := by simp [ho]
 have t8 : (n.op == 8) = false := by simp [ho]
 have t11 : (n.op == 11) = false := by simp [ho]
 have t12 : (n.op == 12) = false := by simp [ho]
 have t13 : (n.op == 13) = false := by simp [ho]
 have t5 : (n.op == 5) = false := by simp [ho]
 have t6 : (n.op == 6) = false := by simp [ho]
 have t9 : (n.op == 9) = false := by simp [ho]
 have t10 : (n.op == 10) = false := by simp [ho]
 have t21 : (n.op == 21) = false := by simp [ho]
 have t22 : (n.op == 22) = false := by simp [ho]
 have t23 : (n.op == 23) = false := by simp [ho]
 have t24 : (n.op == 24) = false := by simp [ho]
 have hdr2 : x.e.drop (i + 1 + a.length) = b ++ rest := by
   rw [← List.drop_drop, hdr1]; simp
 have hcall := hni0.next hxb ha hex (rest := b ++ rest) (by rw [hdr1]; simp)
 unfold nw at hcall
 have HA := Lib.hid hcall
 have hlen : i + (n :: (a ++ b)).length = i + 1 + a.length + b.length := by simp; omega
 rw [hlen, evX_two x.es x.q (by omega) hex hexb]
 have ho' : n.op = 14 ∨ n.op = 15 ∨ n.op = 16 ∨ n.op = 17 ∨ n.op = 18 ∨ n.op = 19 ∨ n.op = 20 ∨ n.op = 25 ∨ n.op = 26 ∨ n.op = 27 := by omega
 have HOP := Lib.hid ho'
 have hB2 : ∀ W : World, NxI x xb (i + 1 + a.length) n w W → Calls Tryz.prog 52 #[.pointer (some ⟨xb, 0, none⟩)] W (NxA x xb (i + 1 + a.length + b.length) n (evX x.es x.q b) w W) := fun W h => h.next hxb hb hexb hdr2
 have HB2 := Lib.hid hB2
 generalize i + 1 + a.length + b.length = j2 at HB2 ⊢
 generalize i + 1 + a.length = j at HA HB2
 generalize evX x.es x.q a = q at HA ⊢
 generalize evX x.es x.q b = qb at HB2 ⊢
 obtain ⟨q', hq'⟩ : ∃ q', q' = q.bind (fun u => qb.bind fun v => doubleR x.es n.op u v) := ⟨_, rfl⟩
 rw [← hq']
 have HQ := Lib.hid hq'
 clear hcall hni0 hdr1 hdr2 ha hex hb hexb hB2 ho ho' hlen hns hq'
 go_enter Tryz.func52, Tryz.ntmps52
 go_wp2_with fail
 refine wp_region_ord (S := NxS xb i be oe x n w) [(0, false), (1, false), (2, false), (3, false), (4, false), (5, false), (6, false), (7, false), (8, false), (9, false), (10, true), (11, true)] (by kernel_rfl) (by kernel_rfl) (fun _ _ _ _ _ h => h) HS1.out (fun hW' => ?_)
 simp only [ordOps, List.filterMap_cons, List.filterMap_nil, List.getElem?_cons_zero, List.getElem?_cons_succ, Option.map_some]
 (repeat (first | (refine hd_take (v := ?_) (by rfl) ?_ ?_; rotate_left; (focus (intro W hW; obtain ⟨s0, s1, s2, s3, s4, s5⟩ := hW; go_simp; try with_reducible rfl)); simp only [Act.put, List.setIfInBounds_toArray, List.set_cons_zero, List.set_cons_succ]) | (refine hd_skip (by rfl) ?_; simp only [Act.put, List.setIfInBounds_toArray, List.set_cons_zero, List.set_cons_succ])))
 clear hW'
 refine hd_call (fun K hK => ?_)
 go_simp
 refine hK _ _ (HS0.out _) ?_
 clear hK K
 refine hd_call (fun K hK => ?_)
 go_simp
 refine hK _ _ (HS0.out _) ?_
 clear hK K
 refine hd_nil ?_
 go_wp2_with fail
 refine HA.out.mono ?_
 rintro r w1 ⟨hq1, hq2, ho1, hoW1⟩
 have HO1 := Lib.hid ho1
 clear ho1 hoW1
 cases q with
 | bad k =>
   have hr := hq2 k rfl
   subst hr
   clear hq1 hq2
   obtain rfl : q' = .bad k := HQ.out
   clear HQ
   go_wp2_with fail
   exact ⟨rfl, NextPost.bad HO1.out⟩
 | ok v =>
   obtain ⟨A, c, rfl, hv, hvi, hoff, hn1⟩ := hq1 v rfl
   have HN1 := Lib.hid hn1.drew
   have HV := Lib.hid hv
   have HVI := Lib.hid hvi
   have HOF := Lib.hid hoff
   have hS : OpS w.heap.size n.op w1.drew := ⟨hn1.nd.c0⟩
   have HS := Lib.hid hS
   have c0 : w1.cell? ⟨w.heap.size, 0, none⟩ = some (.int .i64 n.op) := hn1.nd.c0
   clear hS hoff hn1 hq1 hq2 hv hvi
   go_wp2_with fail
   refine wp_region_ord (S := OpS w.heap.size n.op) [(0, false), (1, false), (2, false), (3, false), (4, false), (5, true), (6, true), (7, false)] (by kernel_rfl) (by kernel_rfl) (fun _ _ _ _ _ h => h) HS.out (fun hW' => ?_)
   clear hW'
   simp only [ordOps, List.filterMap_cons, List.filterMap_nil, List.getElem?_cons_zero, List.getElem?_cons_succ, Option.map_some]
   (repeat (first | (refine hd_take (v := ?_) (by rfl) ?_ ?_; rotate_left; (focus (intro W hW; obtain ⟨s0⟩ := hW; go_simp; try with_reducible rfl)); simp only [Act.put, List.setIfInBounds_toArray, List.set_cons_zero, List.set_cons_succ]) | (refine hd_skip (by rfl) ?_; simp only [Act.put, List.setIfInBounds_toArray, List.set_cons_zero, List.set_cons_succ])))
   refine hd_call (fun K hK => ?_)
   go_simp
   refine (HB2.out _ HN1.out).mono ?_
   rintro r w2 ⟨hp1, hp2, ho2, hoW2⟩
   have HO2 := Lib.hid ho2
   cases qb with
   | bad k =>
     have hr := hp2 k rfl
     subst hr
     dsimp only
     clear hK K hp1 hp2
     obtain rfl : q' = .bad k := HQ.out
     clear HQ
     go_wp2_with fail
     exact ⟨rfl, NextPost.bad HO2.out⟩
   | ok u =>
     obtain ⟨A2, c2', rfl, hu, hui, -, hn2⟩ := hp1 u rfl
     have HN2 := Lib.hid hn2
     have hof2 : NdOff (gx xb w) w2 w2.heap.size A v := HOF.out.past (w' := w2) (⟨hoW2.os, hoW2.tape, hoW2.output, hoW2.size, hoW2.block⟩ : Only w1.heap.size xb w1 w2) (Nat.le_refl _) hxb
     have hv2 : ValIn v A c w2 := ⟨HV.out.ok, HV.out.nd, HV.out.le, HV.out.max, hof2.sl⟩
     have hs := eval_double x xb j2 n.op v u A A2 c c2' w2 hn2.ev hn2.blk hv2 hu HVI.out hui HOP.out
     rw [show doubleR x.es n.op v u = q' from HQ.out.symm] at hs
     have HD := Lib.hid hs
     refine hK _ _ ⟨hn2.nd.c0⟩ ?_
     clear hK K hn2 hof2 hv2 hs hu hui hp1 hp2 ho2 hoW2 HQ
     refine hd_call (fun K hK => ?_)
     go_simp
     refine HD.out.mono ?_
     rintro r w3 hr2
     have hpost := NextPost.rs HN2.out hr2
     obtain ⟨g1, g2, g3⟩ := hr2
     have hS3 : OpS w.heap.size n.op w3 := ⟨(g3.cell (HN2.out).sz).trans HN2.out.nd.c0⟩
     have HP := Lib.hid hpost
     clear hpost g3
     cases q' with
     | bad k =>
       have hr := g2 k rfl
       subst hr
       dsimp only
       clear hK K g1 g2 hS3
       go_wp2_with fail
       exact ⟨rfl, HP.out⟩
     | ok u =>
       obtain ⟨A3, c3', rfl, -⟩ := g1 u rfl
       refine hK _ _ hS3 ?_
       clear hK K g1 g2 hS3
       (repeat (first | (refine hd_take (v := ?_) (by rfl) ?_ ?_; rotate_left; (focus (intro W hW; obtain ⟨s0⟩ := hW; go_simp; try with_reducible rfl)); simp only [Act.put, List.setIfInBounds_toArray, List.set_cons_zero, List.set_cons_succ]) | (refine hd_skip (by rfl) ?_; simp only [Act.put, List.setIfInBounds_toArray, List.set_cons_zero, List.set_cons_succ])))
       refine hd_nil ?_
       go_wp2_with fail
       go_ret
       exact HP.out
set_option maxHeartbeats 6400000 in
theorem next_20 (x : Evl) (n : Nd) (a b : List Nd) (ha : NextOk x a) (hb : NextOk x b) (hex : Ex (.one false) a) (hexb : Ex (.one false) b) (ho : n.op = 20) : NextOk x (n :: (a ++ b)) := by
 intro i xb rest w hdr hx hB
 have hn : x.e[i]? = some n := by
   have := congrArg (fun l => l[0]?) hdr
   simpa [List.getElem?_drop] using this
 have hil : i < x.e.length := (List.getElem?_eq_some_iff.1 hn).1
 have hxb := hB.lt
 obtain ⟨be, oe, hea, hbe, hcs⟩ := hx.ex.at_ hil
 obtain ⟨n0, n1, n2, n3⟩ := hcs i n hn
 have hS0 : NxS xb i be oe x n w w.drew := ⟨by rw [← hea]; exact hB.cell 8, hB.cell 9, n0, n1, n2, n3⟩
 have hbw : be < w.heap.size := Nat.lt_trans hbe hxb
 have HS0 := Lib.hid (hS0.alloc hxb hbw)
 have HS1 := Lib.hid hS0
 have hia := node_at be oe x.e.length x.eca i hil
 have HDR := Lib.hid hdr
 have hni := nx_start (n := n) hx hB
 have HNI := Lib.hid hni
 have h9 : w.cell? ⟨xb, 9, none⟩ = some (.int .i64 i) := hS0.s1
 have hf9 : w.frozen? ⟨xb, 9, none⟩ = false := hB.frozen 9
 have hi1 : IntKind.wrap .i64 ((i : Int) + 1) = (i : Int) + 1 := by
   have := hx.el
   exact IntWalk.i64_in _ (by omega)
 have hni0 := hni.drew
 have hdr1 : x.e.drop (i + 1) = (a ++ b) ++ rest := by
   have := congrArg List.tail hdr
   simpa [List.tail_drop] using this
 have hns : n.s.size ≤ 140737488351232 := (hx.ek n (List.mem_of_getElem? hn)).1
 clear hcs n0 n1 n2 n3 hea hn hx hB hdr hS0 hni HDR
 have t1 : (n.op == 1) = false := by simp [ho]
 have t2 : (n.op == 2) = false := by simp [ho]
 have t3 : (n.op == 3) = false := by simp [ho]
 have t4 : (n.op == 4) = false := by simp [ho]
 have t8 : (n.op == 8) = false := by simp [ho]
 have t11 : (n.op == 11) = false := by simp [ho]
 have t12 : (n.op == 12) = false := by simp [ho]
 have t13 : (n.op == 13) = false := by simp [ho]
 have t5 : (n.op == 5) = false := by simp [ho]
 have t6 : (n.op == 6) = false := by simp [ho]
 have t9 : (n.op == 9) = false := by simp [ho]
 have t10 : (n.op == 10) = false := by simp [ho]
 have t21 : (n.op == 21) = false := by simp [ho]
 have t22 : (n.op == 22) = false := by simp [ho]
 have t23 : (n.op == 23) = false := by simp [ho]
 have t24 : (n.op == 24) = false := by simp [ho]
 have hdr2 : x.e.drop (i + 1 + a.length) = b ++ rest := by
   rw [← List.drop_drop, hdr1]; simp
 have hcall := hni0.next hxb ha hex (rest := b ++ rest) (by rw [hdr1]; simp)
 unfold nw at hcall
 have HA := Lib.hid hcall
 have hlen : i + (n :: (a ++ b)).length = i + 1 + a.length + b.length := by simp; omega
 rw [hlen, evX_two x.es x.q (by omega) hex hexb]
 have ho' : n.op = 14 ∨ n.op = 15 ∨ n.op = 16 ∨ n.op = 17 ∨ n.op = 18 ∨ n.op = 19 ∨ n.op = 20 ∨ n.op = 25 ∨ n.op = 26 ∨ n.op = 27 := by omega
 have HOP := Lib.hid ho'
 have hB2 : ∀ W : World, NxI x xb (i + 1 + a.length) n w W → Calls Tryz.prog 52 #[.pointer (some ⟨xb, 0, none⟩)] W (NxA x xb (i + 1 + a.length + b.length) n (evX x.es x.q b) w W) := fun W h => h.next hxb hb hexb hdr2
 have HB2 := Lib.hid hB2
 generalize i + 1 + a.length + b.length = j2 at HB2 ⊢
 generalize i + 1 + a.length = j at HA HB2
 generalize evX x.es x.q a = q at HA ⊢
 generalize evX x.es x.q b = qb at HB2 ⊢
 obtain ⟨q', hq'⟩ : ∃ q', q' = q.bind (fun u => qb.bind fun v => doubleR x.es n.op u v) := ⟨_, rfl⟩
 rw [← hq']
 have HQ := Lib.hid hq'
 clear hcall hni0 hdr1 hdr2 ha hex hb hexb hB2 ho ho' hlen hns hq'
 go_enter Tryz.func52, Tryz.ntmps52
 go_wp2_with fail
 refine wp_region_ord (S := NxS xb i be oe x n w) [(0, false), (1, false), (2, false), (3, false), (4, false), (5, false), (6, false), (7, false), (8, false), (9, false), (10, true), (11, true)] (by kernel_rfl) (by kernel_rfl) (fun _ _ _ _ _ h => h) HS1.out (fun hW' => ?_)
 simp only [ordOps, List.filterMap_cons, List.filterMap_nil, List.getElem?_cons_zero, List.getElem?_cons_succ, Option.map_some]
 (repeat (first | (refine hd_take (v := ?_) (by rfl) ?_ ?_; rotate_left; (focus (intro W hW; obtain ⟨s0, s1, s2, s3, s4, s5⟩ := hW; go_simp; try with_reducible rfl)); simp only [Act.put, List.setIfInBounds_toArray, List.set_cons_zero, List.set_cons_succ]) | (refine hd_skip (by rfl) ?_; simp only [Act.put, List.setIfInBounds_toArray, List.set_cons_zero, List.set_cons_succ])))
 clear hW'
 refine hd_call (fun K hK => ?_)
 go_simp
 refine hK _ _ (HS0.out _) ?_
 clear hK K
 refine hd_call (fun K hK => ?_)
 go_simp
 refine hK _ _ (HS0.out _) ?_
 clear hK K
 refine hd_nil ?_
 go_wp2_with fail
 refine HA.out.mono ?_
 rintro r w1 ⟨hq1, hq2, ho1, hoW1⟩
 have HO1 := Lib.hid ho1
 clear ho1 hoW1
 cases q with
 | bad k =>
   have hr := hq2 k rfl
   subst hr
   clear hq1 hq2
   obtain rfl : q' = .bad k := HQ.out
   clear HQ
   go_wp2_with fail
   exact ⟨rfl, NextPost.bad HO1.out⟩
 | ok v =>
   obtain ⟨A, c, rfl, hv, hvi, hoff, hn1⟩ := hq1 v rfl
   have HN1 := Lib.hid hn1.drew
   have HV := Lib.hid hv
   have HVI := Lib.hid hvi
   have HOF := Lib.hid hoff
   have hS : OpS w.heap.size n.op w1.drew := ⟨hn1.nd.c0⟩
   have HS := Lib.hid hS
   have c0 : w1.cell? ⟨w.heap.size, 0, none⟩ = some (.int .i64 n.op) := hn1.nd.c0
   clear hS hoff hn1 hq1 hq2 hv hvi
   go_wp2_with fail
   refine wp_region_ord (S := OpS w.heap.size n.op) [(0, false), (1, false), (2, false), (3, false), (4, false), (5, true), (6, true), (7, false)] (by kernel_rfl) (by kernel_rfl) (fun _ _ _ _ _ h => h) HS.out (fun hW' => ?_)
   clear hW'
   simp only [ordOps, List.filterMap_cons, List.filterMap_nil, List.getElem?_cons_zero, List.getElem?_cons_succ, Option.map_some]
   (repeat (first | (refine hd_take (v := ?_) (by rfl) ?_ ?_; rotate_left; (focus (intro W hW; obtain ⟨s0⟩ := hW; go_simp; try with_reducible rfl)); simp only [Act.put, List.setIfInBounds_toArray, List.set_cons_zero, List.set_cons_succ]) | (refine hd_skip (by rfl) ?_; simp only [Act.put, List.setIfInBounds_toArray, List.set_cons_zero, List.set_cons_succ])))
   refine hd_call (fun K hK => ?_)
   go_simp
   refine (HB2.out _ HN1.out).mono ?_
   rintro r w2 ⟨hp1, hp2, ho2, hoW2⟩
   have HO2 := Lib.hid ho2
   cases qb with
   | bad k =>
     have hr := hp2 k rfl
     subst hr
     dsimp only
     clear hK K hp1 hp2
     obtain rfl : q' = .bad k := HQ.out
     clear HQ
     go_wp2_with fail
     exact ⟨rfl, NextPost.bad HO2.out⟩
   | ok u =>
     obtain ⟨A2, c2', rfl, hu, hui, -, hn2⟩ := hp1 u rfl
     have HN2 := Lib.hid hn2
     have hof2 : NdOff (gx xb w) w2 w2.heap.size A v := HOF.out.past (w' := w2) (⟨hoW2.os, hoW2.tape, hoW2.output, hoW2.size, hoW2.block⟩ : Only w1.heap.size xb w1 w2) (Nat.le_refl _) hxb
     have hv2 : ValIn v A c w2 := ⟨HV.out.ok, HV.out.nd, HV.out.le, HV.out.max, hof2.sl⟩
     have hs := eval_double x xb j2 n.op v u A A2 c c2' w2 hn2.ev hn2.blk hv2 hu HVI.out hui HOP.out
     rw [show doubleR x.es n.op v u = q' from HQ.out.symm] at hs
     have HD := Lib.hid hs
     refine hK _ _ ⟨hn2.nd.c0⟩ ?_
     clear hK K hn2 hof2 hv2 hs hu hui hp1 hp2 ho2 hoW2 HQ
     refine hd_call (fun K hK => ?_)
     go_simp
     refine HD.out.mono ?_
     rintro r w3 hr2
     have hpost := NextPost.rs HN2.out hr2
     obtain ⟨g1, g2, g3⟩ := hr2
     have hS3 : OpS w.heap.size n.op w3 := ⟨(g3.cell (HN2.out).sz).trans HN2.out.nd.c0⟩
     have HP := Lib.hid hpost
     clear hpost g3
     cases q' with
     | bad k =>
       have hr := g2 k rfl
       subst hr
       dsimp only
       clear hK K g1 g2 hS3
       go_wp2_with fail
       exact ⟨rfl, HP.out⟩
     | ok u =>
       obtain ⟨A3, c3', rfl, -⟩ := g1 u rfl
       refine hK _ _ hS3 ?_
       clear hK K g1 g2 hS3
       (repeat (first | (refine hd_take (v := ?_) (by rfl) ?_ ?_; rotate_left; (focus (intro W hW; obtain ⟨s0⟩ := hW; go_simp; try with_reducible rfl)); simp only [Act.put, List.setIfInBounds_toArray, List.set_cons_zero, List.set_cons_succ]) | (refine hd_skip (by rfl) ?_; simp only [Act.put, List.setIfInBounds_toArray, List.set_cons_zero, List.set_cons_succ])))
       refine hd_nil ?_
       go_wp2_with fail
       go_ret
       exact HP.out
set_option maxHeartbeats 6400000 in
theorem next_25 (x : Evl) (n : Nd) (a b : List Nd) (ha : NextOk x a) (hb : NextOk x b) (hex : Ex (.one false) a) (hexb : Ex (.one false) b) (ho : n.op = 25) : NextOk x (n :: (a ++ b)) := by
 intro i xb rest w hdr hx hB
 have hn : x.e[i]? = some n := by
   have := congrArg (fun l => l[0]?) hdr
   simpa [List.getElem?_drop] using this
 have hil : i < x.e.length := (List.getElem?_eq_some_iff.1 hn).1
 have hxb := hB.lt
 obtain ⟨be, oe, hea, hbe, hcs⟩ := hx.ex.at_ hil
 obtain ⟨n0, n1, n2, n3⟩ := hcs i n hn
 have hS0 : NxS xb i be oe x n w w.drew := ⟨by rw [← hea]; exact hB.cell 8, hB.cell 9, n0, n1, n2, n3⟩
 have hbw : be < w.heap.size := Nat.lt_trans hbe hxb
 have HS0 := Lib.hid (hS0.alloc hxb hbw)
 have HS1 := Lib.hid hS0
 have hia := node_at be oe x.e.length x.eca i hil
 have HDR := Lib.hid hdr
 have hni := nx_start (n := n) hx hB
 have HNI := Lib.hid hni
 have h9 : w.cell? ⟨xb, 9, none⟩ = some (.int .i64 i) := hS0.s1
 have hf9 : w.frozen? ⟨xb, 9, none⟩ = false := hB.frozen 9
 have hi1 : IntKind.wrap .i64 ((i : Int) + 1) = (i : Int) + 1 := by
   have := hx.el
   exact IntWalk.i64_in _ (by omega)
 have hni0 := hni.drew
 have hdr1 : x.e.drop (i + 1) = (a ++ b) ++ rest := by
   have := congrArg List.tail hdr
   simpa [List.tail_drop] using this
 have hns : n.s.size ≤ 140737488351232 := (hx.ek n (List.mem_of_getElem? hn)).1
 clear hcs n0 n1 n2 n3 hea hn hx hB hdr hS0 hni HDR
 have t1 : (n.op == 1) = false := by simp [ho]
 have t2 : (n.op == 2) = false := by simp [ho]
 have t3 : (n.op == 3) = false := by simp [ho]
 have t4 : (n.op == 4) = false := by simp [ho]
 have t8 : (n.op == 8) = false := by simp [ho]
 have t11 : (n.op == 11) = false := by simp [ho]
 have t12 : (n.op == 12) = false := by simp [ho]
 have t13 : (n.op == 13) = false := by simp [ho]
 have t5 : (n.op == 5) = false := by simp [ho]
 have t6 : (n.op == 6) = false := by simp [ho]
 have t9 : (n.op == 9) = false := by simp [ho]
 have t10 : (n.op == 10) = false := by simp [ho]
 have t21 : (n.op == 21) = false := by simp [ho]
 have t22 : (n.op == 22) = false := by simp [ho]
 have t23 : (n.op == 23) = false := by simp [ho]
 have t24 : (n.op == 24) = false := by simp [ho]
 have hdr2 : x.e.drop (i + 1 + a.length) = b ++ rest := by
   rw [← List.drop_drop, hdr1]; simp
 have hcall := hni0.next hxb ha hex (rest := b ++ rest) (by rw [hdr1]; simp)
 unfold nw at hcall
 have HA := Lib.hid hcall
 have hlen : i + (n :: (a ++ b)).length = i + 1 + a.length + b.length := by simp; omega
 rw [hlen, evX_two x.es x.q (by omega) hex hexb]
 have ho' : n.op = 14 ∨ n.op = 15 ∨ n.op = 16 ∨ n.op = 17 ∨ n.op = 18 ∨ n.op = 19 ∨ n.op = 20 ∨ n.op = 25 ∨ n.op = 26 ∨ n.op = 27 := by omega
 have HOP := Lib.hid ho'
 have hB2 : ∀ W : World, NxI x xb (i + 1 + a.length) n w W → Calls Tryz.prog 52 #[.pointer (some ⟨xb, 0, none⟩)] W (NxA x xb (i + 1 + a.length + b.length) n (evX x.es x.q b) w W) := fun W h => h.next hxb hb hexb hdr2
 have HB2 := Lib.hid hB2
 generalize i + 1 + a.length + b.length = j2 at HB2 ⊢
 generalize i + 1 + a.length = j at HA HB2
 generalize evX x.es x.q a = q at HA ⊢
 generalize evX x.es x.q b = qb at HB2 ⊢
 obtain ⟨q', hq'⟩ : ∃ q', q' = q.bind (fun u => qb.bind fun v => doubleR x.es n.op u v) := ⟨_, rfl⟩
 rw [← hq']
 have HQ := Lib.hid hq'
 clear hcall hni0 hdr1 hdr2 ha hex hb hexb hB2 ho ho' hlen hns hq'
 go_enter Tryz.func52, Tryz.ntmps52
 go_wp2_with fail
 refine wp_region_ord (S := NxS xb i be oe x n w) [(0, false), (1, false), (2, false), (3, false), (4, false), (5, false), (6, false), (7, false), (8, false), (9, false), (10, true), (11, true)] (by kernel_rfl) (by kernel_rfl) (fun _ _ _ _ _ h => h) HS1.out (fun hW' => ?_)
 simp only [ordOps, List.filterMap_cons, List.filterMap_nil, List.getElem?_cons_zero, List.getElem?_cons_succ, Option.map_some]
 (repeat (first | (refine hd_take (v := ?_) (by rfl) ?_ ?_; rotate_left; (focus (intro W hW; obtain ⟨s0, s1, s2, s3, s4, s5⟩ := hW; go_simp; try with_reducible rfl)); simp only [Act.put, List.setIfInBounds_toArray, List.set_cons_zero, List.set_cons_succ]) | (refine hd_skip (by rfl) ?_; simp only [Act.put, List.setIfInBounds_toArray, List.set_cons_zero, List.set_cons_succ])))
 clear hW'
 refine hd_call (fun K hK => ?_)
 go_simp
 refine hK _ _ (HS0.out _) ?_
 clear hK K
 refine hd_call (fun K hK => ?_)
 go_simp
 refine hK _ _ (HS0.out _) ?_
 clear hK K
 refine hd_nil ?_
 go_wp2_with fail
 refine HA.out.mono ?_
 rintro r w1 ⟨hq1, hq2, ho1, hoW1⟩
 have HO1 := Lib.hid ho1
 clear ho1 hoW1
 cases q with
 | bad k =>
   have hr := hq2 k rfl
   subst hr
   clear hq1 hq2
   obtain rfl : q' = .bad k := HQ.out
   clear HQ
   go_wp2_with fail
   exact ⟨rfl, NextPost.bad HO1.out⟩
 | ok v =>
   obtain ⟨A, c, rfl, hv, hvi, hoff, hn1⟩ := hq1 v rfl
   have HN1 := Lib.hid hn1.drew
   have HV := Lib.hid hv
   have HVI := Lib.hid hvi
   have HOF := Lib.hid hoff
   have hS : OpS w.heap.size n.op w1.drew := ⟨hn1.nd.c0⟩
   have HS := Lib.hid hS
   have c0 : w1.cell? ⟨w.heap.size, 0, none⟩ = some (.int .i64 n.op) := hn1.nd.c0
   clear hS hoff hn1 hq1 hq2 hv hvi
   go_wp2_with fail
   refine wp_region_ord (S := OpS w.heap.size n.op) [(0, false), (1, false), (2, false), (3, false), (4, false), (5, true), (6, true), (7, false)] (by kernel_rfl) (by kernel_rfl) (fun _ _ _ _ _ h => h) HS.out (fun hW' => ?_)
   clear hW'
   simp only [ordOps, List.filterMap_cons, List.filterMap_nil, List.getElem?_cons_zero, List.getElem?_cons_succ, Option.map_some]
   (repeat (first | (refine hd_take (v := ?_) (by rfl) ?_ ?_; rotate_left; (focus (intro W hW; obtain ⟨s0⟩ := hW; go_simp; try with_reducible rfl)); simp only [Act.put, List.setIfInBounds_toArray, List.set_cons_zero, List.set_cons_succ]) | (refine hd_skip (by rfl) ?_; simp only [Act.put, List.setIfInBounds_toArray, List.set_cons_zero, List.set_cons_succ])))
   refine hd_call (fun K hK => ?_)
   go_simp
   refine (HB2.out _ HN1.out).mono ?_
   rintro r w2 ⟨hp1, hp2, ho2, hoW2⟩
   have HO2 := Lib.hid ho2
   cases qb with
   | bad k =>
     have hr := hp2 k rfl
     subst hr
     dsimp only
     clear hK K hp1 hp2
     obtain rfl : q' = .bad k := HQ.out
     clear HQ
     go_wp2_with fail
     exact ⟨rfl, NextPost.bad HO2.out⟩
   | ok u =>
     obtain ⟨A2, c2', rfl, hu, hui, -, hn2⟩ := hp1 u rfl
     have HN2 := Lib.hid hn2
     have hof2 : NdOff (gx xb w) w2 w2.heap.size A v := HOF.out.past (w' := w2) (⟨hoW2.os, hoW2.tape, hoW2.output, hoW2.size, hoW2.block⟩ : Only w1.heap.size xb w1 w2) (Nat.le_refl _) hxb
     have hv2 : ValIn v A c w2 := ⟨HV.out.ok, HV.out.nd, HV.out.le, HV.out.max, hof2.sl⟩
     have hs := eval_double x xb j2 n.op v u A A2 c c2' w2 hn2.ev hn2.blk hv2 hu HVI.out hui HOP.out
     rw [show doubleR x.es n.op v u = q' from HQ.out.symm] at hs
     have HD := Lib.hid hs
     refine hK _ _ ⟨hn2.nd.c0⟩ ?_
     clear hK K hn2 hof2 hv2 hs hu hui hp1 hp2 ho2 hoW2 HQ
     refine hd_call (fun K hK => ?_)
     go_simp
     refine HD.out.mono ?_
     rintro r w3 hr2
     have hpost := NextPost.rs HN2.out hr2
     obtain ⟨g1, g2, g3⟩ := hr2
     have hS3 : OpS w.heap.size n.op w3 := ⟨(g3.cell (HN2.out).sz).trans HN2.out.nd.c0⟩
     have HP := Lib.hid hpost
     clear hpost g3
     cases q' with
     | bad k =>
       have hr := g2 k rfl
       subst hr
       dsimp only
       clear hK K g1 g2 hS3
       go_wp2_with fail
       exact ⟨rfl, HP.out⟩
     | ok u =>
       obtain ⟨A3, c3', rfl, -⟩ := g1 u rfl
       refine hK _ _ hS3 ?_
       clear hK K g1 g2 hS3
       (repeat (first | (refine hd_take (v := ?_) (by rfl) ?_ ?_; rotate_left; (focus (intro W hW; obtain ⟨s0⟩ := hW; go_simp; try with_reducible rfl)); simp only [Act.put, List.setIfInBounds_toArray, List.set_cons_zero, List.set_cons_succ]) | (refine hd_skip (by rfl) ?_; simp only [Act.put, List.setIfInBounds_toArray, List.set_cons_zero, List.set_cons_succ])))
       refine hd_nil ?_
       go_wp2_with fail
       go_ret
       exact HP.out
set_option maxHeartbeats 6400000 in
theorem next_26 (x : Evl) (n : Nd) (a b : List Nd) (ha : NextOk x a) (hb : NextOk x b) (hex : Ex (.one false) a) (hexb : Ex (.one false) b) (ho : n.op = 26) : NextOk x (n :: (a ++ b)) := by
 intro i xb rest w hdr hx hB
 have hn : x.e[i]? = some n := by
   have := congrArg (fun l => l[0]?) hdr
   simpa [List.getElem?_drop] using this
 have hil : i < x.e.length := (List.getElem?_eq_some_iff.1 hn).1
 have hxb := hB.lt
 obtain ⟨be, oe, hea, hbe, hcs⟩ := hx.ex.at_ hil
 obtain ⟨n0, n1, n2, n3⟩ := hcs i n hn
 have hS0 : NxS xb i be oe x n w w.drew := ⟨by rw [← hea]; exact hB.cell 8, hB.cell 9, n0, n1, n2, n3⟩
 have hbw : be < w.heap.size := Nat.lt_trans hbe hxb
 have HS0 := Lib.hid (hS0.alloc hxb hbw)
 have HS1 := Lib.hid hS0
 have hia := node_at be oe x.e.length x.eca i hil
 have HDR := Lib.hid hdr
 have hni := nx_start (n := n) hx hB
 have HNI := Lib.hid hni
 have h9 : w.cell? ⟨xb, 9, none⟩ = some (.int .i64 i) := hS0.s1
 have hf9 : w.frozen? ⟨xb, 9, none⟩ = false := hB.frozen 9
 have hi1 : IntKind.wrap .i64 ((i : Int) + 1) = (i : Int) + 1 := by
   have := hx.el
   exact IntWalk.i64_in _ (by omega)
 have hni0 := hni.drew
 have hdr1 : x.e.drop (i + 1) = (a ++ b) ++ rest := by
   have := congrArg List.tail hdr
   simpa [List.tail_drop] using this
 have hns : n.s.size ≤ 140737488351232 := (hx.ek n (List.mem_of_getElem? hn)).1
 clear hcs n0 n1 n2 n3 hea hn hx hB hdr hS0 hni HDR
 have t1 : (n.op == 1) = false := by simp [ho]
 have t2 : (n.op == 2) = false := by simp [ho]
 have t3 : (n.op == 3) = false := by simp [ho]
 have t4 : (n.op == 4) = false := by simp [ho]
 have t8 : (n.op == 8) = false := by simp [ho]
 have t11 : (n.op == 11) = false := by simp [ho]
 have t12 : (n.op == 12) = false := by simp [ho]
 have t13 : (n.op == 13) = false := by simp [ho]
 have t5 : (n.op == 5) = false := by simp [ho]
 have t6 : (n.op == 6) = false := by simp [ho]
 have t9 : (n.op == 9) = false := by simp [ho]
 have t10 : (n.op == 10) = false := by simp [ho]
 have t21 : (n.op == 21) = false := by simp [ho]
 have t22 : (n.op == 22) = false := by simp [ho]
 have t23 : (n.op == 23) = false := by simp [ho]
 have t24 : (n.op == 24) = false := by simp [ho]
 have hdr2 : x.e.drop (i + 1 + a.length) = b ++ rest := by
   rw [← List.drop_drop, hdr1]; simp
 have hcall := hni0.next hxb ha hex (rest := b ++ rest) (by rw [hdr1]; simp)
 unfold nw at hcall
 have HA := Lib.hid hcall
 have hlen : i + (n :: (a ++ b)).length = i + 1 + a.length + b.length := by simp; omega
 rw [hlen, evX_two x.es x.q (by omega) hex hexb]
 have ho' : n.op = 14 ∨ n.op = 15 ∨ n.op = 16 ∨ n.op = 17 ∨ n.op = 18 ∨ n.op = 19 ∨ n.op = 20 ∨ n.op = 25 ∨ n.op = 26 ∨ n.op = 27 := by omega
 have HOP := Lib.hid ho'
 have hB2 : ∀ W : World, NxI x xb (i + 1 + a.length) n w W → Calls Tryz.prog 52 #[.pointer (some ⟨xb, 0, none⟩)] W (NxA x xb (i + 1 + a.length + b.length) n (evX x.es x.q b) w W) := fun W h => h.next hxb hb hexb hdr2
 have HB2 := Lib.hid hB2
 generalize i + 1 + a.length + b.length = j2 at HB2 ⊢
 generalize i + 1 + a.length = j at HA HB2
 generalize evX x.es x.q a = q at HA ⊢
 generalize evX x.es x.q b = qb at HB2 ⊢
 obtain ⟨q', hq'⟩ : ∃ q', q' = q.bind (fun u => qb.bind fun v => doubleR x.es n.op u v) := ⟨_, rfl⟩
 rw [← hq']
 have HQ := Lib.hid hq'
 clear hcall hni0 hdr1 hdr2 ha hex hb hexb hB2 ho ho' hlen hns hq'
 go_enter Tryz.func52, Tryz.ntmps52
 go_wp2_with fail
 refine wp_region_ord (S := NxS xb i be oe x n w) [(0, false), (1, false), (2, false), (3, false), (4, false), (5, false), (6, false), (7, false), (8, false), (9, false), (10, true), (11, true)] (by kernel_rfl) (by kernel_rfl) (fun _ _ _ _ _ h => h) HS1.out (fun hW' => ?_)
 simp only [ordOps, List.filterMap_cons, List.filterMap_nil, List.getElem?_cons_zero, List.getElem?_cons_succ, Option.map_some]
 (repeat (first | (refine hd_take (v := ?_) (by rfl) ?_ ?_; rotate_left; (focus (intro W hW; obtain ⟨s0, s1, s2, s3, s4, s5⟩ := hW; go_simp; try with_reducible rfl)); simp only [Act.put, List.setIfInBounds_toArray, List.set_cons_zero, List.set_cons_succ]) | (refine hd_skip (by rfl) ?_; simp only [Act.put, List.setIfInBounds_toArray, List.set_cons_zero, List.set_cons_succ])))
 clear hW'
 refine hd_call (fun K hK => ?_)
 go_simp
 refine hK _ _ (HS0.out _) ?_
 clear hK K
 refine hd_call (fun K hK => ?_)
 go_simp
 refine hK _ _ (HS0.out _) ?_
 clear hK K
 refine hd_nil ?_
 go_wp2_with fail
 refine HA.out.mono ?_
 rintro r w1 ⟨hq1, hq2, ho1, hoW1⟩
 have HO1 := Lib.hid ho1
 clear ho1 hoW1
 cases q with
 | bad k =>
   have hr := hq2 k rfl
   subst hr
   clear hq1 hq2
   obtain rfl : q' = .bad k := HQ.out
   clear HQ
   go_wp2_with fail
   exact ⟨rfl, NextPost.bad HO1.out⟩
 | ok v =>
   obtain ⟨A, c, rfl, hv, hvi, hoff, hn1⟩ := hq1 v rfl
   have HN1 := Lib.hid hn1.drew
   have HV := Lib.hid hv
   have HVI := Lib.hid hvi
   have HOF := Lib.hid hoff
   have hS : OpS w.heap.size n.op w1.drew := ⟨hn1.nd.c0⟩
   have HS := Lib.hid hS
   have c0 : w1.cell? ⟨w.heap.size, 0, none⟩ = some (.int .i64 n.op) := hn1.nd.c0
   clear hS hoff hn1 hq1 hq2 hv hvi
   go_wp2_with fail
   refine wp_region_ord (S := OpS w.heap.size n.op) [(0, false), (1, false), (2, false), (3, false), (4, false), (5, true), (6, true), (7, false)] (by kernel_rfl) (by kernel_rfl) (fun _ _ _ _ _ h => h) HS.out (fun hW' => ?_)
   clear hW'
   simp only [ordOps, List.filterMap_cons, List.filterMap_nil, List.getElem?_cons_zero, List.getElem?_cons_succ, Option.map_some]
   (repeat (first | (refine hd_take (v := ?_) (by rfl) ?_ ?_; rotate_left; (focus (intro W hW; obtain ⟨s0⟩ := hW; go_simp; try with_reducible rfl)); simp only [Act.put, List.setIfInBounds_toArray, List.set_cons_zero, List.set_cons_succ]) | (refine hd_skip (by rfl) ?_; simp only [Act.put, List.setIfInBounds_toArray, List.set_cons_zero, List.set_cons_succ])))
   refine hd_call (fun K hK => ?_)
   go_simp
   refine (HB2.out _ HN1.out).mono ?_
   rintro r w2 ⟨hp1, hp2, ho2, hoW2⟩
   have HO2 := Lib.hid ho2
   cases qb with
   | bad k =>
     have hr := hp2 k rfl
     subst hr
     dsimp only
     clear hK K hp1 hp2
     obtain rfl : q' = .bad k := HQ.out
     clear HQ
     go_wp2_with fail
     exact ⟨rfl, NextPost.bad HO2.out⟩
   | ok u =>
     obtain ⟨A2, c2', rfl, hu, hui, -, hn2⟩ := hp1 u rfl
     have HN2 := Lib.hid hn2
     have hof2 : NdOff (gx xb w) w2 w2.heap.size A v := HOF.out.past (w' := w2) (⟨hoW2.os, hoW2.tape, hoW2.output, hoW2.size, hoW2.block⟩ : Only w1.heap.size xb w1 w2) (Nat.le_refl _) hxb
     have hv2 : ValIn v A c w2 := ⟨HV.out.ok, HV.out.nd, HV.out.le, HV.out.max, hof2.sl⟩
     have hs := eval_double x xb j2 n.op v u A A2 c c2' w2 hn2.ev hn2.blk hv2 hu HVI.out hui HOP.out
     rw [show doubleR x.es n.op v u = q' from HQ.out.symm] at hs
     have HD := Lib.hid hs
     refine hK _ _ ⟨hn2.nd.c0⟩ ?_
     clear hK K hn2 hof2 hv2 hs hu hui hp1 hp2 ho2 hoW2 HQ
     refine hd_call (fun K hK => ?_)
     go_simp
     refine HD.out.mono ?_
     rintro r w3 hr2
     have hpost := NextPost.rs HN2.out hr2
     obtain ⟨g1, g2, g3⟩ := hr2
     have hS3 : OpS w.heap.size n.op w3 := ⟨(g3.cell (HN2.out).sz).trans HN2.out.nd.c0⟩
     have HP := Lib.hid hpost
     clear hpost g3
     cases q' with
     | bad k =>
       have hr := g2 k rfl
       subst hr
       dsimp only
       clear hK K g1 g2 hS3
       go_wp2_with fail
       exact ⟨rfl, HP.out⟩
     | ok u =>
       obtain ⟨A3, c3', rfl, -⟩ := g1 u rfl
       refine hK _ _ hS3 ?_
       clear hK K g1 g2 hS3
       (repeat (first | (refine hd_take (v := ?_) (by rfl) ?_ ?_; rotate_left; (focus (intro W hW; obtain ⟨s0⟩ := hW; go_simp; try with_reducible rfl)); simp only [Act.put, List.setIfInBounds_toArray, List.set_cons_zero, List.set_cons_succ]) | (refine hd_skip (by rfl) ?_; simp only [Act.put, List.setIfInBounds_toArray, List.set_cons_zero, List.set_cons_succ])))
       refine hd_nil ?_
       go_wp2_with fail
       go_ret
       exact HP.out
set_option maxHeartbeats 6400000 in
theorem next_27 (x : Evl) (n : Nd) (a b : List Nd) (ha : NextOk x a) (hb : NextOk x b) (hex : Ex (.one false) a) (hexb : Ex (.one false) b) (ho : n.op = 27) : NextOk x (n :: (a ++ b)) := by
 intro i xb rest w hdr hx hB
 have hn : x.e[i]? = some n := by
   have := congrArg (fun l => l[0]?) hdr
   simpa [List.getElem?_drop] using this
 have hil : i < x.e.length := (List.getElem?_eq_some_iff.1 hn).1
 have hxb := hB.lt
 obtain ⟨be, oe, hea, hbe, hcs⟩ := hx.ex.at_ hil
 obtain ⟨n0, n1, n2, n3⟩ := hcs i n hn
 have hS0 : NxS xb i be oe x n w w.drew := ⟨by rw [← hea]; exact hB.cell 8, hB.cell 9, n0, n1, n2, n3⟩
 have hbw : be < w.heap.size := Nat.lt_trans hbe hxb
 have HS0 := Lib.hid (hS0.alloc hxb hbw)
 have HS1 := Lib.hid hS0
 have hia := node_at be oe x.e.length x.eca i hil
 have HDR := Lib.hid hdr
 have hni := nx_start (n := n) hx hB
 have HNI := Lib.hid hni
 have h9 : w.cell? ⟨xb, 9, none⟩ = some (.int .i64 i) := hS0.s1
 have hf9 : w.frozen? ⟨xb, 9, none⟩ = false := hB.frozen 9
 have hi1 : IntKind.wrap .i64 ((i : Int) + 1) = (i : Int) + 1 := by
   have := hx.el
   exact IntWalk.i64_in _ (by omega)
 have hni0 := hni.drew
 have hdr1 : x.e.drop (i + 1) = (a ++ b) ++ rest := by
   have := congrArg List.tail hdr
   simpa [List.tail_drop] using this
 have hns : n.s.size ≤ 140737488351232 := (hx.ek n (List.mem_of_getElem? hn)).1
 clear hcs n0 n1 n2 n3 hea hn hx hB hdr hS0 hni HDR
 have t1 : (n.op == 1) = false := by simp [ho]
 have t2 : (n.op == 2) = false := by simp [ho]
 have t3 : (n.op == 3) = false := by simp [ho]
 have t4 : (n.op == 4) = false := by simp [ho]
 have t8 : (n.op == 8) = false := by simp [ho]
 have t11 : (n.op == 11) = false := by simp [ho]
 have t12 : (n.op == 12) = false := by simp [ho]
 have t13 : (n.op == 13) = false := by simp [ho]
 have t5 : (n.op == 5) = false := by simp [ho]
 have t6 : (n.op == 6) = false := by simp [ho]
 have t9 : (n.op == 9) = false := by simp [ho]
 have t10 : (n.op == 10) = false := by simp [ho]
 have t21 : (n.op == 21) = false := by simp [ho]
 have t22 : (n.op == 22) = false := by simp [ho]
 have t23 : (n.op == 23) = false := by simp [ho]
 have t24 : (n.op == 24) = false := by simp [ho]
 have hdr2 : x.e.drop (i + 1 + a.length) = b ++ rest := by
   rw [← List.drop_drop, hdr1]; simp
 have hcall := hni0.next hxb ha hex (rest := b ++ rest) (by rw [hdr1]; simp)
 unfold nw at hcall
 have HA := Lib.hid hcall
 have hlen : i + (n :: (a ++ b)).length = i + 1 + a.length + b.length := by simp; omega
 rw [hlen, evX_two x.es x.q (by omega) hex hexb]
 have ho' : n.op = 14 ∨ n.op = 15 ∨ n.op = 16 ∨ n.op = 17 ∨ n.op = 18 ∨ n.op = 19 ∨ n.op = 20 ∨ n.op = 25 ∨ n.op = 26 ∨ n.op = 27 := by omega
 have HOP := Lib.hid ho'
 have hB2 : ∀ W : World, NxI x xb (i + 1 + a.length) n w W → Calls Tryz.prog 52 #[.pointer (some ⟨xb, 0, none⟩)] W (NxA x xb (i + 1 + a.length + b.length) n (evX x.es x.q b) w W) := fun W h => h.next hxb hb hexb hdr2
 have HB2 := Lib.hid hB2
 generalize i + 1 + a.length + b.length = j2 at HB2 ⊢
 generalize i + 1 + a.length = j at HA HB2
 generalize evX x.es x.q a = q at HA ⊢
 generalize evX x.es x.q b = qb at HB2 ⊢
 obtain ⟨q', hq'⟩ : ∃ q', q' = q.bind (fun u => qb.bind fun v => doubleR x.es n.op u v) := ⟨_, rfl⟩
 rw [← hq']
 have HQ := Lib.hid hq'
 clear hcall hni0 hdr1 hdr2 ha hex hb hexb hB2 ho ho' hlen hns hq'
 go_enter Tryz.func52, Tryz.ntmps52
 go_wp2_with fail
 refine wp_region_ord (S := NxS xb i be oe x n w) [(0, false), (1, false), (2, false), (3, false), (4, false), (5, false), (6, false), (7, false), (8, false), (9, false), (10, true), (11, true)] (by kernel_rfl) (by kernel_rfl) (fun _ _ _ _ _ h => h) HS1.out (fun hW' => ?_)
 simp only [ordOps, List.filterMap_cons, List.filterMap_nil, List.getElem?_cons_zero, List.getElem?_cons_succ, Option.map_some]
 (repeat (first | (refine hd_take (v := ?_) (by rfl) ?_ ?_; rotate_left; (focus (intro W hW; obtain ⟨s0, s1, s2, s3, s4, s5⟩ := hW; go_simp; try with_reducible rfl)); simp only [Act.put, List.setIfInBounds_toArray, List.set_cons_zero, List.set_cons_succ]) | (refine hd_skip (by rfl) ?_; simp only [Act.put, List.setIfInBounds_toArray, List.set_cons_zero, List.set_cons_succ])))
 clear hW'
 refine hd_call (fun K hK => ?_)
 go_simp
 refine hK _ _ (HS0.out _) ?_
 clear hK K
 refine hd_call (fun K hK => ?_)
 go_simp
 refine hK _ _ (HS0.out _) ?_
 clear hK K
 refine hd_nil ?_
 go_wp2_with fail
 refine HA.out.mono ?_
 rintro r w1 ⟨hq1, hq2, ho1, hoW1⟩
 have HO1 := Lib.hid ho1
 clear ho1 hoW1
 cases q with
 | bad k =>
   have hr := hq2 k rfl
   subst hr
   clear hq1 hq2
   obtain rfl : q' = .bad k := HQ.out
   clear HQ
   go_wp2_with fail
   exact ⟨rfl, NextPost.bad HO1.out⟩
 | ok v =>
   obtain ⟨A, c, rfl, hv, hvi, hoff, hn1⟩ := hq1 v rfl
   have HN1 := Lib.hid hn1.drew
   have HV := Lib.hid hv
   have HVI := Lib.hid hvi
   have HOF := Lib.hid hoff
   have hS : OpS w.heap.size n.op w1.drew := ⟨hn1.nd.c0⟩
   have HS := Lib.hid hS
   have c0 : w1.cell? ⟨w.heap.size, 0, none⟩ = some (.int .i64 n.op) := hn1.nd.c0
   clear hS hoff hn1 hq1 hq2 hv hvi
   go_wp2_with fail
   refine wp_region_ord (S := OpS w.heap.size n.op) [(0, false), (1, false), (2, false), (3, false), (4, false), (5, true), (6, true), (7, false)] (by kernel_rfl) (by kernel_rfl) (fun _ _ _ _ _ h => h) HS.out (fun hW' => ?_)
   clear hW'
   simp only [ordOps, List.filterMap_cons, List.filterMap_nil, List.getElem?_cons_zero, List.getElem?_cons_succ, Option.map_some]
   (repeat (first | (refine hd_take (v := ?_) (by rfl) ?_ ?_; rotate_left; (focus (intro W hW; obtain ⟨s0⟩ := hW; go_simp; try with_reducible rfl)); simp only [Act.put, List.setIfInBounds_toArray, List.set_cons_zero, List.set_cons_succ]) | (refine hd_skip (by rfl) ?_; simp only [Act.put, List.setIfInBounds_toArray, List.set_cons_zero, List.set_cons_succ])))
   refine hd_call (fun K hK => ?_)
   go_simp
   refine (HB2.out _ HN1.out).mono ?_
   rintro r w2 ⟨hp1, hp2, ho2, hoW2⟩
   have HO2 := Lib.hid ho2
   cases qb with
   | bad k =>
     have hr := hp2 k rfl
     subst hr
     dsimp only
     clear hK K hp1 hp2
     obtain rfl : q' = .bad k := HQ.out
     clear HQ
     go_wp2_with fail
     exact ⟨rfl, NextPost.bad HO2.out⟩
   | ok u =>
     obtain ⟨A2, c2', rfl, hu, hui, -, hn2⟩ := hp1 u rfl
     have HN2 := Lib.hid hn2
     have hof2 : NdOff (gx xb w) w2 w2.heap.size A v := HOF.out.past (w' := w2) (⟨hoW2.os, hoW2.tape, hoW2.output, hoW2.size, hoW2.block⟩ : Only w1.heap.size xb w1 w2) (Nat.le_refl _) hxb
     have hv2 : ValIn v A c w2 := ⟨HV.out.ok, HV.out.nd, HV.out.le, HV.out.max, hof2.sl⟩
     have hs := eval_double x xb j2 n.op v u A A2 c c2' w2 hn2.ev hn2.blk hv2 hu HVI.out hui HOP.out
     rw [show doubleR x.es n.op v u = q' from HQ.out.symm] at hs
     have HD := Lib.hid hs
     refine hK _ _ ⟨hn2.nd.c0⟩ ?_
     clear hK K hn2 hof2 hv2 hs hu hui hp1 hp2 ho2 hoW2 HQ
     refine hd_call (fun K hK => ?_)
     go_simp
     refine HD.out.mono ?_
     rintro r w3 hr2
     have hpost := NextPost.rs HN2.out hr2
     obtain ⟨g1, g2, g3⟩ := hr2
     have hS3 : OpS w.heap.size n.op w3 := ⟨(g3.cell (HN2.out).sz).trans HN2.out.nd.c0⟩
     have HP := Lib.hid hpost
     clear hpost g3
     cases q' with
     | bad k =>
       have hr := g2 k rfl
       subst hr
       dsimp only
       clear hK K g1 g2 hS3
       go_wp2_with fail
       exact ⟨rfl, HP.out⟩
     | ok u =>
       obtain ⟨A3, c3', rfl, -⟩ := g1 u rfl
       refine hK _ _ hS3 ?_
       clear hK K g1 g2 hS3
       (repeat (first | (refine hd_take (v := ?_) (by rfl) ?_ ?_; rotate_left; (focus (intro W hW; obtain ⟨s0⟩ := hW; go_simp; try with_reducible rfl)); simp only [Act.put, List.setIfInBounds_toArray, List.set_cons_zero, List.set_cons_succ]) | (refine hd_skip (by rfl) ?_; simp only [Act.put, List.setIfInBounds_toArray, List.set_cons_zero, List.set_cons_succ])))
       refine hd_nil ?_
       go_wp2_with fail
       go_ret
       exact HP.out
end Go.Proofs.YtpheiojmcafolaaGreatDoor
