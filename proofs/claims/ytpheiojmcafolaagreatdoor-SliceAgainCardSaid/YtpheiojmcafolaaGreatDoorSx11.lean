/-
  THE WALKS: (*eval.evaluation).next at a name; either, choice.
  THE WALKS: eval.collected.
  THE WALKS: (*eval.evaluation).made at a set.
  THE WALKS: (*eval.evaluation).made at a record.
  THE WALKS: (*eval.evaluation).next at a set, at a record; next whole.
  THE WALKS: (*eval.evaluation).next, whole.
  THE WALKS: eval.Ask.
  THE WALKS: slices.Clone of a value; eval.Value.
  THE WALKS: eval.Value.
  THE WALKS: eval.Value where nothing is bad.
  PLAIN LAWS: what is wrong has a number that is not 0.
  THE WALKS: eval.Value, whole.
  THE WALKS: auth.first.
  PLAIN LAWS: the strings of an expression are short.
  PLAIN: the numbers of an expression stay in 64 bits if those of its number nodes do.
  PLAIN WORDS: the answer of some policies to a request. PLAIN LAWS for AuthOrder, AuthTrumps, AuthMore, AuthAlone, AuthApart, AuthCopies.
  PLAIN WORDS: a policy as an expression.
  PLAIN LAWS: a policy's expression is an expression.
  PLAIN LAW: the value of a formula without names is what it tells.
  PLAIN LAW: what a policy's expression is, of its scopes and conditions.
  THE WALK: the laws' comparison of nodes.
-/
import Derived.Test.YtpheiojmcafolaaGreatDoorSx10
import Derived.Test.YtpheiojmcafolaaGreatDoorSx02
import Derived.Test.YtpheiojmcafolaaGreatDoorSx04
import Derived.LoopN
import Derived.Test.YtpheiojmcafolaaGreatDoorSx06
import Derived.Test.YtpheiojmcafolaaGreatDoorSx05
import Derived.Test.YtpheiojmcafolaaGreatDoorSx01
import Derived.Test.YtpheiojmcafolaaGreatDoorSx07
import Derived.BigQuiet
namespace Go.Proofs.YtpheiojmcafolaaGreatDoor
set_option maxRecDepth 100000
open Go.RowKit Go.Sort
theorem NextPost.nam {x : Evl} {xb j : Nat} {n : Nd} {q : Rs (List Nd)} {w W w' : World} {r : Ending} (h : NxI x xb j n w W) (hr : NamP xb q W r w') : NextPost x xb j q w r w' := by
 obtain ⟨h1, h2, h3⟩ := hr
 have ho : Only W.heap.size xb W w' := Only.of_below h3 (Nat.le_refl _)
 refine ⟨fun v hv => ?_, h2, h.only.trans (ho.mono (Nat.le_of_lt h.sz))⟩
 obtain ⟨A, c, e, g1, g2, g3⟩ := h1 v hv
 exact ⟨A, c, e, g1, g2, g3.up (Nat.le_of_lt h.sz), h.blk.below h3 h.blk.lt⟩
theorem NextPost.up {x : Evl} {xb j j' : Nat} {n : Nd} {q : Rs (List Nd)} {w W w' : World} {r : Ending} (h : NxI x xb j n w W) (hr : NextPost x xb j' q W r w') : NextPost x xb j' q w r w' :=
 ⟨fun v hv => by obtain ⟨A, c, e, g1, g2, g3, g4⟩ := hr.1 v hv; exact ⟨A, c, e, g1, g2, g3.up (Nat.le_of_lt h.sz), g4⟩, hr.2.1, h.only.trans (hr.2.2.mono (Nat.le_of_lt h.sz))⟩
set_option maxHeartbeats 6400000 in
theorem next_8 (x : Evl) (n : Nd) (ho : n.op = 8) : NextOk x [n] := by
 intro i xb rest w hdr hx hB
 have hn : x.e[i]? = some n := by
   have := congrArg (fun l => l[0]?) hdr
   simpa [List.getElem?_drop] using this
 have hil : i < x.e.length := (List.getElem?_eq_some_iff.1 hn).1
 have hxb := hB.lt
 obtain ⟨be, oe, hea, hbe, hcs⟩ := hx.ex.at_ hil
 obtain ⟨n0, n1, n2, n3⟩ := hcs i n hn
 have hS0 : NxS xb i be oe x n w w.drew := ⟨by rw [← hea]; exact hB.cell 8, hB.cell 9, n0, n1, n2, n3⟩
 have hbw : be < w.heap.size := Nat.lt_trans hbe hxb
 have HS0 := Lib.hid (hS0.alloc hxb hbw)
 have HS1 := Lib.hid hS0
 have hia := node_at be oe x.e.length x.eca i hil
 have HDR := Lib.hid hdr
 have hni := nx_start (n := n) hx hB
 have HNI := Lib.hid hni
 have h9 : w.cell? ⟨xb, 9, none⟩ = some (.int .i64 i) := hS0.s1
 have hf9 : w.frozen? ⟨xb, 9, none⟩ = false := hB.frozen 9
 have hi1 : IntKind.wrap .i64 ((i : Int) + 1) = (i : Int) + 1 := by
   have := hx.el
   exact IntWalk.i64_in _ (by omega)
 have hni0 := hni.drew
 have hdr1 : x.e.drop (i + 1) = [] ++ rest := by
   have := congrArg List.tail hdr
   simpa [List.tail_drop] using this
 have hns : n.s.size ≤ 140737488351232 := (hx.ek n (List.mem_of_getElem? hn)).1
 clear hcs n0 n1 n2 n3 hea hn hx hB hdr hS0 hni HDR
 have t1 : (n.op == 1) = false := by simp [ho]
 have t2 : (n.op == 2) = false := by simp [ho]
 have t3 : (n.op == 3) = false := by simp [ho]
 have t4 : (n.op == 4) = false := by simp [ho]
 have t8 : (n.op == 8) = true := by simp [ho]
 have t11 : (n.op == 11) = false := by simp [ho]
 have t12 : (n.op == 12) = false := by simp [ho]
 have t13 : (n.op == 13) = false := by simp [ho]
 have t5 : (n.op == 5) = false := by simp [ho]
 have t6 : (n.op == 6) = false := by simp [ho]
 have t9 : (n.op == 9) = false := by simp [ho]
 have t10 : (n.op == 10) = false := by simp [ho]
 have t21 : (n.op == 21) = false := by simp [ho]
 have t22 : (n.op == 22) = false := by simp [ho]
 have t23 : (n.op == 23) = false := by simp [ho]
 have t24 : (n.op == 24) = false := by simp [ho]
 have hcall := eval_named x xb (i + 1) n.s (nw w xb i n).drew hni0.ev hni0.blk
 unfold nw at hcall
 have HA := Lib.hid hcall
 rw [evX_var x.es x.q ho, show i + [n].length = i + 1 from rfl]
 generalize namedR x.q n.s.toList = q at HA ⊢
 clear hcall hni0 hdr1 ho hns
 go_enter Tryz.func52, Tryz.ntmps52
 go_wp2_with fail
 refine wp_region_ord (S := NxS xb i be oe x n w) [(0, false), (1, false), (2, false), (3, false), (4, false), (5, false), (6, false), (7, false), (8, false), (9, false), (10, true), (11, true)] (by kernel_rfl) (by kernel_rfl) (fun _ _ _ _ _ h => h) HS1.out (fun hW' => ?_)
 simp only [ordOps, List.filterMap_cons, List.filterMap_nil, List.getElem?_cons_zero, List.getElem?_cons_succ, Option.map_some]
 (repeat (first | (refine hd_take (v := ?_) (by rfl) ?_ ?_; rotate_left; (focus (intro W hW; obtain ⟨s0, s1, s2, s3, s4, s5⟩ := hW; go_simp; try with_reducible rfl)); simp only [Act.put, List.setIfInBounds_toArray, List.set_cons_zero, List.set_cons_succ]) | (refine hd_skip (by rfl) ?_; simp only [Act.put, List.setIfInBounds_toArray, List.set_cons_zero, List.set_cons_succ])))
 clear hW'
 refine hd_call (fun K hK => ?_)
 go_simp
 refine hK _ _ (HS0.out _) ?_
 clear hK K
 refine hd_call (fun K hK => ?_)
 go_simp
 refine hK _ _ (HS0.out _) ?_
 clear hK K
 refine hd_nil ?_
 go_wp2_with fail
 refine HA.out.mono ?_
 rintro r w1 hr2
 have hpost := NextPost.nam HNI.out.drew hr2
 obtain ⟨g1, g2, -⟩ := hr2
 have HP := Lib.hid hpost
 clear hpost
 cases q with
 | bad k =>
   have hr := g2 k rfl
   subst hr
   clear g1 g2
   go_wp2_with fail
   exact ⟨rfl, HP.out⟩
 | ok u =>
   obtain ⟨A2, c2', rfl, -⟩ := g1 u rfl
   clear g1 g2
   go_wp2_with fail
   go_ret
   exact HP.out
theorem must_hit {v : List Nd} {op : Int} (h : opH v = op) : mustV (.ok v) op = .ok v := by
 show (if opH v = op then Rs.ok v else .bad 2) = _
 rw [if_pos h]
theorem must_miss {v : List Nd} {op : Int} (h : ¬ opH v = op) : mustV (.ok v) op = .bad 2 := by
 show (if opH v = op then Rs.ok v else .bad 2) = _
 rw [if_neg h]
theorem either_miss {op : Int} {v : List Nd} {qb : Rs (List Nd)} (h : ¬ opH v = 1) : eitherR op (.ok v) qb = .bad 2 := by
 unfold eitherR
 rw [must_miss h]; rfl
theorem either_hit {op : Int} {v : List Nd} {qb : Rs (List Nd)} (h : opH v = 1) : eitherR op (.ok v) qb = if (nH v == 1) = (op == 12) then .ok v else mustV qb 1 := by
 unfold eitherR
 rw [must_hit h]; rfl
def NxG (x : Evl) (xb j : Nat) (q : Rs (List Nd)) (W : World) (r : Ending) (w' : World) : Prop :=
 (∀ v, q = .ok v → ∃ A c, r = .returned (.slice A v.length c) ∧ ValIn v A c w' ∧ NdOff (gx xb W) w' w'.heap.size A v ∧ EvIn x xb w' ∧ Blk w' xb 99 (x.cells j)) ∧ (∀ k, q = .bad k → r = .panicked (noV k)) ∧ Only W.heap.size xb W w'
theorem NextOk.go {x : Evl} {xb j : Nat} {W : World} {a rest : List Nd} (ha : NextOk x a) (hex : Ex (.one false) a) (hx : EvIn x xb W) (hB : Blk W xb 99 (x.cells j)) (hd : x.e.drop j = a ++ rest) :
   Calls Tryz.prog 52 #[.pointer (some ⟨xb, 0, none⟩)] W (NxG x xb (j + a.length) (evX x.es x.q a) W) := by
 have hmem : ∀ y ∈ a, y ∈ x.e := fun y hy => List.mem_of_mem_drop (i := j) (by rw [hd]; simp [hy])
 have hk : NdOk a := NdOk.sub hx.ek hmem
 have hi : NdI a := NdI.sub hx.ei hmem
 refine (ha j xb rest W hd hx hB).mono ?_
 rintro r w' ⟨h1, h2, h3⟩
 refine ⟨fun v hv => ?_, h2, h3⟩
 obtain ⟨A, c, rfl, g1, g2, g3, g4⟩ := h1 v hv
 have hf := val_facts hx hex hk hi hv
 exact ⟨A, c, rfl, ⟨hf.ok, hf.nd, g1, g2, g3.sl⟩, g3, hx.keep (h3.below (Nat.le_of_lt hB.lt) (Nat.le_refl _)), g4⟩
theorem head_at {w : World} {b o L c : Nat} (h : 0 < L) : (Instr.indexAt 22 (.slice (some ⟨b, o, none⟩) L c) (.int .i64 0)).run Tryz.prog w = .ok (.pointer (some ⟨b, o, none⟩)) w := by
 have h0 : (0 : Int) < (L : Int) := by omega
 go_simp
set_option maxHeartbeats 6400000 in
theorem either_11 (x : Evl) (xb j : Nat) (a b rest : List Nd) (w : World) (hf : FewIn x) (ha : NextOk x a) (hb : NextOk x b) (hex : Ex (.one false) a) (hexb : Ex (.one false) b) (hx : EvIn x xb w) (hB : Blk w xb 99 (x.cells j)) (hd : x.e.drop j = a ++ (b ++ rest)) :
   Calls Tryz.prog 86 #[.pointer (some ⟨xb, 0, none⟩), .int .i64 11] w (NextPost x xb (j + a.length + b.length) (eitherR 11 (evX x.es x.q a) (evX x.es x.q b)) w) := by
 have hxb := hB.lt
 have hd2 : x.e.drop (j + a.length) = b ++ rest := by rw [← List.drop_drop, hd]; simp
 have hcA := ha.go hex hx hB hd
 have HA := Lib.hid hcA
 have hcB : ∀ W : World, EvIn x xb W → Blk W xb 99 (x.cells (j + a.length)) → Calls Tryz.prog 52 #[.pointer (some ⟨xb, 0, none⟩)] W (NxG x xb (j + a.length + b.length) (evX x.es x.q b) W) := fun W h1 h2 => hb.go hexb h1 h2 hd2
 have HB := Lib.hid hcB
 have hcS : ∀ W : World, EvIn x xb W → Blk W xb 99 (x.cells (j + a.length)) → _ := fun W h1 h2 => eval_skip x xb (j + a.length) b rest W hf hexb hd2 h1 h2
 have HSK := Lib.hid hcS
 generalize j + a.length + b.length = j2 at HB HSK ⊢
 generalize j + a.length = j1 at HA HB HSK
 generalize evX x.es x.q a = q at HA ⊢
 generalize evX x.es x.q b = qb at HB ⊢
 obtain ⟨q', hq'⟩ : ∃ q', q' = eitherR 11 q qb := ⟨_, rfl⟩
 rw [← hq']
 have HQ := Lib.hid hq'
 clear hcA hcB hcS hd hd2 hf hexb hex ha hb hx hB hq'
 go_enter Tryz.func86, Tryz.ntmps86
 go_wp2_with fail
 refine HA.out.mono ?_
 rintro r w1 ⟨hq1, hq2, ho1⟩
 have HO1 := Lib.hid ho1
 cases q with
 | bad k =>
   have hr := hq2 k rfl
   subst hr
   clear hq1 hq2 ho1
   obtain rfl : q' = .bad k := HQ.out
   clear HQ
   go_wp2_with fail
   exact ⟨rfl, NextPost.bad HO1.out⟩
 | ok v =>
   obtain ⟨A, c, rfl, hv, hof, hx1, hB1⟩ := hq1 v rfl
   have HV := Lib.hid hv
   have HOF := Lib.hid hof
   have HX1 := Lib.hid hx1
   have HB1 := Lib.hid hB1
   have HM := Lib.hid (eval_must v 1 A c w1 hv)
   have hs1 : xb < w1.heap.size := hB1.lt
   clear hq1 hq2 ho1 hv hof hx1 hB1
   go_wp2_with fail
   refine HM.out.mono ?_
   rintro r w2 ⟨⟨hr1, hr2⟩, rfl⟩
   by_cases h1 : opH v = 1
   · have hr := hr1 h1
     subst hr
     have hq3 := HQ.out.trans (either_hit h1)
     have HQ3 := Lib.hid hq3
     obtain ⟨y, yr, yb, yo, hvy, rfl, hyb, ⟨-, y1, -, -⟩, -, hny, -, -, hl⟩ := HV.out.head
     rw [hny] at hq3
     have HNY := Lib.hid hny
     have hia := fun W => head_at (w := W) (b := yb) (o := yo) (L := v.length) (c := c) hl
     have HVY := Lib.hid hvy
     clear hr1 hr2 h1 HQ hvy HQ3 hny
     cases hy : (y.n == 1) with
     | false =>
       have hq4 : q' = .ok v := by rw [hq3, hy]; rfl
       clear hq3
       subst hq4
       go_wp2_with fail
       refine (HSK.out w2 HX1.out HB1.out).mono ?_
       rintro r w3 ⟨rfl, hB3, ho3⟩
       have hof3 : NdOff (gx xb w) w3 w3.heap.size (some ⟨yb, yo, none⟩) v := HOF.out.past ho3 (Nat.le_refl _) hxb
       have HP := Lib.hid (NextPost.ok HV.out.le HV.out.max hof3 hB3 (HO1.out.trans (ho3.mono HO1.out.size)))
       clear hof3 hB3 ho3
       go_wp2_with fail
       go_ret
       exact HP.out
     | true =>
       have hq4 : q' = mustV qb 1 := by rw [hq3, hy]; rfl
       have HQ4 := Lib.hid hq4
       clear hq3 hq4
       go_wp2_with fail
       refine (HB.out w2 HX1.out HB1.out).mono ?_
       rintro r w3 ⟨hp1, hp2, ho3⟩
       have HO3 := Lib.hid (HO1.out.trans (ho3.mono HO1.out.size))
       cases qb with
       | bad k =>
         have hr := hp2 k rfl
         subst hr
         clear hp1 hp2 ho3
         obtain rfl : q' = .bad k := HQ4.out
         clear HQ4
         go_wp2_with fail
         exact ⟨rfl, NextPost.bad HO3.out⟩
       | ok u =>
         obtain ⟨A2, c2, rfl, hu, hof2, -, hB2⟩ := hp1 u rfl
         have HM2 := Lib.hid (eval_must u 1 A2 c2 w3 hu)
         have HP := Lib.hid (NextPost.ok hu.le hu.max (hof2.up HO1.out.size) hB2 HO3.out)
         clear hp1 hp2 ho3 hu hof2 hB2
         go_wp2_with fail
         refine HM2.out.mono ?_
         rintro r w4 ⟨⟨hr1, hr2⟩, rfl⟩
         by_cases h1 : opH u = 1
         · have hr := hr1 h1
           subst hr
           obtain rfl : q' = .ok u := HQ4.out.trans (must_hit h1)
           clear hr1 hr2 h1 HQ4
           go_wp2_with fail
           go_ret
           exact HP.out
         · have hr := hr2 h1
           subst hr
           obtain rfl : q' = .bad 2 := HQ4.out.trans (must_miss h1)
           clear hr1 hr2 h1 HQ4
           go_wp2_with fail
           exact ⟨rfl, NextPost.bad HO3.out⟩
   · have hr := hr2 h1
     subst hr
     obtain rfl : q' = .bad 2 := HQ.out.trans (either_miss h1)
     clear hr1 hr2 h1 HQ
     go_wp2_with fail
     exact ⟨rfl, NextPost.bad HO1.out⟩
set_option maxHeartbeats 6400000 in
theorem either_12 (x : Evl) (xb j : Nat) (a b rest : List Nd) (w : World) (hf : FewIn x) (ha : NextOk x a) (hb : NextOk x b) (hex : Ex (.one false) a) (hexb : Ex (.one false) b) (hx : EvIn x xb w) (hB : Blk w xb 99 (x.cells j)) (hd : x.e.drop j = a ++ (b ++ rest)) :
   Calls Tryz.prog 86 #[.pointer (some ⟨xb, 0, none⟩), .int .i64 12] w (NextPost x xb (j + a.length + b.length) (eitherR 12 (evX x.es x.q a) (evX x.es x.q b)) w) := by
 have hxb := hB.lt
 have hd2 : x.e.drop (j + a.length) = b ++ rest := by rw [← List.drop_drop, hd]; simp
 have hcA := ha.go hex hx hB hd
 have HA := Lib.hid hcA
 have hcB : ∀ W : World, EvIn x xb W → Blk W xb 99 (x.cells (j + a.length)) → Calls Tryz.prog 52 #[.pointer (some ⟨xb, 0, none⟩)] W (NxG x xb (j + a.length + b.length) (evX x.es x.q b) W) := fun W h1 h2 => hb.go hexb h1 h2 hd2
 have HB := Lib.hid hcB
 have hcS : ∀ W : World, EvIn x xb W → Blk W xb 99 (x.cells (j + a.length)) → _ := fun W h1 h2 => eval_skip x xb (j + a.length) b rest W hf hexb hd2 h1 h2
 have HSK := Lib.hid hcS
 generalize j + a.length + b.length = j2 at HB HSK ⊢
 generalize j + a.length = j1 at HA HB HSK
 generalize evX x.es x.q a = q at HA ⊢
 generalize evX x.es x.q b = qb at HB ⊢
 obtain ⟨q', hq'⟩ : ∃ q', q' = eitherR 12 q qb := ⟨_, rfl⟩
 rw [← hq']
 have HQ := Lib.hid hq'
 clear hcA hcB hcS hd hd2 hf hexb hex ha hb hx hB hq'
 go_enter Tryz.func86, Tryz.ntmps86
 go_wp2_with fail
 refine HA.out.mono ?_
 rintro r w1 ⟨hq1, hq2, ho1⟩
 have HO1 := Lib.hid ho1
 cases q with
 | bad k =>
   have hr := hq2 k rfl
   subst hr
   clear hq1 hq2 ho1
   obtain rfl : q' = .bad k := HQ.out
   clear HQ
   go_wp2_with fail
   exact ⟨rfl, NextPost.bad HO1.out⟩
 | ok v =>
   obtain ⟨A, c, rfl, hv, hof, hx1, hB1⟩ := hq1 v rfl
   have HV := Lib.hid hv
   have HOF := Lib.hid hof
   have HX1 := Lib.hid hx1
   have HB1 := Lib.hid hB1
   have HM := Lib.hid (eval_must v 1 A c w1 hv)
   have hs1 : xb < w1.heap.size := hB1.lt
   clear hq1 hq2 ho1 hv hof hx1 hB1
   go_wp2_with fail
   refine HM.out.mono ?_
   rintro r w2 ⟨⟨hr1, hr2⟩, rfl⟩
   by_cases h1 : opH v = 1
   · have hr := hr1 h1
     subst hr
     have hq3 := HQ.out.trans (either_hit h1)
     have HQ3 := Lib.hid hq3
     obtain ⟨y, yr, yb, yo, hvy, rfl, hyb, ⟨-, y1, -, -⟩, -, hny, -, -, hl⟩ := HV.out.head
     rw [hny] at hq3
     have HNY := Lib.hid hny
     have hia := fun W => head_at (w := W) (b := yb) (o := yo) (L := v.length) (c := c) hl
     have HVY := Lib.hid hvy
     clear hr1 hr2 h1 HQ hvy HQ3 hny
     cases hy : (y.n == 1) with
     | true =>
       have hq4 : q' = .ok v := by rw [hq3, hy]; rfl
       clear hq3
       subst hq4
       go_wp2_with fail
       refine (HSK.out w2 HX1.out HB1.out).mono ?_
       rintro r w3 ⟨rfl, hB3, ho3⟩
       have hof3 : NdOff (gx xb w) w3 w3.heap.size (some ⟨yb, yo, none⟩) v := HOF.out.past ho3 (Nat.le_refl _) hxb
       have HP := Lib.hid (NextPost.ok HV.out.le HV.out.max hof3 hB3 (HO1.out.trans (ho3.mono HO1.out.size)))
       clear hof3 hB3 ho3
       go_wp2_with fail
       go_ret
       exact HP.out
     | false =>
       have hq4 : q' = mustV qb 1 := by rw [hq3, hy]; rfl
       have HQ4 := Lib.hid hq4
       clear hq3 hq4
       go_wp2_with fail
       refine (HB.out w2 HX1.out HB1.out).mono ?_
       rintro r w3 ⟨hp1, hp2, ho3⟩
       have HO3 := Lib.hid (HO1.out.trans (ho3.mono HO1.out.size))
       cases qb with
       | bad k =>
         have hr := hp2 k rfl
         subst hr
         clear hp1 hp2 ho3
         obtain rfl : q' = .bad k := HQ4.out
         clear HQ4
         go_wp2_with fail
         exact ⟨rfl, NextPost.bad HO3.out⟩
       | ok u =>
         obtain ⟨A2, c2, rfl, hu, hof2, -, hB2⟩ := hp1 u rfl
         have HM2 := Lib.hid (eval_must u 1 A2 c2 w3 hu)
         have HP := Lib.hid (NextPost.ok hu.le hu.max (hof2.up HO1.out.size) hB2 HO3.out)
         clear hp1 hp2 ho3 hu hof2 hB2
         go_wp2_with fail
         refine HM2.out.mono ?_
         rintro r w4 ⟨⟨hr1, hr2⟩, rfl⟩
         by_cases h1 : opH u = 1
         · have hr := hr1 h1
           subst hr
           obtain rfl : q' = .ok u := HQ4.out.trans (must_hit h1)
           clear hr1 hr2 h1 HQ4
           go_wp2_with fail
           go_ret
           exact HP.out
         · have hr := hr2 h1
           subst hr
           obtain rfl : q' = .bad 2 := HQ4.out.trans (must_miss h1)
           clear hr1 hr2 h1 HQ4
           go_wp2_with fail
           exact ⟨rfl, NextPost.bad HO3.out⟩
   · have hr := hr2 h1
     subst hr
     obtain rfl : q' = .bad 2 := HQ.out.trans (either_miss h1)
     clear hr1 hr2 h1 HQ
     go_wp2_with fail
     exact ⟨rfl, NextPost.bad HO1.out⟩
set_option maxHeartbeats 6400000 in
theorem next_11 (x : Evl) (n : Nd) (hf : FewIn x) (a b : List Nd) (ha : NextOk x a) (hb : NextOk x b) (hex : Ex (.one false) a) (hexb : Ex (.one false) b) (ho : n.op = 11) : NextOk x (n :: (a ++ b)) := by
 intro i xb rest w hdr hx hB
 have hn : x.e[i]? = some n := by
   have := congrArg (fun l => l[0]?) hdr
   simpa [List.getElem?_drop] using this
 have hil : i < x.e.length := (List.getElem?_eq_some_iff.1 hn).1
 have hxb := hB.lt
 obtain ⟨be, oe, hea, hbe, hcs⟩ := hx.ex.at_ hil
 obtain ⟨n0, n1, n2, n3⟩ := hcs i n hn
 have hS0 : NxS xb i be oe x n w w.drew := ⟨by rw [← hea]; exact hB.cell 8, hB.cell 9, n0, n1, n2, n3⟩
 have hbw : be < w.heap.size := Nat.lt_trans hbe hxb
 have HS0 := Lib.hid (hS0.alloc hxb hbw)
 have HS1 := Lib.hid hS0
 have hia := node_at be oe x.e.length x.eca i hil
 have HDR := Lib.hid hdr
 have hni := nx_start (n := n) hx hB
 have HNI := Lib.hid hni
 have h9 : w.cell? ⟨xb, 9, none⟩ = some (.int .i64 i) := hS0.s1
 have hf9 : w.frozen? ⟨xb, 9, none⟩ = false := hB.frozen 9
 have hi1 : IntKind.wrap .i64 ((i : Int) + 1) = (i : Int) + 1 := by
   have := hx.el
   exact IntWalk.i64_in _ (by omega)
 have hni0 := hni.drew
 have hdr1 : x.e.drop (i + 1) = (a ++ b) ++ rest := by
   have := congrArg List.tail hdr
   simpa [List.tail_drop] using this
 have hns : n.s.size ≤ 140737488351232 := (hx.ek n (List.mem_of_getElem? hn)).1
 clear hcs n0 n1 n2 n3 hea hn hx hB hdr hS0 hni HDR
 have t1 : (n.op == 1) = false := by simp [ho]
 have t2 : (n.op == 2) = false := by simp [ho]
 have t3 : (n.op == 3) = false := by simp [ho]
 have t4 : (n.op == 4) = false := by simp [ho]
 have t8 : (n.op == 8) = false := by simp [ho]
 have t11 : (n.op == 11) = true := by simp [ho]
 have t12 : (n.op == 12) = false := by simp [ho]
 have t13 : (n.op == 13) = false := by simp [ho]
 have t5 : (n.op == 5) = false := by simp [ho]
 have t6 : (n.op == 6) = false := by simp [ho]
 have t9 : (n.op == 9) = false := by simp [ho]
 have t10 : (n.op == 10) = false := by simp [ho]
 have t21 : (n.op == 21) = false := by simp [ho]
 have t22 : (n.op == 22) = false := by simp [ho]
 have t23 : (n.op == 23) = false := by simp [ho]
 have t24 : (n.op == 24) = false := by simp [ho]
 have hlen : i + (n :: (a ++ b)).length = i + 1 + a.length + b.length := by simp; omega
 have hcall : Calls Tryz.prog 86 #[.pointer (some ⟨xb, 0, none⟩), .int .i64 n.op] (nw w xb i n).drew (NextPost x xb (i + 1 + a.length + b.length) (eitherR n.op (evX x.es x.q a) (evX x.es x.q b)) (nw w xb i n).drew) := by
   rw [ho]; exact either_11 x xb (i + 1) a b rest _ hf ha hb hex hexb hni0.ev hni0.blk (by rw [hdr1]; simp)
 rw [hlen, evX_and x.es x.q (by omega) hex hexb]
 generalize i + 1 + a.length + b.length = j2 at hcall ⊢
 generalize eitherR n.op (evX x.es x.q a) (evX x.es x.q b) = q at hcall ⊢
 unfold nw at hcall
 have HA := Lib.hid hcall
 clear hcall hni0 hdr1 ho hns hf ha hb hex hexb hlen
 go_enter Tryz.func52, Tryz.ntmps52
 go_wp2_with fail
 refine wp_region_ord (S := NxS xb i be oe x n w) [(0, false), (1, false), (2, false), (3, false), (4, false), (5, false), (6, false), (7, false), (8, false), (9, false), (10, true), (11, true)] (by kernel_rfl) (by kernel_rfl) (fun _ _ _ _ _ h => h) HS1.out (fun hW' => ?_)
 simp only [ordOps, List.filterMap_cons, List.filterMap_nil, List.getElem?_cons_zero, List.getElem?_cons_succ, Option.map_some]
 (repeat (first | (refine hd_take (v := ?_) (by rfl) ?_ ?_; rotate_left; (focus (intro W hW; obtain ⟨s0, s1, s2, s3, s4, s5⟩ := hW; go_simp; try with_reducible rfl)); simp only [Act.put, List.setIfInBounds_toArray, List.set_cons_zero, List.set_cons_succ]) | (refine hd_skip (by rfl) ?_; simp only [Act.put, List.setIfInBounds_toArray, List.set_cons_zero, List.set_cons_succ])))
 clear hW'
 refine hd_call (fun K hK => ?_)
 go_simp
 refine hK _ _ (HS0.out _) ?_
 clear hK K
 refine hd_call (fun K hK => ?_)
 go_simp
 refine hK _ _ (HS0.out _) ?_
 clear hK K
 refine hd_nil ?_
 go_wp2_with fail
 refine HA.out.mono ?_
 rintro r w1 hr2
 have hpost := NextPost.up HNI.out.drew hr2
 obtain ⟨g1, g2, -⟩ := hr2
 have HP := Lib.hid hpost
 clear hpost
 cases q with
 | bad k =>
   have hr := g2 k rfl
   subst hr
   clear g1 g2
   go_wp2_with fail
   exact ⟨rfl, HP.out⟩
 | ok u =>
   obtain ⟨A2, c2', rfl, -⟩ := g1 u rfl
   clear g1 g2
   go_wp2_with fail
   go_ret
   exact HP.out
set_option maxHeartbeats 6400000 in
theorem next_12 (x : Evl) (n : Nd) (hf : FewIn x) (a b : List Nd) (ha : NextOk x a) (hb : NextOk x b) (hex : Ex (.one false) a) (hexb : Ex (.one false) b) (ho : n.op = 12) : NextOk x (n :: (a ++ b)) := by
 intro i xb rest w hdr hx hB
 have hn : x.e[i]? = some n := by
   have := congrArg (fun l => l[0]?) hdr
   simpa [List.getElem?_drop] using this
 have hil : i < x.e.length := (List.getElem?_eq_some_iff.1 hn).1
 have hxb := hB.lt
 obtain ⟨be, oe, hea, hbe, hcs⟩ := hx.ex.at_ hil
 obtain ⟨n0, n1, n2, n3⟩ := hcs i n hn
 have hS0 : NxS xb i be oe x n w w.drew := ⟨by rw [← hea]; exact hB.cell 8, hB.cell 9, n0, n1, n2, n3⟩
 have hbw : be < w.heap.size := Nat.lt_trans hbe hxb
 have HS0 := Lib.hid (hS0.alloc hxb hbw)
 have HS1 := Lib.hid hS0
 have hia := node_at be oe x.e.length x.eca i hil
 have HDR := Lib.hid hdr
 have hni := nx_start (n := n) hx hB
 have HNI := Lib.hid hni
 have h9 : w.cell? ⟨xb, 9, none⟩ = some (.int .i64 i) := hS0.s1
 have hf9 : w.frozen? ⟨xb, 9, none⟩ = false := hB.frozen 9
 have hi1 : IntKind.wrap .i64 ((i : Int) + 1) = (i : Int) + 1 := by
   have := hx.el
   exact IntWalk.i64_in _ (by omega)
 have hni0 := hni.drew
 have hdr1 : x.e.drop (i + 1) = (a ++ b) ++ rest := by
   have := congrArg List.tail hdr
   simpa [List.tail_drop] using this
 have hns : n.s.size ≤ 140737488351232 := (hx.ek n (List.mem_of_getElem? hn)).1
 clear hcs n0 n1 n2 n3 hea hn hx hB hdr hS0 hni HDR
 have t1 : (n.op == 1) = false := by simp [ho]
 have t2 : (n.op == 2) = false := by simp [ho]
 have t3 : (n.op == 3) = false := by simp [ho]
 have t4 : (n.op == 4) = false := by simp [ho]
 have t8 : (n.op == 8) = false := by simp [ho]
 have t11 : (n.op == 11) = false := by simp [ho]
 have t12 : (n.op == 12) = true := by simp [ho]
 have t13 : (n.op == 13) = false := by simp [ho]
 have t5 : (n.op == 5) = false := by simp [ho]
 have t6 : (n.op == 6) = false := by simp [ho]
 have t9 : (n.op == 9) = false := by simp [ho]
 have t10 : (n.op == 10) = false := by simp [ho]
 have t21 : (n.op == 21) = false := by simp [ho]
 have t22 : (n.op == 22) = false := by simp [ho]
 have t23 : (n.op == 23) = false := by simp [ho]
 have t24 : (n.op == 24) = false := by simp [ho]
 have hlen : i + (n :: (a ++ b)).length = i + 1 + a.length + b.length := by simp; omega
 have hcall : Calls Tryz.prog 86 #[.pointer (some ⟨xb, 0, none⟩), .int .i64 n.op] (nw w xb i n).drew (NextPost x xb (i + 1 + a.length + b.length) (eitherR n.op (evX x.es x.q a) (evX x.es x.q b)) (nw w xb i n).drew) := by
   rw [ho]; exact either_12 x xb (i + 1) a b rest _ hf ha hb hex hexb hni0.ev hni0.blk (by rw [hdr1]; simp)
 rw [hlen, evX_and x.es x.q (by omega) hex hexb]
 generalize i + 1 + a.length + b.length = j2 at hcall ⊢
 generalize eitherR n.op (evX x.es x.q a) (evX x.es x.q b) = q at hcall ⊢
 unfold nw at hcall
 have HA := Lib.hid hcall
 clear hcall hni0 hdr1 ho hns hf ha hb hex hexb hlen
 go_enter Tryz.func52, Tryz.ntmps52
 go_wp2_with fail
 refine wp_region_ord (S := NxS xb i be oe x n w) [(0, false), (1, false), (2, false), (3, false), (4, false), (5, false), (6, false), (7, false), (8, false), (9, false), (10, true), (11, true)] (by kernel_rfl) (by kernel_rfl) (fun _ _ _ _ _ h => h) HS1.out (fun hW' => ?_)
 simp only [ordOps, List.filterMap_cons, List.filterMap_nil, List.getElem?_cons_zero, List.getElem?_cons_succ, Option.map_some]
 (repeat (first | (refine hd_take (v := ?_) (by rfl) ?_ ?_; rotate_left; (focus (intro W hW; obtain ⟨s0, s1, s2, s3, s4, s5⟩ := hW; go_simp; try with_reducible rfl)); simp only [Act.put, List.setIfInBounds_toArray, List.set_cons_zero, List.set_cons_succ]) | (refine hd_skip (by rfl) ?_; simp only [Act.put, List.setIfInBounds_toArray, List.set_cons_zero, List.set_cons_succ])))
 clear hW'
 refine hd_call (fun K hK => ?_)
 go_simp
 refine hK _ _ (HS0.out _) ?_
 clear hK K
 refine hd_call (fun K hK => ?_)
 go_simp
 refine hK _ _ (HS0.out _) ?_
 clear hK K
 refine hd_nil ?_
 go_wp2_with fail
 refine HA.out.mono ?_
 rintro r w1 hr2
 have hpost := NextPost.up HNI.out.drew hr2
 obtain ⟨g1, g2, -⟩ := hr2
 have HP := Lib.hid hpost
 clear hpost
 cases q with
 | bad k =>
   have hr := g2 k rfl
   subst hr
   clear g1 g2
   go_wp2_with fail
   exact ⟨rfl, HP.out⟩
 | ok u =>
   obtain ⟨A2, c2', rfl, -⟩ := g1 u rfl
   clear g1 g2
   go_wp2_with fail
   go_ret
   exact HP.out
theorem choice_miss {v : List Nd} {qa qb : Rs (List Nd)} (h : ¬ opH v = 1) : choiceR (.ok v) qa qb = .bad 2 := by
 unfold choiceR
 rw [must_miss h]; rfl
theorem choice_hit {v : List Nd} {qa qb : Rs (List Nd)} (h : opH v = 1) : choiceR (.ok v) qa qb = if nH v = 1 then qa else qb := by
 unfold choiceR
 rw [must_hit h]; rfl
set_option maxHeartbeats 6400000 in
theorem eval_choice (x : Evl) (xb j : Nat) (e a b rest : List Nd) (w : World) (hf : FewIn x) (he : NextOk x e) (ha : NextOk x a) (hb : NextOk x b) (hexe : Ex (.one false) e) (hex : Ex (.one false) a) (hexb : Ex (.one false) b) (hx : EvIn x xb w) (hB : Blk w xb 99 (x.cells j)) (hd : x.e.drop j = e ++ (a ++ (b ++ rest))) :
   Calls Tryz.prog 87 #[.pointer (some ⟨xb, 0, none⟩)] w (NextPost x xb (j + e.length + a.length + b.length) (choiceR (evX x.es x.q e) (evX x.es x.q a) (evX x.es x.q b)) w) := by
 have hxb := hB.lt
 have hd1 : x.e.drop (j + e.length) = a ++ (b ++ rest) := by rw [← List.drop_drop, hd]; simp
 have hd2 : x.e.drop (j + e.length + a.length) = b ++ rest := by rw [← List.drop_drop, hd1]; simp
 have hcE := he.go hexe hx hB hd
 have HE := Lib.hid hcE
 have hcA : ∀ W : World, EvIn x xb W → Blk W xb 99 (x.cells (j + e.length)) → Calls Tryz.prog 52 #[.pointer (some ⟨xb, 0, none⟩)] W (NxG x xb (j + e.length + a.length) (evX x.es x.q a) W) := fun W h1 h2 => ha.go hex h1 h2 hd1
 have HA := Lib.hid hcA
 have hcB : ∀ W : World, EvIn x xb W → Blk W xb 99 (x.cells (j + e.length + a.length)) → Calls Tryz.prog 52 #[.pointer (some ⟨xb, 0, none⟩)] W (NxG x xb (j + e.length + a.length + b.length) (evX x.es x.q b) W) := fun W h1 h2 => hb.go hexb h1 h2 hd2
 have HB := Lib.hid hcB
 have hcS : ∀ W : World, EvIn x xb W → Blk W xb 99 (x.cells (j + e.length + a.length)) → _ := fun W h1 h2 => eval_skip x xb (j + e.length + a.length) b rest W hf hexb hd2 h1 h2
 have HSB := Lib.hid hcS
 have hcS' : ∀ W : World, EvIn x xb W → Blk W xb 99 (x.cells (j + e.length)) → _ := fun W h1 h2 => eval_skip x xb (j + e.length) a (b ++ rest) W hf hex hd1 h1 h2
 have HSA := Lib.hid hcS'
 generalize j + e.length + a.length + b.length = j3 at HB HSB ⊢
 generalize j + e.length + a.length = j2 at HA HB HSB HSA
 generalize j + e.length = j1 at HE HA HSA
 generalize evX x.es x.q e = qe at HE ⊢
 generalize evX x.es x.q a = qa at HA ⊢
 generalize evX x.es x.q b = qb at HB ⊢
 obtain ⟨q', hq'⟩ : ∃ q', q' = choiceR qe qa qb := ⟨_, rfl⟩
 rw [← hq']
 have HQ := Lib.hid hq'
 clear hcA hcB hcS hcS' hcE hd hd1 hd2 hf hexe hexb hex he ha hb hx hB hq'
 go_enter Tryz.func87, Tryz.ntmps87
 go_wp2_with fail
 refine HE.out.mono ?_
 rintro r w1 ⟨hq1, hq2, ho1⟩
 have HO1 := Lib.hid ho1
 cases qe with
 | bad k =>
   have hr := hq2 k rfl
   subst hr
   clear hq1 hq2 ho1
   obtain rfl : q' = .bad k := HQ.out
   clear HQ
   go_wp2_with fail
   exact ⟨rfl, NextPost.bad HO1.out⟩
 | ok v =>
   obtain ⟨A, c, rfl, hv, -, hx1, hB1⟩ := hq1 v rfl
   have HV := Lib.hid hv
   have HX1 := Lib.hid hx1
   have HB1 := Lib.hid hB1
   have HM := Lib.hid (eval_must v 1 A c w1 hv)
   have hs1 : xb < w1.heap.size := hB1.lt
   clear hq1 hq2 ho1 hv hx1 hB1
   go_wp2_with fail
   refine HM.out.mono ?_
   rintro r w2 ⟨⟨hr1, hr2⟩, rfl⟩
   by_cases h1 : opH v = 1
   · have hr := hr1 h1
     subst hr
     have hq3 := HQ.out.trans (choice_hit h1)
     obtain ⟨y, yr, yb, yo, hvy, rfl, hyb, ⟨-, y1, -, -⟩, -, hny, -, -, hl⟩ := HV.out.head
     rw [hny] at hq3
     have hia := fun W => head_at (w := W) (b := yb) (o := yo) (L := v.length) (c := c) hl
     clear hr1 hr2 h1 HQ hvy hny
     cases hy : (y.n == 1) with
     | true =>
       have hq4 : q' = qa := by rw [hq3, if_pos (by simpa using hy)]
       clear hq3
       subst hq4
       go_wp2_with fail
       refine (HA.out w2 HX1.out HB1.out).mono ?_
       rintro r w3 ⟨hp1, hp2, ho3⟩
       have HO3 := Lib.hid (HO1.out.trans (ho3.mono HO1.out.size))
       cases q' with
       | bad k =>
         have hr := hp2 k rfl
         subst hr
         clear hp1 hp2 ho3
         go_wp2_with fail
         exact ⟨rfl, NextPost.bad HO3.out⟩
       | ok u =>
         obtain ⟨A2, c2, rfl, hu, hof2, hx2, hB2⟩ := hp1 u rfl
         have HU := Lib.hid hu
         have HOF := Lib.hid hof2
         have HX2 := Lib.hid hx2
         have HB2 := Lib.hid hB2
         clear hp1 hp2 ho3 hu hof2 hx2 hB2
         go_wp2_with fail
         refine (HSB.out w3 HX2.out HB2.out).mono ?_
         rintro r w4 ⟨rfl, hB4, ho4⟩
         have hof4 : NdOff (gx xb w) w4 w4.heap.size A2 u := (HOF.out.up HO1.out.size).past ho4 (Nat.le_refl _) hxb
         have HP := Lib.hid (NextPost.ok HU.out.le HU.out.max hof4 hB4 (HO3.out.trans (ho4.mono HO3.out.size)))
         clear hof4 hB4 ho4
         go_wp2_with fail
         go_ret
         exact HP.out
     | false =>
       have hq4 : q' = qb := by rw [hq3, if_neg (by simpa using hy)]
       clear hq3
       subst hq4
       go_wp2_with fail
       refine (HSA.out w2 HX1.out HB1.out).mono ?_
       rintro r w3 ⟨rfl, hB3, ho3⟩
       have hx3 : EvIn x xb w3 := HX1.out.keep (ho3.below (Nat.le_of_lt hs1) (Nat.le_refl _))
       have HO3 := Lib.hid (HO1.out.trans (ho3.mono HO1.out.size))
       have HC := Lib.hid (HB.out w3 hx3 hB3)
       clear hB3 hx3 ho3
       go_wp2_with fail
       refine HC.out.mono ?_
       rintro r w4 ⟨hp1, hp2, ho4⟩
       have HO4 := Lib.hid (HO3.out.trans (ho4.mono HO3.out.size))
       cases q' with
       | bad k =>
         have hr := hp2 k rfl
         subst hr
         clear hp1 hp2 ho4
         go_wp2_with fail
         exact ⟨rfl, NextPost.bad HO4.out⟩
       | ok u =>
         obtain ⟨A2, c2, rfl, hu, hof2, hx2, hB2⟩ := hp1 u rfl
         have HP := Lib.hid (NextPost.ok hu.le hu.max (hof2.up HO3.out.size) hB2 HO4.out)
         clear hp1 hp2 ho4 hu hof2 hx2 hB2
         go_wp2_with fail
         go_ret
         exact HP.out
   · have hr := hr2 h1
     subst hr
     obtain rfl : q' = .bad 2 := HQ.out.trans (choice_miss h1)
     clear hr1 hr2 h1 HQ
     go_wp2_with fail
     exact ⟨rfl, NextPost.bad HO1.out⟩
set_option maxHeartbeats 6400000 in
theorem next_13 (x : Evl) (n : Nd) (hf : FewIn x) (e a b : List Nd) (he : NextOk x e) (ha : NextOk x a) (hb : NextOk x b) (hexe : Ex (.one false) e) (hex : Ex (.one false) a) (hexb : Ex (.one false) b) (ho : n.op = 13) : NextOk x (n :: (e ++ (a ++ b))) := by
 intro i xb rest w hdr hx hB
 have hn : x.e[i]? = some n := by
   have := congrArg (fun l => l[0]?) hdr
   simpa [List.getElem?_drop] using this
 have hil : i < x.e.length := (List.getElem?_eq_some_iff.1 hn).1
 have hxb := hB.lt
 obtain ⟨be, oe, hea, hbe, hcs⟩ := hx.ex.at_ hil
 obtain ⟨n0, n1, n2, n3⟩ := hcs i n hn
 have hS0 : NxS xb i be oe x n w w.drew := ⟨by rw [← hea]; exact hB.cell 8, hB.cell 9, n0, n1, n2, n3⟩
 have hbw : be < w.heap.size := Nat.lt_trans hbe hxb
 have HS0 := Lib.hid (hS0.alloc hxb hbw)
 have HS1 := Lib.hid hS0
 have hia := node_at be oe x.e.length x.eca i hil
 have HDR := Lib.hid hdr
 have hni := nx_start (n := n) hx hB
 have HNI := Lib.hid hni
 have h9 : w.cell? ⟨xb, 9, none⟩ = some (.int .i64 i) := hS0.s1
 have hf9 : w.frozen? ⟨xb, 9, none⟩ = false := hB.frozen 9
 have hi1 : IntKind.wrap .i64 ((i : Int) + 1) = (i : Int) + 1 := by
   have := hx.el
   exact IntWalk.i64_in _ (by omega)
 have hni0 := hni.drew
 have hdr1 : x.e.drop (i + 1) = (e ++ (a ++ b)) ++ rest := by
   have := congrArg List.tail hdr
   simpa [List.tail_drop] using this
 have hns : n.s.size ≤ 140737488351232 := (hx.ek n (List.mem_of_getElem? hn)).1
 clear hcs n0 n1 n2 n3 hea hn hx hB hdr hS0 hni HDR
 have t1 : (n.op == 1) = false := by simp [ho]
 have t2 : (n.op == 2) = false := by simp [ho]
 have t3 : (n.op == 3) = false := by simp [ho]
 have t4 : (n.op == 4) = false := by simp [ho]
 have t8 : (n.op == 8) = false := by simp [ho]
 have t11 : (n.op == 11) = false := by simp [ho]
 have t12 : (n.op == 12) = false := by simp [ho]
 have t13 : (n.op == 13) = true := by simp [ho]
 have t5 : (n.op == 5) = false := by simp [ho]
 have t6 : (n.op == 6) = false := by simp [ho]
 have t9 : (n.op == 9) = false := by simp [ho]
 have t10 : (n.op == 10) = false := by simp [ho]
 have t21 : (n.op == 21) = false := by simp [ho]
 have t22 : (n.op == 22) = false := by simp [ho]
 have t23 : (n.op == 23) = false := by simp [ho]
 have t24 : (n.op == 24) = false := by simp [ho]
 have hlen : i + (n :: (e ++ (a ++ b))).length = i + 1 + e.length + a.length + b.length := by simp; omega
 have hcall := eval_choice x xb (i + 1) e a b rest (nw w xb i n).drew hf he ha hb hexe hex hexb hni0.ev hni0.blk (by rw [hdr1]; simp)
 rw [hlen, evX_if x.es x.q ho hexe hex hexb]
 generalize i + 1 + e.length + a.length + b.length = j2 at hcall ⊢
 generalize choiceR (evX x.es x.q e) (evX x.es x.q a) (evX x.es x.q b) = q at hcall ⊢
 unfold nw at hcall
 have HA := Lib.hid hcall
 clear hcall hni0 hdr1 ho hns hf he ha hb hexe hex hexb hlen
 go_enter Tryz.func52, Tryz.ntmps52
 go_wp2_with fail
 refine wp_region_ord (S := NxS xb i be oe x n w) [(0, false), (1, false), (2, false), (3, false), (4, false), (5, false), (6, false), (7, false), (8, false), (9, false), (10, true), (11, true)] (by kernel_rfl) (by kernel_rfl) (fun _ _ _ _ _ h => h) HS1.out (fun hW' => ?_)
 simp only [ordOps, List.filterMap_cons, List.filterMap_nil, List.getElem?_cons_zero, List.getElem?_cons_succ, Option.map_some]
 (repeat (first | (refine hd_take (v := ?_) (by rfl) ?_ ?_; rotate_left; (focus (intro W hW; obtain ⟨s0, s1, s2, s3, s4, s5⟩ := hW; go_simp; try with_reducible rfl)); simp only [Act.put, List.setIfInBounds_toArray, List.set_cons_zero, List.set_cons_succ]) | (refine hd_skip (by rfl) ?_; simp only [Act.put, List.setIfInBounds_toArray, List.set_cons_zero, List.set_cons_succ])))
 clear hW'
 refine hd_call (fun K hK => ?_)
 go_simp
 refine hK _ _ (HS0.out _) ?_
 clear hK K
 refine hd_call (fun K hK => ?_)
 go_simp
 refine hK _ _ (HS0.out _) ?_
 clear hK K
 refine hd_nil ?_
 go_wp2_with fail
 refine HA.out.mono ?_
 rintro r w1 hr2
 have hpost := NextPost.up HNI.out.drew hr2
 obtain ⟨g1, g2, -⟩ := hr2
 have HP := Lib.hid hpost
 clear hpost
 cases q with
 | bad k =>
   have hr := g2 k rfl
   subst hr
   clear g1 g2
   go_wp2_with fail
   exact ⟨rfl, HP.out⟩
 | ok u =>
   obtain ⟨A2, c2', rfl, -⟩ := g1 u rfl
   clear g1 g2
   go_wp2_with fail
   go_ret
   exact HP.out
end Go.Proofs.YtpheiojmcafolaaGreatDoor
namespace Go.Proofs.YtpheiojmcafolaaGreatDoor
set_option maxRecDepth 100000
open Go.RowKit Go.Sort
theorem told_back {w w1 w2 : World} {r r2 : Ending} {q : Rs (List Nd)} (h : NdsNewE w r w1 (rsL q) (rsE q)) (hne : ∀ k, q = .bad k → k ≠ 0) {A : Option Addr} {c : Nat} (hr : r = .returned (.tuple #[.slice A (rsL q).length c, errV (rsE q)]))
   (ht : ((rsE q = 0 → r2 = .returned (.slice A (rsL q).length c)) ∧ (rsE q ≠ 0 → r2 = .panicked (noV (rsE q)))) ∧ RowKit.Below w1.heap.size w1 w2) : RsBack w r2 w2 q := by
 obtain ⟨A', c', e, h1, h2, h3, h4, h5⟩ := h
 rw [hr] at e
 injection e with e
 have e' : A = A' ∧ c = c' := by simpa using e
 obtain ⟨rfl, rfl⟩ := e'
 obtain ⟨⟨t1, t2⟩, hb⟩ := ht
 have hb2 : RowKit.Below w.heap.size w w2 := h4.trans (hb.mono h4.size)
 cases q with
 | ok v => exact RsBack.ok ⟨A, c, t1 rfl, h1, h2, (h3.below hb).more hb.size, hb2, h5⟩
 | bad k =>
   have := t2 (hne k rfl)
   rw [this]; exact RsBack.no hb2
theorem set_bad {vs : List (List Nd)} {k : Int} (h : setR vs = .bad k) : k ≠ 0 := by
 unfold setR at h
 split at h
 · injection h with h; rw [← h]; assumption
 · cases h
theorem rec_bad {fs : List (ByteArray × List Nd)} {k : Int} (h : recR fs = .bad k) : k ≠ 0 := by
 unfold recR at h
 split at h
 · injection h with h; rw [← h]; assumption
 · split at h
   · injection h with h; omega
   · cases h
theorem vals_zero : ∀ vs : List (List Nd), (∀ p ∈ vs, valErr p = 0) → valsErr vs = 0
 | [], _ => rfl
 | v :: vs, h => by
   have h1 := h v (by simp)
   have h2 := vals_zero vs fun p hp => h p (by simp [hp])
   simp [valsErr, h1, h2]
theorem setR_L (vs : List (List Nd)) (h : valsErr vs = 0) : rsL (setR vs) = (setV vs).1 ∧ rsE (setR vs) = (setV vs).2 := by
 unfold setR
 rw [setV_of h]
 unfold setV
 split <;> (split <;> simp_all [rsL, rsE])
set_option maxHeartbeats 6400000 in
theorem coll_rec (ss : List (List UInt8)) (ms : List NsM) (An Av : Option Addr) (cn cv : Nat) (w : World) (hg : ErrCell w) (hB : 0 < w.heap.size) (hl : ms.length = ss.length) (hl2 : ss.length ≤ 1000) (hnd : ss.Nodup) (hsz : ∀ l ∈ ss, l.length ≤ 140737488351232) (hnm : ∀ l ∈ ss, nameErr l = 0)
   (hv : ∀ y ∈ ms, valErr y.e = 0 ∧ NdOk y.e) (hgo : recGo ((ss.map bsL).zip (ms.map NsM.e)) [] = 0) (hss : StrSl w w.heap.size An ss) (hms : NssAt w Av ms) :
   Calls Tryz.prog 110 #[.int .i64 6, .slice An ss.length cn, .slice Av ms.length cv] w fun r w' => RsBack w r w' (recR ((ss.map bsL).zip (ms.map NsM.e))) := by
 have HR := Lib.hid (val_RecOf ss ms An Av cn cv w hl hl2 hnd hsz hnm hv hgo hss hms)
 obtain ⟨q, hq⟩ : ∃ q, q = recR ((ss.map bsL).zip (ms.map NsM.e)) := ⟨_, rfl⟩
 rw [← hq] at HR ⊢
 have HNE := Lib.hid (fun k (h : q = .bad k) => rec_bad (hq ▸ h))
 have HG := Lib.hid hg
 have HGB := Lib.hid hB
 clear hl hl2 hnd hsz hnm hv hgo hss hms hq hg hB
 go_enter Tryz.func110, Tryz.ntmps110
 go_wp2_with fail
 refine HR.out.mono ?_
 rintro r w1 hr
 have HN := Lib.hid hr
 obtain ⟨A, c, e, -, -, -, hb1, -⟩ := hr
 have HE := Lib.hid e
 have HT := Lib.hid (told_nds (.slice A (rsL q).length c) (rsE q) w1 (HG.out.below hb1 HGB.out))
 subst e
 clear hb1
 go_wp2_with fail
 refine HT.out.mono ?_
 rintro r2 w2 ht
 have hback := told_back HN.out HNE.out rfl ht
 have HB := Lib.hid hback
 obtain ⟨g1, g2, -⟩ := hback
 clear ht HE
 cases q with
 | bad k =>
   have hr := g2 k rfl
   subst hr
   clear g1 g2
   go_wp2_with fail
   exact ⟨rfl, HB.out⟩
 | ok u =>
   obtain ⟨A2, c2', rfl, -⟩ := g1 u rfl
   clear g1 g2
   go_wp2_with fail
   go_ret
   exact HB.out
set_option maxHeartbeats 6400000 in
theorem coll_set (vn : Value) (ms : List NsM) (Av : Option Addr) (cv : Nat) (w : World) (hg : ErrCell w) (hB : 0 < w.heap.size) (hl2 : ms.length ≤ 1000)
   (hv : ∀ y ∈ ms, valErr y.e = 0) (hok : ∀ y ∈ ms, NdOk y.e) (hms : NssAt w Av ms) :
   Calls Tryz.prog 110 #[.int .i64 5, vn, .slice Av ms.length cv] w fun r w' => RsBack w r w' (setR (ms.map NsM.e)) := by
 have hR := val_SetOf ms Av cv w hms hv hok hl2
 have h0 : valsErr (ms.map NsM.e) = 0 := vals_zero _ (by intro p hp; obtain ⟨y, hy, rfl⟩ := List.mem_map.1 hp; exact hv y hy)
 obtain ⟨q, hq⟩ : ∃ q, q = setR (ms.map NsM.e) := ⟨_, rfl⟩
 rw [← (setR_L _ h0).1, ← (setR_L _ h0).2, ← hq] at hR
 rw [← hq]
 have HR := Lib.hid hR
 have HNE := Lib.hid (fun k (h : q = .bad k) => set_bad (hq ▸ h))
 have HG := Lib.hid hg
 have HGB := Lib.hid hB
 clear hl2 hv hok hms hq hg hB h0 hR
 go_enter Tryz.func110, Tryz.ntmps110
 go_wp2_with fail
 refine HR.out.mono ?_
 rintro r w1 hr
 have HN := Lib.hid hr
 obtain ⟨A, c, e, -, -, -, hb1, -⟩ := hr
 have HT := Lib.hid (told_nds (.slice A (rsL q).length c) (rsE q) w1 (HG.out.below hb1 HGB.out))
 subst e
 clear hb1
 go_wp2_with fail
 refine HT.out.mono ?_
 rintro r2 w2 ht
 have hback := told_back HN.out HNE.out rfl ht
 have HB := Lib.hid hback
 obtain ⟨g1, g2, -⟩ := hback
 clear ht
 cases q with
 | bad k =>
   have hr := g2 k rfl
   subst hr
   clear g1 g2
   go_wp2_with fail
   exact ⟨rfl, HB.out⟩
 | ok u =>
   obtain ⟨A2, c2', rfl, -⟩ := g1 u rfl
   clear g1 g2
   go_wp2_with fail
   go_ret
   exact HB.out
end Go.Proofs.YtpheiojmcafolaaGreatDoor
namespace Go.Proofs.YtpheiojmcafolaaGreatDoor
set_option maxRecDepth 100000
open Go.RowKit Go.Sort
theorem allR_bad {α : Type} : ∀ {l : List (Rs α)} {k : Nat} {vs : List α} {e : Int}, allR (l.take k) = .ok vs → l[k]? = some (.bad e) → allR l = .bad e
 | [], _, _, _, _, h => by simp at h
 | r :: l, 0, _, _, _, h => by
   simp at h; subst h; rfl
 | r :: l, k + 1, vs, e, h1, h2 => by
   rw [List.take_succ_cons] at h1
   cases r with
   | bad j => cases h1
   | ok v =>
     cases hr : allR (l.take k) with
     | bad j => simp [allR, Rs.bind, hr] at h1
     | ok us =>
       have := allR_bad hr (by simpa using h2)
       simp [allR, Rs.bind, this]
theorem allR_snoc {α : Type} : ∀ {l : List (Rs α)} {k : Nat} {vs : List α} {v : α}, allR (l.take k) = .ok vs → l[k]? = some (.ok v) → allR (l.take (k + 1)) = .ok (vs ++ [v])
 | [], _, _, _, _, h => by simp at h
 | r :: l, 0, vs, v, h1, h => by
   simp at h; subst h
   have : vs = [] := by simpa [allR] using h1.symm
   subst this
   simp [allR, Rs.bind]
 | r :: l, k + 1, vs, v, h1, h2 => by
   rw [List.take_succ_cons] at h1 ⊢
   cases r with
   | bad j => cases h1
   | ok u =>
     cases hr : allR (l.take k) with
     | bad j => simp [allR, Rs.bind, hr] at h1
     | ok us =>
       have e1 : vs = u :: us := by simpa [allR, Rs.bind, hr] using h1.symm
       have := allR_snoc hr (by simpa using h2)
       subst e1
       simp [allR, Rs.bind, this]
set_option maxHeartbeats 12800000 in
theorem made_set (x : Evl) (xb j : Nat) (n : Nd) (ps : List (List Nd)) (rest : List Nd) (w : World) (ho : n.op = 5) (hn : n.n = ps.length) (hps : ps.length ≤ 199) (hp : ∀ p ∈ ps, Ex (.one false) p) (ih : ∀ p ∈ ps, NextOk x p) (hx : EvIn x xb w) (hB : Blk w xb 99 (x.cells j)) (hd : x.e.drop j = ps.flatten ++ rest) :
   Calls Tryz.prog 88 #[.pointer (some ⟨xb, 0, none⟩), .agg #[.int .i64 n.op, .int .i64 n.n, .string n.s, .string n.t]] w (NextPost x xb (j + ps.flatten.length) ((allR (ps.map (evX x.es x.q))).bind setR) w) := by
 obtain ⟨i0, hi, hz0, hz1, hz2⟩ := info_parts ns_info
 have hxb := hB.lt
 have t6 : (n.op == 6) = false := by simp [ho]
 obtain ⟨Q, hQ⟩ : ∃ Q : List (Rs (List Nd)), Q = ps.map (evX x.es x.q) := ⟨_, rfl⟩
 have hQl : Q.length = ps.length := by rw [hQ]; simp
 obtain ⟨q', hq'⟩ : ∃ q', q' = (allR Q).bind setR := ⟨_, rfl⟩
 rw [← hQ, ← hq']
 obtain ⟨jE, hjE⟩ : ∃ jE, jE = j + ps.flatten.length := ⟨_, rfl⟩
 rw [← hjE]
 have HJE := Lib.hid hjE
 have HQ := Lib.hid hq'
 have HC := Lib.hid (fun (k : Nat) (p : List Nd) (hk : ps[k]? = some p) (W : World) (h1 : EvIn x xb W) (h2 : Blk W xb 99 (x.cells (j + (ps.take k).flatten.length))) => (show ∃ q, Q[k]? = some q ∧ Calls Tryz.prog 52 #[.pointer (some ⟨xb, 0, none⟩)] W (NxG x xb (j + (ps.take (k + 1)).flatten.length) q W) from by
   have hm := List.mem_of_getElem? hk
   have hd' : x.e.drop (j + (ps.take k).flatten.length) = p ++ ((ps.drop (k + 1)).flatten ++ rest) := by
     rw [← List.drop_drop, hd, flat_split hk]; simp
   refine ⟨evX x.es x.q p, by rw [hQ]; simp [hk], ?_⟩
   have := (ih p hm).go (hp p hm) h1 h2 hd'
   rw [flat_step hk, ← Nat.add_assoc]
   exact this))
 have HO := Lib.hid ho
 have hN0 : NdAt (w.alloc (.cells #[.int .i64 n.op, .int .i64 n.n, .string n.s, .string n.t] 37)) w.heap.size 0 n := by
   have := nd_new w n
   exact ⟨this.c0, this.c1, this.c2, this.c3⟩
 have HN0 := Lib.hid hN0
 have HX := Lib.hid hx
 have HB0 := Lib.hid (hB.alloc (.cells #[.int .i64 n.op, .int .i64 n.n, .string n.s, .string n.t] 37))
 have HO0 := Lib.hid ((Only.refl w.heap.size xb w).alloc (Nat.le_refl _) (.cells #[.int .i64 n.op, .int .i64 n.n, .string n.s, .string n.t] 37))
 have HNN := Lib.hid hn
 have HQL := Lib.hid hQl
 clear hN0 hx hB hd ih hp hQ hq' ho hn hQl hjE
 go_enter Tryz.func88, Tryz.ntmps88
 go_wp2_with fail
 go_loopw [5, 6, 9] (fun nv pv iv wr => ∃ (ms : List NsM), nv = .slice none 0 0 ∧ iv = .int .i64 (ms.length : Nat) ∧ ms.length ≤ ps.length ∧ Hid (allR (Q.take ms.length) = .ok (ms.map NsM.e)) ∧
     Hid (wr.ownsRow (w.heap.size + 1) 22 1 pv ms.length (flatG NsM.cells ms)) ∧ Hid (∀ y ∈ ms, NsFar (G3 xb pv (.slice none 0 0)) wr y ∧ valErr y.e = 0 ∧ NdOk y.e) ∧
     Hid (Blk wr xb 99 (x.cells (j + (ps.take ms.length).flatten.length))) ∧ Hid (NdAt wr w.heap.size 0 n) ∧ Only w.heap.size xb w wr ∧ w.heap.size + 1 ≤ wr.heap.size) (fun _ _ iv _ => ps.length - (intOf iv).toNat)
 case atStart =>
   exact ⟨[], rfl, rfl, by simp, by show _ = _; simp [allR], World.ownsRow_nil _ _ _ _, (fun y hy => by cases hy), HB0.out, HN0.out, HO0.out, by simp⟩
 case round =>
   obtain ⟨ms, rfl, rfl, hml, HA, HR, HF, HB, HN, hor, hzr⟩ := hrel
   have n0 : wr.cell? ⟨w.heap.size, 0, none⟩ = some (.int .i64 n.op) := HN.out.c0
   have hxr : EvIn x xb wr := HX.out.keep (hor.below (Nat.le_of_lt hxb) (Nat.le_refl _))
   have HXR := Lib.hid hxr
   clear hxr
   by_cases hlt : ms.length < ps.length
   · have tl : decide ((ms.length : Int) < n.n) = true := by rw [HNN.out]; simp; omega
     obtain ⟨p, hpk⟩ : ∃ p, ps[ms.length]? = some p := ⟨_, List.getElem?_eq_getElem hlt⟩
     obtain ⟨q, hq, hcall⟩ := HC.out ms.length p hpk wr HXR.out HB.out
     have HCL := Lib.hid hcall
     have HQK := Lib.hid hq
     obtain ⟨Ap, cp, hpv, hcp⟩ := own_sl HR.out
     subst hpv
     clear hpk hcall hq
     go_wp2_with fail
     refine HCL.out.mono ?_
     rintro r w2 ⟨hq1, hq2, ho2⟩
     have hor2 : Only w.heap.size xb w w2 := hor.trans (ho2.mono hor.size)
     cases q with
     | bad k =>
       have hr := hq2 k rfl
       subst hr
       have hq5 : q' = .bad k := by rw [HQ.out, allR_bad HA.out HQK.out]; rfl
       have HP := Lib.hid (NextPost.bad (x := x) (xb := xb) (j := jE) (k := k) hor2)
       clear hq1 hq2 ho2 hor2
       subst hq5
       go_wp2_with fail
       exact ⟨rfl, HP.out⟩
     | ok v =>
       obtain ⟨A2, c2, rfl, hv2, hof2, hx2, hB2⟩ := hq1 v rfl
       have hzx2 := ho2.size
       have hg12 := grown_of_only ho2
       have hpb : ∀ q, (Value.slice Ap ms.length cp).ownBlock = some q → w.heap.size + 1 ≤ q ∧ q < wr.heap.size := fun q hq => own_lt HR.out hq
       have HO3 : Hid ((w2.alloc (.cells #[.slice A2 v.length c2] 22)).ownsRow (w.heap.size + 1) 22 1 (.slice Ap ms.length cp) ms.length (flatG NsM.cells ms)) :=
         own_keep (HR.out.kept hg12 (.inr (fun h => by have := (hpb _ h).1; omega))) (by (repeat (first | assumption | exact Below.refl _ _ | apply Below.drew | apply below_drewN | (refine Below.alloc ?_ (by first | exact Nat.le_refl _ | omega | (simp; done) | (simp; omega)) _))))
       have HFR : Hid (NsFar (G3 xb (.slice Ap ms.length cp) (.slice none 0 0)) w2 ⟨A2, c2, v⟩) := ⟨(fun hne => by
         obtain ⟨b, o, e1, e2, e3, e4⟩ := hof2 hne
         refine ⟨b, o, e1, e2, fun hh => e3 ?_, e4⟩
         rcases hh with h | h | h
         · exact ⟨by omega, by omega⟩
         · have := hpb b h; exact ⟨by omega, by omega⟩
         · cases h), hv2.le, hv2.max⟩
       have HVO : Hid (valErr v = 0 ∧ NdOk v) := ⟨hv2.ok, hv2.nd⟩
       have HB2 := Lib.hid hB2
       have HN2 := Lib.hid (HN.out.only ho2 (by omega) (by omega))
       have HOR2 := Lib.hid hor2
       clear hq1 hq2 hv2 hof2 hx2 hB2 ho2 hor2
       go_wp2_with (at_builtin; refine wpList_append_own_at _ rfl (.tmp 35) (.tmp 38) 152 rfl (w.heap.size + 1) 22 i0 _ 1 24 Tryz.underlying152 hi hz0 hz1 hz2 rfl (by omega) _ ms.length (flatG NsM.cells ms) rfl HO3.out ⟨w2.heap.size, 0, none⟩ 1 1 [.slice A2 v.length c2] rfl rfl (cell_one_new _ _ _) (by simp [Value.oneCell']) (by unfold maxLen; omega) (by omega) (by simp; omega) ?_; intro pv6 w6 hown6 hgrow6 _ hloc6; obtain ⟨Ap6, cp6, hpv6, hcp6⟩ := own_sl hown6; subst hpv6)
       have hz6 : w2.heap.size + 1 ≤ w6.heap.size := by have := hgrow6.size; simpa using this
       have hk6 : ∀ k, k < w2.heap.size → (Value.slice Ap ms.length cp).ownBlock ≠ some k → w6.heap[k]? = w2.heap[k]? := fun k hk hne => (hgrow6.block k (by simp; omega) (fun e => hne e.symm)).trans (RowKit.Below.heap_alloc _ _ _ hk)
       have HB6 : Hid (Blk w6 xb 99 (x.cells (j + (ps.take (ms.length + 1)).flatten.length))) := (hk6 xb (by omega) (fun h => by have := (hpb _ h).1; omega)).trans HB2.out
       have HO6 : Hid (w6.ownsRow (w.heap.size + 1) 22 1 (.slice Ap6 (ms.length + 1) cp6) (ms ++ [(⟨A2, c2, v⟩ : NsM)]).length (flatG NsM.cells (ms ++ [(⟨A2, c2, v⟩ : NsM)]))) := by
         show World.ownsRow _ _ _ _ _ _ _
         rw [List.length_append, ns_snoc]; exact hown6
       have hg' : ∀ q, q < w2.heap.size → G3 xb (.slice Ap6 (ms.length + 1) cp6) (.slice none 0 0) q → G3 xb (.slice Ap ms.length cp) (.slice none 0 0) q := fun q hq h => by
         rcases h with h | h | h
         · exact .inl h
         · rcases hloc6 with h2 | h2
           · exact .inr (.inl (h2 ▸ h))
           · rw [h2] at h; injection h with h; simp at h; omega
         · exact .inr (.inr h)
       have HF6 : Hid (∀ y ∈ ms ++ [(⟨A2, c2, v⟩ : NsM)], NsFar (G3 xb (.slice Ap6 (ms.length + 1) cp6) (.slice none 0 0)) w6 y ∧ valErr y.e = 0 ∧ NdOk y.e) := fun y hy => by
         rcases List.mem_append.1 hy with hy | hy
         · exact ⟨((HF.out y hy).1.turn hzx2 (fun k hk hg => hg12.block k hk (fun h => by injection h with h; exact hg (.inl h))) (fun _ _ h => h)).turn (by omega) (fun k hk hg => hk6 k hk (fun h => hg (.inr (.inl h)))) hg', (HF.out y hy).2⟩
         · simp at hy; subst hy
           exact ⟨HFR.out.turn (by omega) (fun k hk hg => hk6 k hk (fun h => hg (.inr (.inl h)))) hg', HVO.out⟩
       have HA6 : Hid (allR (Q.take (ms.length + 1)) = .ok ((ms ++ [(⟨A2, c2, v⟩ : NsM)]).map NsM.e)) := by
         show _ = _
         rw [allR_snoc HA.out HQK.out, List.map_append]; rfl
       have HN6 : Hid (NdAt w6 w.heap.size 0 n) := by
         have hc : ∀ i, w6.cell? ⟨w.heap.size, i, none⟩ = w2.cell? ⟨w.heap.size, i, none⟩ := fun i => World.cell?_of_block (a := ⟨w.heap.size, i, none⟩) (hk6 w.heap.size (by omega) (fun h => by have := (hpb _ h).1; omega))
         exact ⟨(hc _).trans HN2.out.c0, (hc _).trans HN2.out.c1, (hc _).trans HN2.out.c2, (hc _).trans HN2.out.c3⟩
       have hor6 : Only w.heap.size xb w w6 := HOR2.out.trans ⟨hgrow6.os, hgrow6.tape, hgrow6.output, by omega, fun k hk hne => hk6 k (by have := HOR2.out.size; omega) (fun h => by have := (hpb _ h).1; omega)⟩
       have HL6 : (ms ++ [(⟨A2, c2, v⟩ : NsM)]).length = ms.length + 1 := by simp
       have HB7 : Hid (Blk w6 xb 99 (x.cells (j + (ps.take (ms ++ [(⟨A2, c2, v⟩ : NsM)]).length).flatten.length))) := by rw [HL6]; exact HB6
       have HA7 : Hid (allR (Q.take (ms ++ [(⟨A2, c2, v⟩ : NsM)]).length) = .ok ((ms ++ [(⟨A2, c2, v⟩ : NsM)]).map NsM.e)) := by rw [HL6]; exact HA6
       clear hown6 hgrow6 hloc6 hg' hk6 HL6 HA6 HB6 hg12
       go_wp2_with fail
       exact ⟨⟨ms ++ [⟨A2, c2, v⟩], rfl, by first | rfl | (simp; done) | go_num, by first | (simp; done) | (simp; omega), HA7, by simpa using HO6, by simpa using HF6, HB7, HN6, hor6, by omega⟩, by simp [intOf]; omega⟩
   · have tl : decide ((ms.length : Int) < n.n) = false := by rw [HNN.out]; simp; omega
     have hle : ps.length ≤ ms.length := by omega
     obtain ⟨-, Ap, cp, hpv, -, -, hps'⟩ := own_formG ns_ok HR.out
     subst hpv
     have hns : NssAt wr Ap ms := ⟨hps', fun y hy => (HF.out y hy).1.good⟩
     have hcol : Calls Tryz.prog 110 #[.int .i64 n.op, .slice none 0 0, .slice Ap ms.length cp] wr fun r w' => RsBack wr r w' (setR (ms.map NsM.e)) := by
       rw [HO.out]
       exact coll_set (.slice none 0 0) ms Ap cp wr HXR.out.err (Nat.lt_of_lt_of_le HXR.out.errB (Nat.le_trans (Nat.le_of_lt hxb) hor.size)) (by omega) (fun y hy => (HF.out y hy).2.1) (fun y hy => (HF.out y hy).2.2) hns
     have hq3 : q' = setR (ms.map NsM.e) := by
       have := HA.out
       rw [List.take_of_length_le (by rw [HQL.out]; exact hle)] at this
       rw [HQ.out, this]; rfl
     rw [← hq3] at hcol
     have HCO := Lib.hid hcol
     have HBE : Hid (Blk wr xb 99 (x.cells jE)) := by
       have := HB.out
       rw [List.take_of_length_le hle, ← HJE.out] at this
       exact this
     have HOR := Lib.hid hor
     clear hps' hns hcol hq3 HQ
     go_wp2_with fail
     refine HCO.out.mono ?_
     rintro r w3 hr3
     have hpost : NextPost x xb jE q' w r w3 := by
       obtain ⟨h1, h2, h3⟩ := hr3
       have ho3 : Only wr.heap.size xb wr w3 := Only.of_below h3 (Nat.le_refl _)
       refine ⟨fun v hv => ?_, h2, HOR.out.trans (ho3.mono HOR.out.size)⟩
       obtain ⟨A, c, e, g1, g2, g3, _, g5⟩ := h1 v hv
       refine ⟨A, c, e, g1, g2, fun hne => ?_, HBE.out.below h3 (by omega)⟩
       obtain ⟨b, o, e1, e2, e3⟩ := g3 hne
       exact ⟨b, o, e1, e2, by have := g5 b o e1; unfold gx; omega, e3⟩
     have HP := Lib.hid hpost
     obtain ⟨g1, g2, -⟩ := hr3
     clear hpost
     cases q' with
     | bad k =>
       have hr := g2 k rfl
       subst hr
       clear g1 g2
       go_wp2_with fail
       exact ⟨rfl, HP.out⟩
     | ok u =>
       obtain ⟨A2, c2', rfl, -⟩ := g1 u rfl
       clear g1 g2
       go_wp2_with fail
       go_ret
       exact HP.out
end Go.Proofs.YtpheiojmcafolaaGreatDoor
namespace Go.Proofs.YtpheiojmcafolaaGreatDoor
set_option maxRecDepth 100000
open Go.RowKit Go.Sort
structure NmS (xb a be oe : Nat) (x : Evl) (s : ByteArray) (W : World) : Prop where
 s0 : W.cell? ⟨xb, 8, none⟩ = some (.slice (some ⟨be, oe, none⟩) x.e.length x.eca)
 s1 : W.cell? ⟨xb, 9, none⟩ = some (.int .i64 a)
 s2 : W.cell? ⟨be, oe + a * 4 + 2, none⟩ = some (.string s)
theorem NmS.keep {xb a be oe : Nat} {x : Evl} {s : ByteArray} {W W' : World} (h : NmS xb a be oe x s W) (h1 : W'.heap[xb]? = W.heap[xb]?) (h2 : W'.heap[be]? = W.heap[be]?) : NmS xb a be oe x s W' :=
 ⟨(World.cell?_of_block (a := ⟨xb, 8, none⟩) h1).trans h.s0, (World.cell?_of_block (a := ⟨xb, 9, none⟩) h1).trans h.s1, (World.cell?_of_block (a := ⟨be, oe + a * 4 + 2, none⟩) h2).trans h.s2⟩
set_option maxHeartbeats 12800000 in
theorem made_rec (x : Evl) (xb j : Nat) (n : Nd) (ps : List (List Nd)) (rest : List Nd) (w : World) (ho : n.op = 6) (hn : n.n = ps.length) (hps : ps.length ≤ 199) (hp : ∀ p ∈ ps, Ex (.one true) p) (ih : ∀ p ∈ ps, NextOk x p.tail) (hx : EvIn x xb w) (hB : Blk w xb 99 (x.cells j)) (hd : x.e.drop j = ps.flatten ++ rest)
   (hnd : (ps.map fun p => (sH p).toList).Nodup) (hnm : ∀ p ∈ ps, nameErr (sH p).toList = 0) (hgo : ∀ vs : List (List Nd), vs.length = ps.length → (∀ v ∈ vs, valErr v = 0) → recGo ((ps.map sH).zip vs) [] = 0) :
   Calls Tryz.prog 88 #[.pointer (some ⟨xb, 0, none⟩), .agg #[.int .i64 n.op, .int .i64 n.n, .string n.s, .string n.t]] w (NextPost x xb (j + ps.flatten.length) ((allR (ps.map fun p => evX x.es x.q p.tail)).bind fun vs => recR ((ps.map sH).zip vs)) w) := by
 obtain ⟨i0, hi, hz0, hz1, hz2⟩ := info_parts ns_info
 obtain ⟨j0, hj, hy0, hy1, hy2⟩ := info_parts strn_info
 have hxb := hB.lt
 have t6 : (n.op == 6) = true := by simp [ho]
 obtain ⟨Q, hQ⟩ : ∃ Q : List (Rs (List Nd)), Q = ps.map (fun p => evX x.es x.q p.tail) := ⟨_, rfl⟩
 have hQl : Q.length = ps.length := by rw [hQ]; simp
 obtain ⟨q', hq'⟩ : ∃ q', q' = (allR Q).bind fun vs => recR ((ps.map sH).zip vs) := ⟨_, rfl⟩
 rw [← hQ, ← hq']
 obtain ⟨jE, hjE⟩ : ∃ jE, jE = j + ps.flatten.length := ⟨_, rfl⟩
 rw [← hjE]
 have HJE := Lib.hid hjE
 have HQ := Lib.hid hq'
 have hpf : ∀ p ∈ ps, ∃ f, p = f :: p.tail ∧ sH p = f.s := fun p hm => by
   obtain ⟨y, r, e, -⟩ := ex_ne (hp p hm)
   exact ⟨y, by rw [e]; rfl, by rw [e]; rfl⟩
 have hdk : ∀ k p, ps[k]? = some p → x.e.drop (j + (ps.take k).flatten.length) = p ++ ((ps.drop (k + 1)).flatten ++ rest) := fun k p hk => by
   rw [← List.drop_drop, hd, flat_split hk]; simp
 have HC := Lib.hid (fun (k : Nat) (p : List Nd) (hk : ps[k]? = some p) (W : World) (h1 : EvIn x xb W) (h2 : Blk W xb 99 (x.cells (j + (ps.take k).flatten.length + 1))) => (show ∃ q, Q[k]? = some q ∧ Calls Tryz.prog 52 #[.pointer (some ⟨xb, 0, none⟩)] W (NxG x xb (j + (ps.take (k + 1)).flatten.length) q W) from by
   have hm := List.mem_of_getElem? hk
   obtain ⟨f, hf, -⟩ := hpf p hm
   have hd' : x.e.drop (j + (ps.take k).flatten.length + 1) = p.tail ++ ((ps.drop (k + 1)).flatten ++ rest) := by
     rw [← List.drop_drop, hdk k p hk, hf]; simp
   refine ⟨evX x.es x.q p.tail, by rw [hQ]; simp [hk], ?_⟩
   have := (ih p hm).go (fld_tail (hp p hm)).1 h1 h2 hd'
   have e : j + (ps.take (k + 1)).flatten.length = j + (ps.take k).flatten.length + 1 + p.tail.length := by
     have : p.length = p.tail.length + 1 := by rw [hf]; simp
     rw [flat_step hk]; omega
   rw [e]
   exact this))
 have HH := Lib.hid (fun (k : Nat) (p : List Nd) (hk : ps[k]? = some p) => (show ∃ f : Nd, f.s = sH p ∧ x.e[j + (ps.take k).flatten.length]? = some f from by
   obtain ⟨f, hf, hs⟩ := hpf p (List.mem_of_getElem? hk)
   refine ⟨f, hs.symm, ?_⟩
   have := congrArg (fun l => l[0]?) (hdk k p hk)
   rw [hf] at this
   simpa [List.getElem?_drop] using this))
 have HO := Lib.hid ho
 have hN0 : NdAt (w.alloc (.cells #[.int .i64 n.op, .int .i64 n.n, .string n.s, .string n.t] 37)) w.heap.size 0 n := by
   have := nd_new w n
   exact ⟨this.c0, this.c1, this.c2, this.c3⟩
 have HN0 := Lib.hid hN0
 have HX := Lib.hid hx
 have HB0 := Lib.hid (hB.alloc (.cells #[.int .i64 n.op, .int .i64 n.n, .string n.s, .string n.t] 37))
 have HO0 := Lib.hid ((Only.refl w.heap.size xb w).alloc (Nat.le_refl _) (.cells #[.int .i64 n.op, .int .i64 n.n, .string n.s, .string n.t] 37))
 have HNN := Lib.hid hn
 have HQL := Lib.hid hQl
 have HEL := Lib.hid hx.el
 have hsz : ∀ p ∈ ps, (sH p).toList.length ≤ 140737488351232 := fun p hm => by
   obtain ⟨f, hf, hs⟩ := hpf p hm
   obtain ⟨k, hk⟩ := List.getElem?_of_mem hm
   have hfe : f ∈ x.e := List.mem_of_mem_drop (i := j + (ps.take k).flatten.length) (by rw [hdk k p hk, hf]; simp)
   rw [hs, toList_len]; exact (hx.ek f hfe).1
 have HSZ := Lib.hid hsz
 have HND := Lib.hid hnd
 have HNM := Lib.hid hnm
 have HGO := Lib.hid hgo
 clear hN0 hx hB hd ih hp hQ hq' ho hn hQl hjE hpf hdk hsz hnd hnm hgo
 go_enter Tryz.func88, Tryz.ntmps88
 go_wp2_with fail
 go_loopw [5, 6, 9] (fun nv pv iv wr => ∃ (ms : List NsM) (ns : List (List UInt8)) (a : Nat), iv = .int .i64 (ms.length : Nat) ∧ ms.length ≤ ps.length ∧ ns.length ≤ ms.length ∧ Hid (a = j + (ps.take ms.length).flatten.length) ∧ Hid (ns = (ps.take ms.length).map fun p => (sH p).toList) ∧ Hid (allR (Q.take ms.length) = .ok (ms.map NsM.e)) ∧
     Hid (wr.ownsRow (w.heap.size + 1) 22 1 pv ms.length (flatG NsM.cells ms)) ∧ Hid (wr.ownsRow (w.heap.size + 1) 9 1 nv ns.length (ns.map encStr)) ∧ Hid (∀ b, pv.ownBlock = some b → nv.ownBlock ≠ some b) ∧ Hid (∀ y ∈ ms, NsFar (G3 xb pv nv) wr y ∧ valErr y.e = 0 ∧ NdOk y.e) ∧
     Hid (Blk wr xb 99 (x.cells a)) ∧ Hid (NdAt wr w.heap.size 0 n) ∧ Only w.heap.size xb w wr ∧ w.heap.size + 1 ≤ wr.heap.size) (fun _ _ iv _ => ps.length - (intOf iv).toNat)
 case atStart =>
   exact ⟨[], [], j, rfl, by simp, by simp, by show _ = _; simp, by show _ = _; simp, by show _ = _; simp [allR], World.ownsRow_nil _ _ _ _, World.ownsRow_nil _ _ _ _, (fun b hb => by cases hb), (fun y hy => by cases hy), HB0.out, HN0.out, HO0.out, by simp⟩
 case round =>
   obtain ⟨ms, ns, a, rfl, hml, hnl, HAT, HNS, HA, HR, HON, HDJ, HF, HB, HN, hor, hzr⟩ := hrel
   have n0 : wr.cell? ⟨w.heap.size, 0, none⟩ = some (.int .i64 n.op) := HN.out.c0
   have hxr : EvIn x xb wr := HX.out.keep (hor.below (Nat.le_of_lt hxb) (Nat.le_refl _))
   have HXR := Lib.hid hxr
   clear hxr
   by_cases hlt : ms.length < ps.length
   · have tl : decide ((ms.length : Int) < n.n) = true := by rw [HNN.out]; simp; omega
     obtain ⟨p, hpk⟩ : ∃ p, ps[ms.length]? = some p := ⟨_, List.getElem?_eq_getElem hlt⟩
     obtain ⟨f, hfs, hfe⟩ := HH.out ms.length p hpk
     rw [← HAT.out] at hfe
     have hil : a < x.e.length := (List.getElem?_eq_some_iff.1 hfe).1
     obtain ⟨be, oe, hea, hbe, hcs⟩ := HXR.out.ex.at_ hil
     obtain ⟨-, -, f2, -⟩ := hcs a f hfe
     have hS0 : NmS xb a be oe x f.s wr.drew := ⟨by rw [← hea]; exact HB.out.cell 8, HB.out.cell 9, f2⟩
     have hia := node_at be oe x.e.length x.eca a hil
     obtain ⟨Ap, cp, hpv, hcp⟩ := own_sl HR.out
     subst hpv
     obtain ⟨An, cn, hnv, hcn⟩ := own_sl HON.out
     subst hnv
     have hae : a ≤ 200 := by have := HEL.out; omega
     have hbw : be < w.heap.size := Nat.lt_trans hbe hxb
     have hbd : RowKit.Below wr.heap.size wr wr.drew := (RowKit.Below.refl _ _).drew
     have hrd := own_keep HR.out hbd
     have hond := own_keep HON.out hbd
     have hfd : ∀ y ∈ ms, NsFar (G3 xb (.slice Ap ms.length cp) (.slice An ns.length cn)) wr.drew y ∧ valErr y.e = 0 ∧ NdOk y.e := fun y hy => ⟨(HF.out y hy).1.turn (Nat.le_refl _) (fun _ _ _ => rfl) (fun _ _ h => h), (HF.out y hy).2⟩
     have hBd := HB.out.drew
     have hNd := NdAt.drew HN.out
     have hod := hor.drew
     have hxd := HXR.out.drew
     have hzd : w.heap.size + 1 ≤ wr.drew.heap.size := hzr
     have HPK := Lib.hid hpk
     have HFS := Lib.hid hfs
     have HS0 := Lib.hid hS0
     have HHH : Hid (∀ w', Exists (fun u : World => w' = u)) := fun w' => ⟨w', rfl⟩
     clear hpk hfs hfe hcs hea f2 hS0 hbd
     go_wp2_with fail
     refine wp_region_ord (S := NmS xb a be oe x f.s) [(0, false), (1, false), (2, false), (3, false), (4, false), (5, false), (6, false), (7, false), (8, false), (9, false), (10, false), (11, false), (12, true), (13, true), (14, false)] (by kernel_rfl) (by kernel_rfl) (fun _ _ _ _ _ h => h) HS0.out (fun hW' => ?_)
     clear n0 hor hzr HR HON HF HB HN HXR HS0
     generalize hwd : wr.drew = wd at hrd hond hfd hBd hNd hod hxd hzd hW' ⊢
     clear hwd
     have HR := Lib.hid hrd
     have HON := Lib.hid hond
     have HF := Lib.hid hfd
     have HB := Lib.hid hBd
     have HN := Lib.hid hNd
     have HX2 := Lib.hid hxd
     have HSW := Lib.hid hW'
     clear hrd hond hfd hBd hNd hxd hW'
     simp only [ordOps, List.filterMap_cons, List.filterMap_nil, List.getElem?_cons_zero, List.getElem?_cons_succ, Option.map_some]
     (repeat (first | (refine hd_take (v := ?_) (by rfl) ?_ ?_; rotate_left; (focus (intro W hW; obtain ⟨s0, s1, s2⟩ := hW; go_simp; try with_reducible rfl)); simp only [Act.put, List.setIfInBounds_toArray, List.set_cons_zero, List.set_cons_succ]) | (refine hd_skip (by rfl) ?_; simp only [Act.put, List.setIfInBounds_toArray, List.set_cons_zero, List.set_cons_succ])))
     refine hd_call (fun K hK => ?_)
     go_simp
     have hzb : xb < wd.heap.size := by omega
     have hnb : ∀ q, (Value.slice An ns.length cn).ownBlock = some q → w.heap.size + 1 ≤ q ∧ q < wd.heap.size := fun q hq => own_lt HON.out hq
     have hpb : ∀ q, (Value.slice Ap ms.length cp).ownBlock = some q → w.heap.size + 1 ≤ q ∧ q < wd.heap.size := fun q hq => own_lt HR.out hq
     have hS1 : NmS xb a be oe x f.s (wd.alloc (.cells #[.string f.s] 9)) := HSW.out.keep (RowKit.Below.heap_alloc _ _ _ hzb) (RowKit.Below.heap_alloc _ _ _ (by omega))
     refine hK _ _ hS1 ?_
     clear hK K
     have ho1 : Hid ((wd.alloc (.cells #[.string f.s] 9)).ownsRow (w.heap.size + 1) 9 1 (.slice An ns.length cn) ns.length (ns.map encStr)) := own_keep HON.out (by (repeat (first | assumption | exact Below.refl _ _ | apply Below.drew | apply below_drewN | (refine Below.alloc ?_ (by first | exact Nat.le_refl _ | omega | (simp; done) | (simp; omega)) _))))
     refine hd_append_own_at (by rfl) (.tmp 14) (.tmp 26) 23 rfl (w.heap.size + 1) 9 j0 _ 1 16 Tryz.underlying23 hj hy0 hy1 hy2 rfl (by omega) (.slice An ns.length cn) ns.length (ns.map encStr) rfl ho1.out ⟨wd.heap.size, 0, none⟩ 1 1 [.string f.s] rfl rfl (cell_one_new _ _ _) (by simp [Value.oneCell']) (by unfold maxLen; omega) (by omega) (by simp; omega) ?_
     intro nv2 wB hown2 hgrow2 _ hloc2
     obtain ⟨An2, cn2, hnv2, hcn2⟩ := own_sl hown2
     subst hnv2
     have hzB : wd.heap.size + 1 ≤ wB.heap.size := by have := hgrow2.size; simpa using this
     have hkB : ∀ k, k < wd.heap.size → (Value.slice An ns.length cn).ownBlock ≠ some k → wB.heap[k]? = wd.heap[k]? := fun k hk hne => (hgrow2.block k (by simp; omega) (fun e => hne e.symm)).trans (RowKit.Below.heap_alloc _ _ _ hk)
     have HBB : Hid (Blk wB xb 99 (x.cells a)) := (hkB xb hzb (fun h => by have := (hnb _ h).1; omega)).trans HB.out
     have hSB : NmS xb a be oe x f.s wB := HSW.out.keep (hkB xb hzb (fun h => by have := (hnb _ h).1; omega)) (hkB be (by omega) (fun h => by have := (hnb _ h).1; omega))
     refine ⟨hSB, ?_⟩
     (repeat (first | (refine hd_take (v := ?_) (by rfl) ?_ ?_; rotate_left; (focus (intro W hW; obtain ⟨s0, s1, s2⟩ := hW; go_simp; try with_reducible rfl)); simp only [Act.put, List.setIfInBounds_toArray, List.set_cons_zero, List.set_cons_succ]) | (refine hd_skip (by rfl) ?_; simp only [Act.put, List.setIfInBounds_toArray, List.set_cons_zero, List.set_cons_succ])))
     refine hd_nil ?_
     clear hSB hS1
     have c9 : wB.cell? ⟨xb, 9, none⟩ = some (.int .i64 a) := HBB.out.cell 9
     have f9 : wB.frozen? ⟨xb, 9, none⟩ = false := HBB.out.frozen 9
     have hi1 : IntKind.wrap .i64 ((a : Int) + 1) = (a : Int) + 1 := IntWalk.i64_in _ (by omega)
     have HOB : Hid (wB.ownsRow (w.heap.size + 1) 22 1 (.slice Ap ms.length cp) ms.length (flatG NsM.cells ms)) :=
       (own_keep HR.out (by (repeat (first | assumption | exact Below.refl _ _ | apply Below.drew | apply below_drewN | (refine Below.alloc ?_ (by first | exact Nat.le_refl _ | omega | (simp; done) | (simp; omega)) _))) : RowKit.Below wd.heap.size wd (wd.alloc (.cells #[.string f.s] 9)))).kept hgrow2 (by
         cases hh : (Value.slice Ap ms.length cp).ownBlock with
         | none => exact .inl rfl
         | some q => exact .inr (fun h => HDJ.out q hh h.symm))
     have HONB : Hid (wB.ownsRow (w.heap.size + 1) 9 1 (.slice An2 (ns.length + 1) cn2) (ns ++ [f.s.toList]).length ((ns ++ [f.s.toList]).map encStr)) := by
       show World.ownsRow _ _ _ _ _ _ _
       rw [List.map_append, List.map_singleton, encStr_of, List.length_append]; exact hown2
     have HDB : Hid (∀ q, (Value.slice Ap ms.length cp).ownBlock = some q → (Value.slice An2 (ns.length + 1) cn2).ownBlock ≠ some q) := fun q hq h => by
       rcases hloc2 with h2 | h2
       · exact HDJ.out q hq (h2 ▸ h)
       · rw [h2] at h; injection h with h; have := (hpb q hq).2; simp at h; omega
     have HFB : Hid (∀ y ∈ ms, NsFar (G3 xb (.slice Ap ms.length cp) (.slice An2 (ns.length + 1) cn2)) wB y ∧ valErr y.e = 0 ∧ NdOk y.e) := fun y hy => ⟨(HF.out y hy).1.turn (by omega) (fun k hk hg => hkB k hk (fun h => hg (.inr (.inr h)))) (fun q hq h => by
       rcases h with h | h | h
       · exact .inl h
       · exact .inr (.inl h)
       · rcases hloc2 with h2 | h2
         · exact .inr (.inr (h2 ▸ h))
         · rw [h2] at h; injection h with h; simp at h; omega), (HF.out y hy).2⟩
     have HNB : Hid (NdAt wB w.heap.size 0 n) := by
       have hc : ∀ i, wB.cell? ⟨w.heap.size, i, none⟩ = wd.cell? ⟨w.heap.size, i, none⟩ := fun i => World.cell?_of_block (a := ⟨w.heap.size, i, none⟩) (hkB w.heap.size (by omega) (fun h => by have := (hnb _ h).1; omega))
       exact ⟨(hc _).trans HN.out.c0, (hc _).trans HN.out.c1, (hc _).trans HN.out.c2, (hc _).trans HN.out.c3⟩
     have hoB : Only w.heap.size xb w wB := hod.trans ⟨hgrow2.os, hgrow2.tape, hgrow2.output, by omega, fun k hk _ => hkB k (by omega) (fun h => by have := (hnb _ h).1; omega)⟩
     have HOO := Lib.hid hoB
     clear hown2 hgrow2 hloc2 ho1 hkB hoB hod
     go_wp2_with fail
     obtain ⟨wX, hwX⟩ : ∃ wX, wB.setCell ⟨xb, 9, none⟩ (.int .i64 ((a : Int) + 1)) = wX := ⟨_, rfl⟩
     have HBX : Hid (Blk wX xb 99 (x.cells (a + 1))) := by rw [← hwX]; exact Evl.step HBB.out
     have hgX : wB.grownBy wX (some xb) := by rw [← hwX]; exact ⟨rfl, rfl, rfl, by simp [World.setCell], fun k hk hne => RowKit.Below.heap_setCell _ _ _ _ (fun h => hne (by simp at h; rw [h]))⟩
     have hoX : Only w.heap.size xb w wX := by rw [← hwX]; exact HOO.out.setCell (Or.inl rfl) _
     rw [hwX]
     clear hwX c9 f9
     have hzX := hgX.size
     have HOX : Hid (wX.ownsRow (w.heap.size + 1) 22 1 (.slice Ap ms.length cp) ms.length (flatG NsM.cells ms)) := HOB.out.kept hgX (.inr (fun h => by have := (hpb _ h).1; omega))
     have hnb2 : ∀ q, (Value.slice An2 (ns.length + 1) cn2).ownBlock = some q → w.heap.size + 1 ≤ q ∧ q < wB.heap.size := fun q hq => own_lt HONB.out hq
     have HONX : Hid (wX.ownsRow (w.heap.size + 1) 9 1 (.slice An2 (ns.length + 1) cn2) (ns ++ [f.s.toList]).length ((ns ++ [f.s.toList]).map encStr)) := HONB.out.kept hgX (.inr (fun h => by have := (hnb2 _ h).1; omega))
     have HFX : Hid (∀ y ∈ ms, NsFar (G3 xb (.slice Ap ms.length cp) (.slice An2 (ns.length + 1) cn2)) wX y ∧ valErr y.e = 0 ∧ NdOk y.e) := fun y hy => ⟨(HFB.out y hy).1.turn hgX.size (fun k hk hg => hgX.block k hk (fun h => by injection h with h; exact hg (.inl h))) (fun _ _ h => h), (HFB.out y hy).2⟩
     have HNX : Hid (NdAt wX w.heap.size 0 n) := by
       have hc : ∀ i, wX.cell? ⟨w.heap.size, i, none⟩ = wB.cell? ⟨w.heap.size, i, none⟩ := fun i => World.cell?_of_block (a := ⟨w.heap.size, i, none⟩) (hgX.block w.heap.size (by omega) (fun h => by injection h with h; omega))
       exact ⟨(hc _).trans HNB.out.c0, (hc _).trans HNB.out.c1, (hc _).trans HNB.out.c2, (hc _).trans HNB.out.c3⟩
     have hxX : EvIn x xb wX := HX.out.keep (hoX.below (Nat.le_of_lt hxb) (Nat.le_refl _))
     obtain ⟨q, hq, hcall⟩ := HC.out ms.length p HPK.out wX hxX (by rw [← HAT.out]; exact HBX.out)
     have HCL := Lib.hid hcall
     have HQK := Lib.hid hq
     have HOX2 := Lib.hid hoX
     clear hcall hq hxX HOB HONB HFB HNB hgX HBB HOO hoX HBX HR HON HF HB HN HX2 HSW
     refine HCL.out.mono ?_
     rintro r w2 ⟨hq1, hq2, ho2⟩
     have hor2 : Only w.heap.size xb w w2 := HOX2.out.trans (ho2.mono HOX2.out.size)
     cases q with
     | bad k =>
       have hr := hq2 k rfl
       subst hr
       have hq5 : q' = .bad k := by rw [HQ.out, allR_bad HA.out HQK.out]; rfl
       have HP := Lib.hid (NextPost.bad (x := x) (xb := xb) (j := jE) (k := k) hor2)
       clear hq1 hq2 ho2 hor2
       subst hq5
       go_wp2_with fail
       exact ⟨rfl, HP.out⟩
     | ok v =>
       obtain ⟨A2, c2, rfl, hv2, hof2, hx2, hB2⟩ := hq1 v rfl
       have hzx2 := ho2.size
       have hg12 := grown_of_only ho2
       have hnbX : ∀ q, (Value.slice An2 (ns.length + 1) cn2).ownBlock = some q → w.heap.size + 1 ≤ q ∧ q < wX.heap.size := fun q hq => own_lt HONX.out hq
       have hpbX : ∀ q, (Value.slice Ap ms.length cp).ownBlock = some q → w.heap.size + 1 ≤ q ∧ q < wX.heap.size := fun q hq => own_lt HOX.out hq
       have HO3 : Hid ((w2.alloc (.cells #[.slice A2 v.length c2] 22)).ownsRow (w.heap.size + 1) 22 1 (.slice Ap ms.length cp) ms.length (flatG NsM.cells ms)) :=
         own_keep (HOX.out.kept hg12 (.inr (fun h => by have := (hpbX _ h).1; omega))) (by (repeat (first | assumption | exact Below.refl _ _ | apply Below.drew | apply below_drewN | (refine Below.alloc ?_ (by first | exact Nat.le_refl _ | omega | (simp; done) | (simp; omega)) _))))
       have HON3 : Hid ((w2.alloc (.cells #[.slice A2 v.length c2] 22)).ownsRow (w.heap.size + 1) 9 1 (.slice An2 (ns.length + 1) cn2) (ns ++ [f.s.toList]).length ((ns ++ [f.s.toList]).map encStr)) :=
         own_keep (HONX.out.kept hg12 (.inr (fun h => by have := (hnbX _ h).1; omega))) (by (repeat (first | assumption | exact Below.refl _ _ | apply Below.drew | apply below_drewN | (refine Below.alloc ?_ (by first | exact Nat.le_refl _ | omega | (simp; done) | (simp; omega)) _))))
       have HFR : Hid (NsFar (G3 xb (.slice Ap ms.length cp) (.slice An2 (ns.length + 1) cn2)) w2 ⟨A2, c2, v⟩) := ⟨(fun hne => by
         obtain ⟨b, o, e1, e2, e3, e4⟩ := hof2 hne
         refine ⟨b, o, e1, e2, fun hh => e3 ?_, e4⟩
         rcases hh with h | h | h
         · exact ⟨by omega, by omega⟩
         · have := hpbX b h; exact ⟨by omega, by omega⟩
         · have := hnbX b h; exact ⟨by omega, by omega⟩), hv2.le, hv2.max⟩
       have HVO : Hid (valErr v = 0 ∧ NdOk v) := ⟨hv2.ok, hv2.nd⟩
       have HB2 := Lib.hid hB2
       have HN2 := Lib.hid (HNX.out.only ho2 (by omega) (by omega))
       have HOR2 := Lib.hid hor2
       clear hq1 hq2 hv2 hof2 hx2 hB2 ho2 hor2
       go_wp2_with (at_builtin; refine wpList_append_own_at _ rfl (.tmp 35) (.tmp 38) 152 rfl (w.heap.size + 1) 22 i0 _ 1 24 Tryz.underlying152 hi hz0 hz1 hz2 rfl (by omega) _ ms.length (flatG NsM.cells ms) rfl HO3.out ⟨w2.heap.size, 0, none⟩ 1 1 [.slice A2 v.length c2] rfl rfl (cell_one_new _ _ _) (by simp [Value.oneCell']) (by unfold maxLen; omega) (by omega) (by simp; omega) ?_; intro pv6 w6 hown6 hgrow6 _ hloc6; obtain ⟨Ap6, cp6, hpv6, hcp6⟩ := own_sl hown6; subst hpv6)
       have hz6 : w2.heap.size + 1 ≤ w6.heap.size := by have := hgrow6.size; simpa using this
       have hk6 : ∀ k, k < w2.heap.size → (Value.slice Ap ms.length cp).ownBlock ≠ some k → w6.heap[k]? = w2.heap[k]? := fun k hk hne => (hgrow6.block k (by simp; omega) (fun e => hne e.symm)).trans (RowKit.Below.heap_alloc _ _ _ hk)
       have HB6 : Hid (Blk w6 xb 99 (x.cells (j + (ps.take (ms.length + 1)).flatten.length))) := (hk6 xb (by omega) (fun h => by have := (hpb _ h).1; omega)).trans HB2.out
       have HO6 : Hid (w6.ownsRow (w.heap.size + 1) 22 1 (.slice Ap6 (ms.length + 1) cp6) (ms ++ [(⟨A2, c2, v⟩ : NsM)]).length (flatG NsM.cells (ms ++ [(⟨A2, c2, v⟩ : NsM)]))) := by
         show World.ownsRow _ _ _ _ _ _ _
         rw [List.length_append, ns_snoc]; exact hown6
       have HON6 : Hid (w6.ownsRow (w.heap.size + 1) 9 1 (.slice An2 (ns.length + 1) cn2) (ns ++ [f.s.toList]).length ((ns ++ [f.s.toList]).map encStr)) := HON3.out.kept hgrow6 (by
         cases hh : (Value.slice An2 (ns.length + 1) cn2).ownBlock with
         | none => exact .inl rfl
         | some q => exact .inr (fun h => HDB.out q h.symm hh))
       have HD6 : Hid (∀ q, (Value.slice Ap6 (ms.length + 1) cp6).ownBlock = some q → (Value.slice An2 (ns.length + 1) cn2).ownBlock ≠ some q) := fun q hq h => by
         rcases hloc6 with h2 | h2
         · exact HDB.out q (h2 ▸ hq) h
         · rw [h2] at hq; injection hq with hq; have := (hnbX q h).2; simp at hq; omega
       have hg' : ∀ q, q < w2.heap.size → G3 xb (.slice Ap6 (ms.length + 1) cp6) (.slice An2 (ns.length + 1) cn2) q → G3 xb (.slice Ap ms.length cp) (.slice An2 (ns.length + 1) cn2) q := fun q hq h => by
         rcases h with h | h | h
         · exact .inl h
         · rcases hloc6 with h2 | h2
           · exact .inr (.inl (h2 ▸ h))
           · rw [h2] at h; injection h with h; simp at h; omega
         · exact .inr (.inr h)
       have HF6 : Hid (∀ y ∈ ms ++ [(⟨A2, c2, v⟩ : NsM)], NsFar (G3 xb (.slice Ap6 (ms.length + 1) cp6) (.slice An2 (ns.length + 1) cn2)) w6 y ∧ valErr y.e = 0 ∧ NdOk y.e) := fun y hy => by
         rcases List.mem_append.1 hy with hy | hy
         · exact ⟨((HFX.out y hy).1.turn hzx2 (fun k hk hg => hg12.block k hk (fun h => by injection h with h; exact hg (.inl h))) (fun _ _ h => h)).turn (by omega) (fun k hk hg => hk6 k hk (fun h => hg (.inr (.inl h)))) hg', (HFX.out y hy).2⟩
         · simp at hy; subst hy
           exact ⟨HFR.out.turn (by omega) (fun k hk hg => hk6 k hk (fun h => hg (.inr (.inl h)))) hg', HVO.out⟩
       have HN6 : Hid (NdAt w6 w.heap.size 0 n) := by
         have hc : ∀ i, w6.cell? ⟨w.heap.size, i, none⟩ = w2.cell? ⟨w.heap.size, i, none⟩ := fun i => World.cell?_of_block (a := ⟨w.heap.size, i, none⟩) (hk6 w.heap.size (by omega) (fun h => by have := (hpb _ h).1; omega))
         exact ⟨(hc _).trans HN2.out.c0, (hc _).trans HN2.out.c1, (hc _).trans HN2.out.c2, (hc _).trans HN2.out.c3⟩
       have hor6 : Only w.heap.size xb w w6 := HOR2.out.trans ⟨hgrow6.os, hgrow6.tape, hgrow6.output, by omega, fun k hk hne => hk6 k (by have := HOR2.out.size; omega) (fun h => by have := (hpb _ h).1; omega)⟩
       have HL6 : (ms ++ [(⟨A2, c2, v⟩ : NsM)]).length = ms.length + 1 := by simp
       have HNS6 : Hid (ns ++ [f.s.toList] = (ps.take (ms ++ [(⟨A2, c2, v⟩ : NsM)]).length).map fun p => (sH p).toList) := by
         show _ = _
         rw [HL6, List.take_add_one, HPK.out, HNS.out, HFS.out]; simp
       have HA7 : Hid (allR (Q.take (ms ++ [(⟨A2, c2, v⟩ : NsM)]).length) = .ok ((ms ++ [(⟨A2, c2, v⟩ : NsM)]).map NsM.e)) := by
         show _ = _
         rw [HL6, allR_snoc HA.out HQK.out, List.map_append]; rfl
       have HAT7 : Hid (j + (ps.take (ms.length + 1)).flatten.length = j + (ps.take (ms ++ [(⟨A2, c2, v⟩ : NsM)]).length).flatten.length) := by show _ = _; rw [HL6]
       clear hown6 hgrow6 hloc6 hg' hk6 HL6 hg12
       go_wp2_with fail
       exact ⟨⟨ms ++ [⟨A2, c2, v⟩], ns ++ [f.s.toList], j + (ps.take (ms.length + 1)).flatten.length, by first | rfl | (simp; done) | go_num, by first | (simp; done) | (simp; omega), by first | (simp; done) | (simp; omega), HAT7, HNS6, HA7, by simpa using HO6, by simpa using HON6, HD6, by simpa using HF6, HB6, HN6, hor6, by omega⟩, by simp [intOf]; omega⟩
   · have tl : decide ((ms.length : Int) < n.n) = false := by rw [HNN.out]; simp; omega
     have hle : ps.length ≤ ms.length := by omega
     obtain ⟨-, Ap, cp, hpv, -, -, hps'⟩ := own_formG ns_ok HR.out
     subst hpv
     obtain ⟨An, cn, hnv, hss⟩ := own_strs HON.out
     subst hnv
     have hns : NssAt wr Ap ms := ⟨hps', fun y hy => (HF.out y hy).1.good⟩
     have hns' : ns = ps.map fun p => (sH p).toList := by
       have := HNS.out
       rw [List.take_of_length_le hle] at this
       exact this
     have hbs : ns.map bsL = ps.map sH := by rw [hns', List.map_map]; exact List.map_congr_left fun p _ => bsL_of (sH p)
     have hlen : ms.length = ns.length := by rw [hns', List.length_map]; omega
     have hmem : ∀ l ∈ ns, ∃ p ∈ ps, l = (sH p).toList := fun l hl => by
       rw [hns'] at hl
       obtain ⟨p, hm, e⟩ := List.mem_map.1 hl
       exact ⟨p, hm, e.symm⟩
     have hcol : Calls Tryz.prog 110 #[.int .i64 n.op, .slice An ns.length cn, .slice Ap ms.length cp] wr fun r w' => RsBack wr r w' (recR ((ps.map sH).zip (ms.map NsM.e))) := by
       rw [HO.out, ← hbs]
       exact coll_rec ns ms An Ap cn cp wr HXR.out.err (Nat.lt_of_lt_of_le HXR.out.errB (Nat.le_trans (Nat.le_of_lt hxb) hor.size)) hlen (by omega) (by rw [hns']; exact HND.out)
         (fun l hl => by obtain ⟨p, hm, rfl⟩ := hmem l hl; exact HSZ.out p hm) (fun l hl => by obtain ⟨p, hm, rfl⟩ := hmem l hl; exact HNM.out p hm) (fun y hy => (HF.out y hy).2)
         (by rw [hbs]; exact HGO.out _ (by rw [List.length_map]; omega) (fun v hv => by obtain ⟨y, hy, rfl⟩ := List.mem_map.1 hv; exact (HF.out y hy).2.1)) hss hns
     have hq3 : q' = recR ((ps.map sH).zip (ms.map NsM.e)) := by
       have := HA.out
       rw [List.take_of_length_le (by rw [HQL.out]; exact hle)] at this
       rw [HQ.out, this]; rfl
     rw [← hq3] at hcol
     have HCO := Lib.hid hcol
     have HBE : Hid (Blk wr xb 99 (x.cells jE)) := by
       have := HB.out
       have e := HAT.out
       rw [List.take_of_length_le hle, ← HJE.out] at e
       rw [e] at this
       exact this
     have HOR := Lib.hid hor
     clear hps' hns hcol hq3 HQ hns' hbs hlen hmem hss
     go_wp2_with fail
     refine HCO.out.mono ?_
     rintro r w3 hr3
     have hpost : NextPost x xb jE q' w r w3 := by
       obtain ⟨h1, h2, h3⟩ := hr3
       have ho3 : Only wr.heap.size xb wr w3 := Only.of_below h3 (Nat.le_refl _)
       refine ⟨fun v hv => ?_, h2, HOR.out.trans (ho3.mono HOR.out.size)⟩
       obtain ⟨A, c, e, g1, g2, g3, _, g5⟩ := h1 v hv
       refine ⟨A, c, e, g1, g2, fun hne => ?_, HBE.out.below h3 (by omega)⟩
       obtain ⟨b, o, e1, e2, e3⟩ := g3 hne
       exact ⟨b, o, e1, e2, by have := g5 b o e1; unfold gx; omega, e3⟩
     have HP := Lib.hid hpost
     obtain ⟨g1, g2, -⟩ := hr3
     clear hpost
     cases q' with
     | bad k =>
       have hr := g2 k rfl
       subst hr
       clear g1 g2
       go_wp2_with fail
       exact ⟨rfl, HP.out⟩
     | ok u =>
       obtain ⟨A2, c2', rfl, -⟩ := g1 u rfl
       clear g1 g2
       go_wp2_with fail
       go_ret
       exact HP.out
end Go.Proofs.YtpheiojmcafolaaGreatDoor
namespace Go.Proofs.YtpheiojmcafolaaGreatDoor
set_option maxRecDepth 100000
open Go.RowKit Go.Sort
set_option maxHeartbeats 6400000 in
theorem next_5 (x : Evl) (n : Nd) (ps : List (List Nd)) (ho : n.op = 5) (hnn : n.n = ps.length) (hps : ps.length ≤ 199) (hp : ∀ p ∈ ps, Ex (.one false) p) (ih : ∀ p ∈ ps, NextOk x p) : NextOk x (n :: ps.flatten) := by
 intro i xb rest w hdr hx hB
 have hn : x.e[i]? = some n := by
   have := congrArg (fun l => l[0]?) hdr
   simpa [List.getElem?_drop] using this
 have hil : i < x.e.length := (List.getElem?_eq_some_iff.1 hn).1
 have hxb := hB.lt
 obtain ⟨be, oe, hea, hbe, hcs⟩ := hx.ex.at_ hil
 obtain ⟨n0, n1, n2, n3⟩ := hcs i n hn
 have hS0 : NxS xb i be oe x n w w.drew := ⟨by rw [← hea]; exact hB.cell 8, hB.cell 9, n0, n1, n2, n3⟩
 have hbw : be < w.heap.size := Nat.lt_trans hbe hxb
 have HS0 := Lib.hid (hS0.alloc hxb hbw)
 have HS1 := Lib.hid hS0
 have hia := node_at be oe x.e.length x.eca i hil
 have HDR := Lib.hid hdr
 have hni := nx_start (n := n) hx hB
 have HNI := Lib.hid hni
 have h9 : w.cell? ⟨xb, 9, none⟩ = some (.int .i64 i) := hS0.s1
 have hf9 : w.frozen? ⟨xb, 9, none⟩ = false := hB.frozen 9
 have hi1 : IntKind.wrap .i64 ((i : Int) + 1) = (i : Int) + 1 := by
   have := hx.el
   exact IntWalk.i64_in _ (by omega)
 have hni0 := hni.drew
 have hdr1 : x.e.drop (i + 1) = ps.flatten ++ rest := by
   have := congrArg List.tail hdr
   simpa [List.tail_drop] using this
 have hns : n.s.size ≤ 140737488351232 := (hx.ek n (List.mem_of_getElem? hn)).1
 clear hcs n0 n1 n2 n3 hea hn hx hB hdr hS0 hni HDR
 have t1 : (n.op == 1) = false := by simp [ho]
 have t2 : (n.op == 2) = false := by simp [ho]
 have t3 : (n.op == 3) = false := by simp [ho]
 have t4 : (n.op == 4) = false := by simp [ho]
 have t8 : (n.op == 8) = false := by simp [ho]
 have t11 : (n.op == 11) = false := by simp [ho]
 have t12 : (n.op == 12) = false := by simp [ho]
 have t13 : (n.op == 13) = false := by simp [ho]
 have t5 : (n.op == 5) = true := by simp [ho]
 have t6 : (n.op == 6) = false := by simp [ho]
 have t9 : (n.op == 9) = false := by simp [ho]
 have t10 : (n.op == 10) = false := by simp [ho]
 have t21 : (n.op == 21) = false := by simp [ho]
 have t22 : (n.op == 22) = false := by simp [ho]
 have t23 : (n.op == 23) = false := by simp [ho]
 have t24 : (n.op == 24) = false := by simp [ho]
 have hlen : i + (n :: ps.flatten).length = i + 1 + ps.flatten.length := by rw [List.length_cons]; omega
 have hcall := made_set x xb (i + 1) n ps rest (nw w xb i n).drew ho hnn hps hp ih hni0.ev hni0.blk hdr1
 have hev : evX x.es x.q (n :: ps.flatten) = (allR (ps.map (evX x.es x.q))).bind setR := by
   rw [evX_node x.es x.q (by rw [show (n.op == 6) = false by simp [ho]]; exact hp)]
   unfold nodeR
   rw [if_neg (by omega), if_neg (by omega), show (n.op == 5) = true by simp [ho], show (n.op == 6) = false by simp [ho]]
 rw [hlen, hev]
 generalize i + 1 + ps.flatten.length = j2 at hcall ⊢
 generalize (allR (ps.map (evX x.es x.q))).bind setR = q at hcall ⊢
 unfold nw at hcall
 have HA := Lib.hid hcall
 clear hcall hni0 hdr1 ho hns hnn hps hp ih hlen hev
 go_enter Tryz.func52, Tryz.ntmps52
 go_wp2_with fail
 refine wp_region_ord (S := NxS xb i be oe x n w) [(0, false), (1, false), (2, false), (3, false), (4, false), (5, false), (6, false), (7, false), (8, false), (9, false), (10, true), (11, true)] (by kernel_rfl) (by kernel_rfl) (fun _ _ _ _ _ h => h) HS1.out (fun hW' => ?_)
 simp only [ordOps, List.filterMap_cons, List.filterMap_nil, List.getElem?_cons_zero, List.getElem?_cons_succ, Option.map_some]
 (repeat (first | (refine hd_take (v := ?_) (by rfl) ?_ ?_; rotate_left; (focus (intro W hW; obtain ⟨s0, s1, s2, s3, s4, s5⟩ := hW; go_simp; try with_reducible rfl)); simp only [Act.put, List.setIfInBounds_toArray, List.set_cons_zero, List.set_cons_succ]) | (refine hd_skip (by rfl) ?_; simp only [Act.put, List.setIfInBounds_toArray, List.set_cons_zero, List.set_cons_succ])))
 clear hW'
 refine hd_call (fun K hK => ?_)
 go_simp
 refine hK _ _ (HS0.out _) ?_
 clear hK K
 refine hd_call (fun K hK => ?_)
 go_simp
 refine hK _ _ (HS0.out _) ?_
 clear hK K
 refine hd_nil ?_
 go_wp2_with fail
 refine HA.out.mono ?_
 rintro r w1 hr2
 have hpost := NextPost.up HNI.out.drew hr2
 obtain ⟨g1, g2, -⟩ := hr2
 have HP := Lib.hid hpost
 clear hpost
 cases q with
 | bad k =>
   have hr := g2 k rfl
   subst hr
   clear g1 g2
   go_wp2_with fail
   exact ⟨rfl, HP.out⟩
 | ok u =>
   obtain ⟨A2, c2', rfl, -⟩ := g1 u rfl
   clear g1 g2
   go_wp2_with fail
   go_ret
   exact HP.out
set_option maxHeartbeats 6400000 in
theorem next_6 (x : Evl) (n : Nd) (ps : List (List Nd)) (ho : n.op = 6) (hnn : n.n = ps.length) (hps : ps.length ≤ 199) (hp : ∀ p ∈ ps, Ex (.one true) p) (ih : ∀ p ∈ ps, NextOk x p.tail)
   (hnd : (ps.map fun p => (sH p).toList).Nodup) (hnm : ∀ p ∈ ps, nameErr (sH p).toList = 0) (hgo : ∀ vs : List (List Nd), vs.length = ps.length → (∀ v ∈ vs, valErr v = 0) → recGo ((ps.map sH).zip vs) [] = 0) : NextOk x (n :: ps.flatten) := by
 intro i xb rest w hdr hx hB
 have hn : x.e[i]? = some n := by
   have := congrArg (fun l => l[0]?) hdr
   simpa [List.getElem?_drop] using this
 have hil : i < x.e.length := (List.getElem?_eq_some_iff.1 hn).1
 have hxb := hB.lt
 obtain ⟨be, oe, hea, hbe, hcs⟩ := hx.ex.at_ hil
 obtain ⟨n0, n1, n2, n3⟩ := hcs i n hn
 have hS0 : NxS xb i be oe x n w w.drew := ⟨by rw [← hea]; exact hB.cell 8, hB.cell 9, n0, n1, n2, n3⟩
 have hbw : be < w.heap.size := Nat.lt_trans hbe hxb
 have HS0 := Lib.hid (hS0.alloc hxb hbw)
 have HS1 := Lib.hid hS0
 have hia := node_at be oe x.e.length x.eca i hil
 have HDR := Lib.hid hdr
 have hni := nx_start (n := n) hx hB
 have HNI := Lib.hid hni
 have h9 : w.cell? ⟨xb, 9, none⟩ = some (.int .i64 i) := hS0.s1
 have hf9 : w.frozen? ⟨xb, 9, none⟩ = false := hB.frozen 9
 have hi1 : IntKind.wrap .i64 ((i : Int) + 1) = (i : Int) + 1 := by
   have := hx.el
   exact IntWalk.i64_in _ (by omega)
 have hni0 := hni.drew
 have hdr1 : x.e.drop (i + 1) = ps.flatten ++ rest := by
   have := congrArg List.tail hdr
   simpa [List.tail_drop] using this
 have hns : n.s.size ≤ 140737488351232 := (hx.ek n (List.mem_of_getElem? hn)).1
 clear hcs n0 n1 n2 n3 hea hn hx hB hdr hS0 hni HDR
 have t1 : (n.op == 1) = false := by simp [ho]
 have t2 : (n.op == 2) = false := by simp [ho]
 have t3 : (n.op == 3) = false := by simp [ho]
 have t4 : (n.op == 4) = false := by simp [ho]
 have t8 : (n.op == 8) = false := by simp [ho]
 have t11 : (n.op == 11) = false := by simp [ho]
 have t12 : (n.op == 12) = false := by simp [ho]
 have t13 : (n.op == 13) = false := by simp [ho]
 have t5 : (n.op == 5) = false := by simp [ho]
 have t6 : (n.op == 6) = true := by simp [ho]
 have t9 : (n.op == 9) = false := by simp [ho]
 have t10 : (n.op == 10) = false := by simp [ho]
 have t21 : (n.op == 21) = false := by simp [ho]
 have t22 : (n.op == 22) = false := by simp [ho]
 have t23 : (n.op == 23) = false := by simp [ho]
 have t24 : (n.op == 24) = false := by simp [ho]
 have hlen : i + (n :: ps.flatten).length = i + 1 + ps.flatten.length := by rw [List.length_cons]; omega
 have hcall := made_rec x xb (i + 1) n ps rest (nw w xb i n).drew ho hnn hps hp ih hni0.ev hni0.blk hdr1 hnd hnm hgo
 have hev : evX x.es x.q (n :: ps.flatten) = (allR (ps.map fun p => evX x.es x.q p.tail)).bind fun vs => recR ((ps.map sH).zip vs) := by
   rw [evX_node x.es x.q (by rw [show (n.op == 6) = true by simp [ho]]; exact hp)]
   unfold nodeR
   rw [if_neg (by omega), if_neg (by omega), show (n.op == 5) = false by simp [ho], show (n.op == 6) = true by simp [ho]]
 rw [hlen, hev]
 generalize i + 1 + ps.flatten.length = j2 at hcall ⊢
 generalize ((allR (ps.map fun p => evX x.es x.q p.tail)).bind fun vs => recR ((ps.map sH).zip vs)) = q at hcall ⊢
 unfold nw at hcall
 have HA := Lib.hid hcall
 clear hcall hni0 hdr1 ho hns hnn hps hp ih hnd hnm hgo hlen hev
 go_enter Tryz.func52, Tryz.ntmps52
 go_wp2_with fail
 refine wp_region_ord (S := NxS xb i be oe x n w) [(0, false), (1, false), (2, false), (3, false), (4, false), (5, false), (6, false), (7, false), (8, false), (9, false), (10, true), (11, true)] (by kernel_rfl) (by kernel_rfl) (fun _ _ _ _ _ h => h) HS1.out (fun hW' => ?_)
 simp only [ordOps, List.filterMap_cons, List.filterMap_nil, List.getElem?_cons_zero, List.getElem?_cons_succ, Option.map_some]
 (repeat (first | (refine hd_take (v := ?_) (by rfl) ?_ ?_; rotate_left; (focus (intro W hW; obtain ⟨s0, s1, s2, s3, s4, s5⟩ := hW; go_simp; try with_reducible rfl)); simp only [Act.put, List.setIfInBounds_toArray, List.set_cons_zero, List.set_cons_succ]) | (refine hd_skip (by rfl) ?_; simp only [Act.put, List.setIfInBounds_toArray, List.set_cons_zero, List.set_cons_succ])))
 clear hW'
 refine hd_call (fun K hK => ?_)
 go_simp
 refine hK _ _ (HS0.out _) ?_
 clear hK K
 refine hd_call (fun K hK => ?_)
 go_simp
 refine hK _ _ (HS0.out _) ?_
 clear hK K
 refine hd_nil ?_
 go_wp2_with fail
 refine HA.out.mono ?_
 rintro r w1 hr2
 have hpost := NextPost.up HNI.out.drew hr2
 obtain ⟨g1, g2, -⟩ := hr2
 have HP := Lib.hid hpost
 clear hpost
 cases q with
 | bad k =>
   have hr := g2 k rfl
   subst hr
   clear g1 g2
   go_wp2_with fail
   exact ⟨rfl, HP.out⟩
 | ok u =>
   obtain ⟨A2, c2', rfl, -⟩ := g1 u rfl
   clear g1 g2
   go_wp2_with fail
   go_ret
   exact HP.out
end Go.Proofs.YtpheiojmcafolaaGreatDoor
namespace Go.Proofs.YtpheiojmcafolaaGreatDoor
set_option maxRecDepth 100000
open Go.RowKit Go.Sort
theorem recGo_zero : ∀ (fs : List (ByteArray × List Nd)) (met : List (List UInt8)), (∀ f ∈ fs, nameErr f.1.toList = 0 ∧ valErr f.2 = 0) → (fs.map fun f => f.1.toList).Nodup → (∀ f ∈ fs, f.1.toList ∉ met) → recGo fs met = 0
 | [], _, _, _, _ => rfl
 | (s, v) :: r, met, h, hn, hm => by
   obtain ⟨h1, h2⟩ := h (s, v) (by simp)
   have h3 := hm (s, v) (by simp)
   rw [List.map_cons, List.nodup_cons] at hn
   have ih := recGo_zero r (met ++ [s.toList]) (fun f hf => h f (by simp [hf])) hn.2 (fun f hf hc => by
     rcases List.mem_append.1 hc with hc | hc
     · exact hm f (by simp [hf]) hc
     · simp only [List.mem_singleton] at hc
       exact hn.1 (List.mem_map.2 ⟨f, hf, hc⟩))
   simp only at h1 h2 h3
   unfold recGo
   rw [if_neg (by simp [h1]), if_neg h3, if_neg (by simp [h2]), ih]
theorem rec_names {ps : List (List Nd)} {l : ByteArray} (hK : ExK true l ps) : (ps.map fun p => (sH p).toList).Nodup ∧ (∀ p ∈ ps, nameErr (sH p).toList = 0) ∧ ∀ vs : List (List Nd), vs.length = ps.length → (∀ v ∈ vs, valErr v = 0) → recGo ((ps.map sH).zip vs) [] = 0 := by
 have e0 : (ps.map fun p => (sH p).toList) = namesOf ps := by unfold namesOf; exact List.map_congr_left fun p _ => by rw [show sH p = headS p by cases p <;> rfl]
 have hnd : (ps.map fun p => (sH p).toList).Nodup := by rw [e0]; exact pw_nodup (exk_pw hK).1
 have hnm : ∀ p ∈ ps, nameErr (sH p).toList = 0 := fun p hp => by
   obtain ⟨y, r, e, hs, h7⟩ := ex_ne (exk_all hK p hp)
   have h7' : y.op = 7 := by simpa using h7
   rw [e]
   unfold shapedT at hs
   rw [if_neg (by omega), if_neg (by omega), if_neg (by omega), if_pos (by omega)] at hs
   simp only [Bool.and_eq_true, beq_iff_eq] at hs
   exact hs.2
 refine ⟨hnd, hnm, fun vs hl hv => recGo_zero _ _ ?_ ?_ (by simp)⟩
 · intro f hf
   obtain ⟨h1, h2⟩ := List.of_mem_zip (a := f.1) (b := f.2) hf
   obtain ⟨p, hp, e⟩ := List.mem_map.1 h1
   exact ⟨by rw [← e]; exact hnm p hp, hv _ h2⟩
 · have : (((ps.map sH).zip vs).map fun f => f.1.toList) = ps.map fun p => (sH p).toList := by
     rw [show (fun f : ByteArray × List Nd => f.1.toList) = (fun s : ByteArray => s.toList) ∘ Prod.fst from rfl, ← List.map_map, List.map_fst_zip (by simp; omega), List.map_map]; rfl
   rw [this]; exact hnd
theorem ne_len : ∀ {ps : List (List Nd)}, (∀ p ∈ ps, p ≠ []) → ps.length ≤ ps.flatten.length
 | [], _ => by simp
 | p :: r, h => by
   have h1 := ne_len fun q hq => h q (List.mem_cons_of_mem _ hq)
   have h2 : 0 < p.length := by cases p with | nil => exact absurd rfl (h [] (by simp)) | cons => simp
   rw [List.flatten_cons, List.length_append, List.length_cons]; omega
theorem next_all (x : Evl) (hf : FewIn x) : ∀ (N : Nat) (xs : List Nd), xs.length ≤ N → xs.length ≤ 200 → Ex (.one false) xs → NextOk x xs
 | 0, xs, hN, _, h => by
   obtain ⟨y, r, e, _⟩ := ex_ne h
   rw [e] at hN; simp at hN
 | N + 1, xs, hN, hl, h => by
   cases h with
   | one n body _ hs h7 hb =>
     obtain ⟨ps, hc, hfl, hK⟩ := ex_pieces hb
     subst hfl
     have hex := exk_all hK
     have h7' : ¬ n.op = 7 := by simpa using h7
     rw [List.length_cons] at hN hl
     have hne : ∀ p ∈ ps, p ≠ [] := fun p hp => by obtain ⟨y, r, e, _⟩ := ex_ne (hex p hp); rw [e]; simp
     have hpl := ne_len hne
     have hin : ∀ p ∈ ps, ¬ n.op = 6 → Ex (.one false) p := fun p hp h6 => by
       have := hex p hp
       rwa [show (n.op == 6) = false by simp [h6]] at this
     have ih : ¬ n.op = 6 → ∀ p ∈ ps, NextOk x p := fun h6 p hp => by
       have := part_le hp
       exact next_all x hf N p (by omega) (by omega) (hin p hp h6)
     have hcase : (n.op = 1 ∨ n.op = 2 ∨ n.op = 3 ∨ n.op = 4 ∨ n.op = 8) ∧ ps.length = 0 ∨ (n.op = 5 ∨ n.op = 6) ∧ n.n = ps.length ∨ (n.op = 9 ∨ n.op = 10 ∨ n.op = 21 ∨ n.op = 22 ∨ n.op = 23 ∨ n.op = 24) ∧ ps.length = 1 ∨
         (n.op = 11 ∨ n.op = 12 ∨ n.op = 14 ∨ n.op = 15 ∨ n.op = 16 ∨ n.op = 17 ∨ n.op = 18 ∨ n.op = 19 ∨ n.op = 20 ∨ n.op = 25 ∨ n.op = 26 ∨ n.op = 27) ∧ ps.length = 2 ∨ n.op = 13 ∧ ps.length = 3 := by
       unfold ndParts at hc
       unfold shapedT at hs
       by_cases a1 : n.op = 1 ∨ n.op = 2 ∨ n.op = 3 ∨ n.op = 4 ∨ n.op = 8
       · rw [if_pos a1] at hc; left; exact ⟨a1, by simpa using hc⟩
       rw [if_neg a1] at hc
       by_cases a2 : n.op = 5 ∨ n.op = 6
       · rw [if_pos a2] at hc
         rw [if_neg (by omega), if_pos a2] at hs
         simp only [Bool.and_eq_true, decide_eq_true_eq] at hs
         right; left; exact ⟨a2, by have := hs.1.1; omega⟩
       rw [if_neg a2] at hc
       by_cases a3 : n.op = 7 ∨ n.op = 9 ∨ n.op = 10 ∨ n.op = 21 ∨ n.op = 22 ∨ n.op = 23 ∨ n.op = 24
       · rw [if_pos a3] at hc; right; right; left; exact ⟨by omega, by simpa using hc⟩
       rw [if_neg a3] at hc
       by_cases a4 : n.op = 11 ∨ n.op = 12 ∨ n.op = 14 ∨ n.op = 15 ∨ n.op = 16 ∨ n.op = 17 ∨ n.op = 18 ∨ n.op = 19 ∨ n.op = 20 ∨ n.op = 25 ∨ n.op = 26 ∨ n.op = 27
       · rw [if_pos a4] at hc; right; right; right; left; exact ⟨a4, by simpa using hc⟩
       rw [if_neg a4] at hc
       by_cases a5 : n.op = 13
       · rw [if_pos a5] at hc; right; right; right; right; exact ⟨a5, by simpa using hc⟩
       · exfalso
         rw [if_neg (by omega), if_neg a2, if_neg (by omega), if_neg (by omega), if_neg (by omega)] at hs
         simp only [Bool.and_eq_true, decide_eq_true_eq] at hs
         have h1 := hs.1.1.1
         unfold ndParts at h1
         rw [if_neg a1, if_neg a2, if_neg a3, if_neg a4, if_neg a5] at h1
         omega
     rcases hcase with ⟨ho, hlen⟩ | ⟨ho, hn⟩ | ⟨ho, hlen⟩ | ⟨ho, hlen⟩ | ⟨ho, hlen⟩
     · obtain rfl := List.eq_nil_of_length_eq_zero hlen
       rw [List.flatten_nil]
       rcases ho with e | e | e | e | e
       · exact next_1 x n e
       · exact next_2 x n e
       · exact next_3 x n e
       · exact next_4 x n e
       · exact next_8 x n e
     · by_cases h6 : n.op = 6
       · have hK6 : ExK true ⟨#[]⟩ ps := by
           rw [show (n.op == 6) = true by simp [h6]] at hK; exact hK
         obtain ⟨r1, r2, r3⟩ := rec_names hK6
         exact next_6 x n ps h6 hn (by omega) (exk_all hK6) (fun p hp => by
           obtain ⟨g1, g2⟩ := fld_tail (exk_all hK6 p hp)
           have := part_le hp
           exact next_all x hf N p.tail (by omega) (by omega) g1) r1 r2 r3
       · have h5 : n.op = 5 := by omega
         exact next_5 x n ps h5 hn (by omega) (fun p hp => hin p hp h6) (ih h6)
     · match ps, hlen with
       | [a], _ =>
         have h6 : ¬ n.op = 6 := by omega
         have ha := ih h6 a (by simp)
         have hea := hin a (by simp) h6
         rw [show [a].flatten = a by simp]
         rcases ho with e | e | e | e | e | e
         · exact next_9 x n a ha hea e
         · exact next_10 x n a ha hea e
         · exact next_21 x n a ha hea e
         · exact next_22 x n a ha hea e
         · exact next_23 x n a ha hea e
         · exact next_24 x n a ha hea e
     · match ps, hlen with
       | [a, b], _ =>
         have h6 : ¬ n.op = 6 := by omega
         have ha := ih h6 a (by simp)
         have hb := ih h6 b (by simp)
         have hea := hin a (by simp) h6
         have heb := hin b (by simp) h6
         rw [show [a, b].flatten = a ++ b by simp]
         rcases ho with e | e | e | e | e | e | e | e | e | e | e | e
         · exact next_11 x n hf a b ha hb hea heb e
         · exact next_12 x n hf a b ha hb hea heb e
         · exact next_14 x n a b ha hb hea heb e
         · exact next_15 x n a b ha hb hea heb e
         · exact next_16 x n a b ha hb hea heb e
         · exact next_17 x n a b ha hb hea heb e
         · exact next_18 x n a b ha hb hea heb e
         · exact next_19 x n a b ha hb hea heb e
         · exact next_20 x n a b ha hb hea heb e
         · exact next_25 x n a b ha hb hea heb e
         · exact next_26 x n a b ha hb hea heb e
         · exact next_27 x n a b ha hb hea heb e
     · match ps, hlen with
       | [c, a, b], _ =>
         have h6 : ¬ n.op = 6 := by omega
         rw [show [c, a, b].flatten = c ++ (a ++ b) by simp]
         exact next_13 x n hf c a b (ih h6 c (by simp)) (ih h6 a (by simp)) (ih h6 b (by simp)) (hin c (by simp) h6) (hin a (by simp) h6) (hin b (by simp) h6) ho
end Go.Proofs.YtpheiojmcafolaaGreatDoor
namespace Go.Proofs.YtpheiojmcafolaaGreatDoor
set_option maxRecDepth 100000
open Go.RowKit Go.Sort
set_option maxHeartbeats 6400000 in
theorem eval_Ask (q : Rq) (A : Option Addr) (c : Nat) (w : World) (h1 : UdOk q.who) (h2 : UdOk q.act) (h3 : UdOk q.what) (hc : q.ctx.length ≤ c) (hcm : c ≤ 9223372036854775807) (hk : NdOk q.ctx) (hs : NdSl w w.heap.size A q.ctx) :
   Calls Tryz.prog 23 #[.agg #[.string q.who.ty, .string q.who.id, .string q.act.ty, .string q.act.id, .string q.what.ty, .string q.what.id, .slice A q.ctx.length c]] w fun r w' => r = .returned (errV (rqErr q)) ∧ RowKit.Below w.heap.size w w' := by
 have HW1 := Lib.hid (fun W => name_Write q.who W h1)
 have HW2 := Lib.hid (fun W => name_Write q.act W h2)
 have HW3 := Lib.hid (fun W => name_Write q.what W h3)
 have HV := Lib.hid (fun W (hb : RowKit.Below w.heap.size w W) => val_Check q.ctx A c W hc hcm hk ((hs.below hb).more hb.size))
 have HHD := Lib.hid (fun (h : valErr q.ctx = 0) => ValIn.head (w := w) (A := A) (c := c) ⟨h, hk, hc, hcm, hs⟩)
 obtain ⟨k, hk0⟩ : ∃ k, k = rqErr q := ⟨_, rfl⟩
 rw [← hk0]
 unfold rqErr at hk0
 clear h1 h2 h3 hc hcm hk hs
 have B0 : Blk (w.alloc (.cells #[.string q.who.ty, .string q.who.id, .string q.act.ty, .string q.act.id, .string q.what.ty, .string q.what.id, .slice A q.ctx.length c] 39)) w.heap.size 39 #[.string q.who.ty, .string q.who.id, .string q.act.ty, .string q.act.id, .string q.what.ty, .string q.what.id, .slice A q.ctx.length c] := Blk.new _ _ _
 have HB0 := Lib.hid B0
 have HK := Lib.hid hk0
 clear hk0 B0
 have hix0 : ∀ (a b c d e f : ByteArray) (W : World), (Instr.index 120 (.agg #[.string a, .string b, .string c, .string d, .string e, .string f]) (.int .i64 0)).run Tryz.prog W = .ok (.agg #[.string a, .string b]) W := fun _ _ _ _ _ _ _ => by kernel_rfl
 have hix1 : ∀ (a b c d e f : ByteArray) (W : World), (Instr.index 120 (.agg #[.string a, .string b, .string c, .string d, .string e, .string f]) (.int .i64 1)).run Tryz.prog W = .ok (.agg #[.string c, .string d]) W := fun _ _ _ _ _ _ _ => by kernel_rfl
 have hix2 : ∀ (a b c d e f : ByteArray) (W : World), (Instr.index 120 (.agg #[.string a, .string b, .string c, .string d, .string e, .string f]) (.int .i64 2)).run Tryz.prog W = .ok (.agg #[.string e, .string f]) W := fun _ _ _ _ _ _ _ => by kernel_rfl
 go_enter Tryz.func23, Tryz.ntmps23
 go_wp2_with fail
 refine wp_loop_rounds 4 ?_
 rw [rounds_succ]
 go_wp2_with fail
 refine (HW1.out _).mono ?_
 rintro r w1 ⟨rfl, hb1⟩
 have hl1 : RowKit.Below w.heap.size w ((w.alloc (.cells #[.string q.who.ty, .string q.who.id, .string q.act.ty, .string q.act.id, .string q.what.ty, .string q.what.id, .slice A q.ctx.length c] 39)).alloc (.cells #[.string q.who.ty, .string q.who.id] 34)) := by exact ((RowKit.Below.refl _ w).alloc (Nat.le_refl _) _).alloc (by simp) _
 have hB1 : Blk w1 w.heap.size 39 #[.string q.who.ty, .string q.who.id, .string q.act.ty, .string q.act.id, .string q.what.ty, .string q.what.id, .slice A q.ctx.length c] := (HB0.out.alloc _).below hb1 (by have := (HB0.out).lt; simp at this ⊢; omega)
 have HC1 := Lib.hid hB1
 have BW1 := Lib.hid (hl1.trans (hb1.mono hl1.size))
 clear hb1 hl1 hB1
 by_cases g1 : udErr q.who = 0
 case neg =>
   have t : (udErr q.who != 0) = true := by simpa using g1
   have e : k = udErr q.who := by rw [HK.out, if_pos g1]
   subst e
   clear HK g1
   go_wp2_with fail
   go_ret
   exact ⟨rfl, BW1.out⟩
 have t1 : (udErr q.who != 0) = false := by simpa using g1
 have HG1 := Lib.hid g1
 clear g1
 go_wp2_with fail
 rw [rounds_succ]
 go_wp2_with fail
 refine (HW2.out _).mono ?_
 rintro r w2 ⟨rfl, hb2⟩
 have hl2 : RowKit.Below w.heap.size w (w1.alloc (.cells #[.string q.act.ty, .string q.act.id] 34)) := by exact BW1.out.alloc BW1.out.size _
 have hB2 : Blk w2 w.heap.size 39 #[.string q.who.ty, .string q.who.id, .string q.act.ty, .string q.act.id, .string q.what.ty, .string q.what.id, .slice A q.ctx.length c] := (HC1.out.alloc _).below hb2 (by have := (HC1.out).lt; simp at this ⊢; omega)
 have HC2 := Lib.hid hB2
 have BW2 := Lib.hid (hl2.trans (hb2.mono hl2.size))
 clear hb2 hl2 hB2
 by_cases g2 : udErr q.act = 0
 case neg =>
   have t : (udErr q.act != 0) = true := by simpa using g2
   have e : k = udErr q.act := by rw [HK.out, if_neg (by simp [HG1.out]), if_pos g2]
   subst e
   clear HK g2
   go_wp2_with fail
   go_ret
   exact ⟨rfl, BW2.out⟩
 have t2 : (udErr q.act != 0) = false := by simpa using g2
 have HG2 := Lib.hid g2
 clear g2
 go_wp2_with fail
 rw [rounds_succ]
 go_wp2_with fail
 refine (HW3.out _).mono ?_
 rintro r w3 ⟨rfl, hb3⟩
 have hl3 : RowKit.Below w.heap.size w (w2.alloc (.cells #[.string q.what.ty, .string q.what.id] 34)) := by exact BW2.out.alloc BW2.out.size _
 have hB3 : Blk w3 w.heap.size 39 #[.string q.who.ty, .string q.who.id, .string q.act.ty, .string q.act.id, .string q.what.ty, .string q.what.id, .slice A q.ctx.length c] := (HC2.out.alloc _).below hb3 (by have := (HC2.out).lt; simp at this ⊢; omega)
 have HC3 := Lib.hid hB3
 have BW3 := Lib.hid (hl3.trans (hb3.mono hl3.size))
 clear hb3 hl3 hB3
 by_cases g3 : udErr q.what = 0
 case neg =>
   have t : (udErr q.what != 0) = true := by simpa using g3
   have e : k = udErr q.what := by rw [HK.out, if_neg (by simp [HG1.out]), if_neg (by simp [HG2.out]), if_pos g3]
   subst e
   clear HK g3
   go_wp2_with fail
   go_ret
   exact ⟨rfl, BW3.out⟩
 have t3 : (udErr q.what != 0) = false := by simpa using g3
 have HG3 := Lib.hid g3
 clear g3
 go_wp2_with fail
 have c6 : w3.cell? ⟨w.heap.size, 6, none⟩ = some (.slice A q.ctx.length c) := HC3.out.cell 6
 rw [rounds_succ]
 go_wp2_with fail
 refine (HV.out w3 BW3.out).mono ?_
 rintro r w4 ⟨rfl, hb4⟩
 have BW4 := Lib.hid (BW3.out.trans (hb4.mono BW3.out.size))
 have d6 : w4.cell? ⟨w.heap.size, 6, none⟩ = some (.slice A q.ctx.length c) := (HC3.out.below hb4 HC3.out.lt).cell 6
 clear hb4 c6
 by_cases g4 : valErr q.ctx = 0
 case neg =>
   have t : (valErr q.ctx != 0) = true := by simpa using g4
   have e : k = valErr q.ctx := by rw [HK.out, if_neg (by simp [HG1.out]), if_neg (by simp [HG2.out]), if_neg (by simp [HG3.out]), if_pos g4]
   subst e
   clear HK g4
   go_wp2_with fail
   go_ret
   exact ⟨rfl, BW4.out⟩
 have t4 : (valErr q.ctx != 0) = false := by simpa using g4
 have hk0 : k = if opH q.ctx = 6 then 0 else 2 := by rw [HK.out, if_neg (by simp [HG1.out]), if_neg (by simp [HG2.out]), if_neg (by simp [HG3.out]), if_neg (by simp [g4])]
 obtain ⟨y, yr, yb, yo, hvy, rfl, hyb, ⟨y0, -, -, -⟩, hoy, -, -, -, hl⟩ := HHD.out g4
 have hia := fun W => head_at (w := W) (b := yb) (o := yo) (L := q.ctx.length) (c := c) hl
 have y0' : w4.cell? ⟨yb, yo, none⟩ = some (.int .i64 y.op) := (BW4.out.cell (p := ⟨yb, yo, none⟩) hyb).trans y0
 clear HK g4 hvy y0
 rw [hoy] at hk0
 clear hoy
 by_cases g5 : y.op = 6
 · have t5 : (y.op != 6) = false := by simpa using g5
   rw [if_pos g5] at hk0
   subst hk0
   clear g5
   go_wp2_with fail
   go_ret
   exact ⟨rfl, BW4.out⟩
 · have t5 : (y.op != 6) = true := by simpa using g5
   rw [if_neg g5] at hk0
   subst hk0
   clear g5
   go_wp2_with fail
   go_ret
   exact ⟨rfl, BW4.out⟩
end Go.Proofs.YtpheiojmcafolaaGreatDoor
namespace Go.Proofs.YtpheiojmcafolaaGreatDoor
set_option maxRecDepth 100000
open Go.RowKit Go.Sort
set_option maxRecDepth 100000 in
set_option maxHeartbeats 3200000 in
theorem clone_value (e : List Nd) (A : Option Addr) (c : Nat) (w : World) (hsl : NdSl w w.heap.size A e) (hl : e.length ≤ 200) :
   Calls Tryz.prog 51 #[.slice A e.length c] w fun r w' => ∃ A' c', r = .returned (.slice A' e.length c') ∧ e.length ≤ c' ∧ c' ≤ 9223372036854775807 ∧ (∀ g : Nat → Prop, (∀ b, g b → b < w.heap.size) → NdOff g w' w'.heap.size A' e) ∧ Below w.heap.size w w' := by
 have q : ∀ (w : World) (a : Option Addr) (n c n' c' : Nat), (binOp .eql 100 (.slice a n c) (.slice none n' c')).run Tryz.prog w = .ok (.bool a.isNone) w := fun w a n c n' c' => Lib.run_eql_slice_nil w _ _ a n c n' c' Tryz.underlying100
 obtain ⟨i0, hi, hz0, hz1, hz2⟩ := info_parts nd_info
 cases A with
 | none =>
   have he : e = [] := by
     cases e with
     | nil => rfl
     | cons x r => obtain ⟨b, o, h, _⟩ := hsl (List.cons_ne_nil _ _); cases h
   subst he
   go_enter Tryz.func51, Tryz.ntmps51
   go_wp2_with fail
   go_ret
   exact ⟨none, 0, rfl, Nat.le_refl _, by omega, fun g _ h => absurd rfl h, Below.refl _ _⟩
 | some a =>
   have hcells : ∀ j u, (flat e)[j]? = some u → (w.alloc (.cells #[] 37)).cell? (a.add j) = some u := by
     intro j u hu
     have hne : e ≠ [] := by rintro rfl; simp [flat] at hu
     obtain ⟨b, o, h1, h2, _⟩ := hsl hne
     injection h1 with h1
     subst h1
     exact NdSl.flat_alloc hsl h2 _ j u hu
   have HC := Lib.hid hcells
   clear hcells hsl
   go_enter Tryz.func51, Tryz.ntmps51
   go_wp2_with (at_builtin; refine wpList_append_own _ rfl (.tmp 5) (.tmp 6) 100 rfl w.heap.size 37 i0 _ 4 48 Tryz.underlying100 hi hz0 hz1 hz2 rfl (by omega) _ _ _ rfl (World.ownsRow_made w #[] 0 (Nat.le_refl _) (Nat.zero_le _) (by simp)) a e.length c (flat e) rfl (flat_len e) HC.out (flat_one_cell e) (by unfold maxLen; omega) (by omega) (by simp) ?_)
   intro v' w1 hown hgrow hnil
   go_wp2_with fail
   go_ret
   have hown : w1.ownsRow w.heap.size 37 4 v' e.length (flat e) := by simpa using hown
   have hbel : Below w.heap.size w w1 := ((Below.refl _ w).alloc (Nat.le_refl _) _).grown hgrow (by simp) (by intro k hk; simp [Value.ownBlock] at hk; omega)
   rcases hown.2 with ⟨hv, h0⟩ | ⟨g, cap, cur, hv, hb, hg, hnc, hcm, hcs, htk⟩
   · have : e = [] := List.eq_nil_of_length_eq_zero h0
     subst this
     exact ⟨none, 0, by rw [hv]; rfl, Nat.le_refl _, by omega, fun g _ h => absurd rfl h, hbel⟩
   · unfold maxLen at hcm
     refine ⟨some ⟨g, 0, none⟩, cap, by rw [hv]; rfl, hnc, hcm, fun g' hg' => ?_, hbel⟩
     have hs : NdSl w1 w1.heap.size (some ⟨g, 0, none⟩) e := NdSl.of_flat (Array.getElem?_eq_some_iff.1 hg).1 fun j u hu => by
       have hj : j < e.length * 4 := by have := (List.getElem?_eq_some_iff.1 hu).1; rw [flat_len] at this; omega
       subst hv
       exact (hown.cellAt j hj).trans hu
     intro hne
     obtain ⟨b, o, h1, h2, h3⟩ := hs hne
     injection h1 with h1
     injection h1 with h4 h5
     subst h4 h5
     exact ⟨g, 0, rfl, h2, fun hg => by have := hg' g hg; omega, h3⟩
theorem assert_errno (k : Int) (w : World) : (Instr.typeAssert (.iface 96 (.int .i64 k)) 20 96 true).run Tryz.prog w = .ok (.tuple #[.int .i64 k, .bool true]) w := by kernel_rfl
set_option maxHeartbeats 800000 in
theorem ev_idle (p p2 : Addr) (w : World) :
   CallsD Tryz.prog 50 #[.pointer (some p), .pointer (some p2)] .returning w fun e u' w' => e = .returned (.tuple #[]) ∧ u' = .returning ∧ w' = w := by
 refine callsD_of_wpS Tryz.func50 rfl fun c₀ cs hu => ?_
 apply wpS_seq
 apply wpS_region
 simp [wpOpsS, go_sem, recoverD, hu, Tryz.ntmps50, Exit.thenS]
 refine wpS_of_wp ?_
 simp only [Array.replicate_succ, Array.replicate_zero, List.push_toArray, List.nil_append, List.cons_append]
 go_wp2
 cases c₀
 simp_all [bodyPostS, results, Tryz.results50]
set_option maxHeartbeats 1600000 in
theorem ev_catch (p p2 : Addr) (x x2 : Value) (k : Int) (w : World) (hc : w.cell? p = some x) (hz : w.frozen? p = false) (hc2 : w.cell? p2 = some x2) (hz2 : w.frozen? p2 = false) (hne : p.block ≠ p2.block) :
   CallsD Tryz.prog 50 #[.pointer (some p), .pointer (some p2)] (.panicking [{ v := .iface 96 (.int .i64 k), recovered := false }]) w fun e u' w' =>
     e = .returned (.tuple #[]) ∧ u' = .panicking [{ v := .iface 96 (.int .i64 k), recovered := true }] ∧ w' = (w.setCell p (.slice none 0 0)).setCell p2 (.iface 96 (.int .i64 k)) := by
 have hta := assert_errno k
 have hcw : (w.setCell p (.slice none 0 0)).cell? p2 = some x2 := (World.cell?_of_block (w := w) (a := p2) (RowKit.Below.heap_setCell w p _ _ hne.symm)).trans hc2
 have hzw : (w.setCell p (.slice none 0 0)).frozen? p2 = false := (World.frozen?_of_block (w := w) (a := p2) (RowKit.Below.heap_setCell w p _ _ hne.symm)).trans hz2
 refine callsD_of_wpS Tryz.func50 rfl fun c₀ cs hu => ?_
 apply wpS_seq
 apply wpS_region
 simp [wpOpsS, go_sem, recoverD, hu, Tryz.ntmps50, Exit.thenS]
 refine wpS_of_wp ?_
 simp only [Array.replicate_succ, Array.replicate_zero, List.push_toArray, List.nil_append, List.cons_append]
 go_wp2
 simp [bodyPostS, results, Tryz.results50]
end Go.Proofs.YtpheiojmcafolaaGreatDoor
namespace Go.Proofs.YtpheiojmcafolaaGreatDoor
set_option maxRecDepth 100000
open Go.RowKit Go.Sort
structure VaIn (x : Evl) (w : World) : Prop where
 ents : EntsIn w x.Ea x.hs x.es
 ai : ∀ e ∈ x.es, NdI e.at_
 ec : x.hs.length ≤ x.ec
 ctx : NdSl w w.heap.size x.qa x.q.ctx
 qc : x.q.ctx.length ≤ x.qc ∧ x.qc ≤ 9223372036854775807
 qk : NdOk x.q.ctx
 qi : NdI x.q.ctx
 qz : UdOk x.q.who ∧ UdOk x.q.act ∧ UdOk x.q.what
 ex : NdSl w w.heap.size x.ea x.e
 eca : x.e.length ≤ x.eca ∧ x.eca ≤ 9223372036854775807
 ek : NdOk x.e
 ei : NdI x.e
 err : ErrCell w
theorem VaIn.later {x : Evl} {w w' : World} (h : VaIn x w) (hb : RowKit.Below w.heap.size w w') : VaIn x w' :=
 ⟨h.ents.later hb, h.ai, h.ec, (h.ctx.below hb).more hb.size, h.qc, h.qk, h.qi, h.qz, (h.ex.below hb).more hb.size, h.eca, h.ek, h.ei, h.err.below hb h.err.lt⟩
theorem store_err (w : World) (b : Nat) (k : Int) (u : Value) (hc : w.cell? ⟨b, 0, none⟩ = some u) (hf : w.frozen? ⟨b, 0, none⟩ = false) : Sem.run Tryz.prog (storeCells ⟨b, 0, none⟩ [errV k]) w = .ok () (w.setCell ⟨b, 0, none⟩ (errV k)) := by
 unfold errV
 split <;> simp [storeCells, hc, hf, go_sem]
set_option maxHeartbeats 6400000 in
theorem value_1 (x : Evl) (w : World) (h : VaIn x w) (h1 : entErr x.es ≠ 0) :
   Calls Tryz.prog 19 #[.slice x.Ea x.hs.length x.ec, .agg #[.string x.q.who.ty, .string x.q.who.id, .string x.q.act.ty, .string x.q.act.id, .string x.q.what.ty, .string x.q.what.id, .slice x.qa x.q.ctx.length x.qc], .slice x.ea x.e.length x.eca] w fun r w' => r = .returned (.tuple #[.slice none 0 0, errV (entErr x.es)]) ∧ RowKit.Below w.heap.size w w' := by
 have hmf : ∀ (fn : Fn) (first cap : Array Value) (w : World), (Instr.makeFunc fn first cap).run Tryz.prog w = .ok (.func fn first cap) w := fun _ _ _ _ => rfl
 have HE := Lib.hid (fun W (hb : RowKit.Below w.heap.size w W) => ent_Check x.hs x.es x.Ea x.ec W (h.later hb).ents h.ec)
 have HA := Lib.hid (fun W (hb : RowKit.Below w.heap.size w W) => eval_Ask x.q x.qa x.qc W h.qz.1 h.qz.2.1 h.qz.2.2 h.qc.1 h.qc.2 h.qk (h.later hb).ctx)
 have HT := Lib.hid (fun W (hb : RowKit.Below w.heap.size w W) => tree_Check x.e x.ea x.eca W h.eca.1 h.eca.2 h.ek (h.later hb).ex)
 have HH := Lib.hid h
 have b0 : Blk (((w.alloc (.cells #[.string x.q.who.ty, .string x.q.who.id, .string x.q.act.ty, .string x.q.act.id, .string x.q.what.ty, .string x.q.what.id, .slice x.qa x.q.ctx.length x.qc] 39)).alloc (.cells #[.slice none 0 0] 22)).alloc (.cells #[.nilIface] 27)) w.heap.size 39 #[.string x.q.who.ty, .string x.q.who.id, .string x.q.act.ty, .string x.q.act.id, .string x.q.what.ty, .string x.q.what.id, .slice x.qa x.q.ctx.length x.qc] := ((Blk.new w _ _).alloc _).alloc _
 have b1 : Blk (((w.alloc (.cells #[.string x.q.who.ty, .string x.q.who.id, .string x.q.act.ty, .string x.q.act.id, .string x.q.what.ty, .string x.q.what.id, .slice x.qa x.q.ctx.length x.qc] 39)).alloc (.cells #[.slice none 0 0] 22)).alloc (.cells #[.nilIface] 27)) (w.heap.size + 1) 22 #[.slice none 0 0] := by
   have := (Blk.new (w.alloc (.cells #[.string x.q.who.ty, .string x.q.who.id, .string x.q.act.ty, .string x.q.act.id, .string x.q.what.ty, .string x.q.what.id, .slice x.qa x.q.ctx.length x.qc] 39)) 22 #[.slice none 0 0]).alloc (.cells #[.nilIface] 27)
   rwa [World.size_alloc] at this
 have b2 : Blk (((w.alloc (.cells #[.string x.q.who.ty, .string x.q.who.id, .string x.q.act.ty, .string x.q.act.id, .string x.q.what.ty, .string x.q.what.id, .slice x.qa x.q.ctx.length x.qc] 39)).alloc (.cells #[.slice none 0 0] 22)).alloc (.cells #[.nilIface] 27)) (w.heap.size + 1 + 1) 27 #[.nilIface] := by
   have := Blk.new ((w.alloc (.cells #[.string x.q.who.ty, .string x.q.who.id, .string x.q.act.ty, .string x.q.act.id, .string x.q.what.ty, .string x.q.what.id, .slice x.qa x.q.ctx.length x.qc] 39)).alloc (.cells #[.slice none 0 0] 22)) 27 #[.nilIface]
   rwa [World.size_alloc, World.size_alloc] at this
 have hb0 : RowKit.Below w.heap.size w (((w.alloc (.cells #[.string x.q.who.ty, .string x.q.who.id, .string x.q.act.ty, .string x.q.act.id, .string x.q.what.ty, .string x.q.what.id, .slice x.qa x.q.ctx.length x.qc] 39)).alloc (.cells #[.slice none 0 0] 22)).alloc (.cells #[.nilIface] 27)) := by (repeat (first | assumption | exact Below.refl _ _ | apply Below.drew | apply below_drewN | (refine Below.alloc ?_ (by first | exact Nat.le_refl _ | omega | (simp; done) | (simp; omega)) _)))
 have t1 : (entErr x.es != 0) = true := by simpa using h1
 generalize entErr x.es = k at t1 h1 HE ⊢
 have he1 : errV k = .iface 96 (.int .i64 k) := by unfold errV; rw [if_neg h1]
 rw [he1]
 have HE1 := Lib.hid he1
 clear h1
 clear h
 go_enter_defers Tryz.func19, Tryz.ntmps19
 go_wp2_with fail
 generalize (((w.alloc (.cells #[.string x.q.who.ty, .string x.q.who.id, .string x.q.act.ty, .string x.q.act.id, .string x.q.what.ty, .string x.q.what.id, .slice x.qa x.q.ctx.length x.qc] 39)).alloc (.cells #[.slice none 0 0] 22)).alloc (.cells #[.nilIface] 27)) = w1 at b0 b1 b2 hb0 ⊢
 have B0 := Lib.hid b0
 have B1 := Lib.hid b1
 have B2 := Lib.hid b2
 have HB0 := Lib.hid hb0
 clear b0 b1 b2
 refine (HE.out w1 HB0.out).mono ?_
 rintro r w2 ⟨hr, hb2⟩
 rw [he1] at hr
 subst hr
 have hbw2 := hb0.trans (hb2.mono hb0.size)
 have c1 : w2.cell? ⟨w.heap.size + 1, 0, none⟩ = some (.slice none 0 0) := (B1.out.below hb2 B1.out.lt).cell 0
 have f1 : w2.frozen? ⟨w.heap.size + 1, 0, none⟩ = false := (B1.out.below hb2 B1.out.lt).frozen 0
 have c2 : w2.cell? ⟨w.heap.size + 1 + 1, 0, none⟩ = some .nilIface := (B2.out.below hb2 B2.out.lt).cell 0
 have f2 : w2.frozen? ⟨w.heap.size + 1 + 1, 0, none⟩ = false := (B2.out.below hb2 B2.out.lt).frozen 0
 have HBW2 := Lib.hid hbw2
 have hse : ∀ k, Sem.run Tryz.prog (storeCells ⟨w.heap.size + 1 + 1, 0, none⟩ [errV k]) (w2.setCell ⟨w.heap.size + 1, 0, none⟩ (.slice none 0 0)) = .ok () ((w2.setCell ⟨w.heap.size + 1, 0, none⟩ (.slice none 0 0)).setCell ⟨w.heap.size + 1 + 1, 0, none⟩ (errV k)) := fun k =>
   store_err _ _ k .nilIface ((World.cell?_of_block (w := w2) (a := ⟨w.heap.size + 1 + 1, 0, none⟩) (RowKit.Below.heap_setCell _ _ _ _ (by simp))).trans c2) ((World.frozen?_of_block (w := w2) (a := ⟨w.heap.size + 1 + 1, 0, none⟩) (RowKit.Below.heap_setCell _ _ _ _ (by simp))).trans f2)
 clear hb2 hbw2 hse he1
 go_wp2_with fail
 have hcA : (w2.setCell ⟨w.heap.size + 1, 0, none⟩ (.slice none 0 0)).cell? ⟨w.heap.size + 1, 0, none⟩ = some (.slice none 0 0) := World.cell?_setCell_same _ _ _ c1
 have hcB : ((w2.setCell ⟨w.heap.size + 1, 0, none⟩ (.slice none 0 0)).setCell ⟨w.heap.size + 1 + 1, 0, none⟩ (.iface 96 (.int .i64 k))).cell? ⟨w.heap.size + 1 + 1, 0, none⟩ = some (.iface 96 (.int .i64 k)) :=
   World.cell?_setCell_same _ _ _ ((World.cell?_of_block (w := w2) (a := ⟨w.heap.size + 1 + 1, 0, none⟩) (RowKit.Below.heap_setCell _ _ _ _ (by simp))).trans c2)
 have hbF : RowKit.Below w.heap.size w ((w2.setCell ⟨w.heap.size + 1, 0, none⟩ (.slice none 0 0)).setCell ⟨w.heap.size + 1 + 1, 0, none⟩ (.iface 96 (.int .i64 k))) := (HBW2.out.setCell (by simp) _).setCell (by show _ ≤ w.heap.size + 1 + 1; omega) _
 simp [bodyPostD, Leaves, results, Tryz.results19, go_sem, hcA, hcB, hbF]
set_option maxHeartbeats 6400000 in
theorem value_2 (x : Evl) (w : World) (h : VaIn x w) (h0 : entErr x.es = 0) (h1 : rqErr x.q ≠ 0) :
   Calls Tryz.prog 19 #[.slice x.Ea x.hs.length x.ec, .agg #[.string x.q.who.ty, .string x.q.who.id, .string x.q.act.ty, .string x.q.act.id, .string x.q.what.ty, .string x.q.what.id, .slice x.qa x.q.ctx.length x.qc], .slice x.ea x.e.length x.eca] w fun r w' => r = .returned (.tuple #[.slice none 0 0, errV (rqErr x.q)]) ∧ RowKit.Below w.heap.size w w' := by
 have hmf : ∀ (fn : Fn) (first cap : Array Value) (w : World), (Instr.makeFunc fn first cap).run Tryz.prog w = .ok (.func fn first cap) w := fun _ _ _ _ => rfl
 have HE := Lib.hid (fun W (hb : RowKit.Below w.heap.size w W) => ent_Check x.hs x.es x.Ea x.ec W (h.later hb).ents h.ec)
 have HA := Lib.hid (fun W (hb : RowKit.Below w.heap.size w W) => eval_Ask x.q x.qa x.qc W h.qz.1 h.qz.2.1 h.qz.2.2 h.qc.1 h.qc.2 h.qk (h.later hb).ctx)
 have HT := Lib.hid (fun W (hb : RowKit.Below w.heap.size w W) => tree_Check x.e x.ea x.eca W h.eca.1 h.eca.2 h.ek (h.later hb).ex)
 have HH := Lib.hid h
 have b0 : Blk (((w.alloc (.cells #[.string x.q.who.ty, .string x.q.who.id, .string x.q.act.ty, .string x.q.act.id, .string x.q.what.ty, .string x.q.what.id, .slice x.qa x.q.ctx.length x.qc] 39)).alloc (.cells #[.slice none 0 0] 22)).alloc (.cells #[.nilIface] 27)) w.heap.size 39 #[.string x.q.who.ty, .string x.q.who.id, .string x.q.act.ty, .string x.q.act.id, .string x.q.what.ty, .string x.q.what.id, .slice x.qa x.q.ctx.length x.qc] := ((Blk.new w _ _).alloc _).alloc _
 have b1 : Blk (((w.alloc (.cells #[.string x.q.who.ty, .string x.q.who.id, .string x.q.act.ty, .string x.q.act.id, .string x.q.what.ty, .string x.q.what.id, .slice x.qa x.q.ctx.length x.qc] 39)).alloc (.cells #[.slice none 0 0] 22)).alloc (.cells #[.nilIface] 27)) (w.heap.size + 1) 22 #[.slice none 0 0] := by
   have := (Blk.new (w.alloc (.cells #[.string x.q.who.ty, .string x.q.who.id, .string x.q.act.ty, .string x.q.act.id, .string x.q.what.ty, .string x.q.what.id, .slice x.qa x.q.ctx.length x.qc] 39)) 22 #[.slice none 0 0]).alloc (.cells #[.nilIface] 27)
   rwa [World.size_alloc] at this
 have b2 : Blk (((w.alloc (.cells #[.string x.q.who.ty, .string x.q.who.id, .string x.q.act.ty, .string x.q.act.id, .string x.q.what.ty, .string x.q.what.id, .slice x.qa x.q.ctx.length x.qc] 39)).alloc (.cells #[.slice none 0 0] 22)).alloc (.cells #[.nilIface] 27)) (w.heap.size + 1 + 1) 27 #[.nilIface] := by
   have := Blk.new ((w.alloc (.cells #[.string x.q.who.ty, .string x.q.who.id, .string x.q.act.ty, .string x.q.act.id, .string x.q.what.ty, .string x.q.what.id, .slice x.qa x.q.ctx.length x.qc] 39)).alloc (.cells #[.slice none 0 0] 22)) 27 #[.nilIface]
   rwa [World.size_alloc, World.size_alloc] at this
 have hb0 : RowKit.Below w.heap.size w (((w.alloc (.cells #[.string x.q.who.ty, .string x.q.who.id, .string x.q.act.ty, .string x.q.act.id, .string x.q.what.ty, .string x.q.what.id, .slice x.qa x.q.ctx.length x.qc] 39)).alloc (.cells #[.slice none 0 0] 22)).alloc (.cells #[.nilIface] 27)) := by (repeat (first | assumption | exact Below.refl _ _ | apply Below.drew | apply below_drewN | (refine Below.alloc ?_ (by first | exact Nat.le_refl _ | omega | (simp; done) | (simp; omega)) _)))
 have he0 : errV (entErr x.es) = .nilIface := by rw [h0]; rfl
 generalize rqErr x.q = k at h1 HA ⊢
 have he1 : errV k = .iface 96 (.int .i64 k) := by unfold errV; rw [if_neg h1]
 rw [he1]
 clear h1
 clear h
 go_enter_defers Tryz.func19, Tryz.ntmps19
 go_wp2_with fail
 generalize (((w.alloc (.cells #[.string x.q.who.ty, .string x.q.who.id, .string x.q.act.ty, .string x.q.act.id, .string x.q.what.ty, .string x.q.what.id, .slice x.qa x.q.ctx.length x.qc] 39)).alloc (.cells #[.slice none 0 0] 22)).alloc (.cells #[.nilIface] 27)) = w1 at b0 b1 b2 hb0 ⊢
 have B01 := Lib.hid b0
 have B11 := Lib.hid b1
 have B21 := Lib.hid b2
 have BW1 := Lib.hid hb0
 clear b0 b1 b2 hb0
 refine (HE.out w1 BW1.out).mono ?_
 rintro r w2 ⟨hr, hb2⟩
 rw [he0] at hr
 subst hr
 have B02 := Lib.hid (B01.out.below hb2 B01.out.lt)
 have B12 := Lib.hid (B11.out.below hb2 B11.out.lt)
 have B22 := Lib.hid (B21.out.below hb2 B21.out.lt)
 have BW2 := Lib.hid (BW1.out.trans (hb2.mono BW1.out.size))
 clear hb2
 have q20 : w2.cell? ⟨w.heap.size, 0, none⟩ = some (.string x.q.who.ty) := B02.out.cell 0
 have q21 : w2.cell? ⟨w.heap.size, 1, none⟩ = some (.string x.q.who.id) := B02.out.cell 1
 have q22 : w2.cell? ⟨w.heap.size, 2, none⟩ = some (.string x.q.act.ty) := B02.out.cell 2
 have q23 : w2.cell? ⟨w.heap.size, 3, none⟩ = some (.string x.q.act.id) := B02.out.cell 3
 have q24 : w2.cell? ⟨w.heap.size, 4, none⟩ = some (.string x.q.what.ty) := B02.out.cell 4
 have q25 : w2.cell? ⟨w.heap.size, 5, none⟩ = some (.string x.q.what.id) := B02.out.cell 5
 have q26 : w2.cell? ⟨w.heap.size, 6, none⟩ = some (.slice x.qa x.q.ctx.length x.qc) := B02.out.cell 6
 go_wp2_with fail
 refine (HA.out w2 BW2.out).mono ?_
 rintro r w3 ⟨hr, hb3⟩
 rw [he1] at hr
 subst hr
 have B03 := Lib.hid (B02.out.below hb3 B02.out.lt)
 have B13 := Lib.hid (B12.out.below hb3 B12.out.lt)
 have B23 := Lib.hid (B22.out.below hb3 B22.out.lt)
 have BW3 := Lib.hid (BW2.out.trans (hb3.mono BW2.out.size))
 clear hb3
 have c1 : w3.cell? ⟨w.heap.size + 1, 0, none⟩ = some (.slice none 0 0) := B13.out.cell 0
 have f1 : w3.frozen? ⟨w.heap.size + 1, 0, none⟩ = false := B13.out.frozen 0
 have c2 : w3.cell? ⟨w.heap.size + 1 + 1, 0, none⟩ = some .nilIface := B23.out.cell 0
 have f2 : w3.frozen? ⟨w.heap.size + 1 + 1, 0, none⟩ = false := B23.out.frozen 0
 clear he1 he0
 go_wp2_with fail
 have hcA : (w3.setCell ⟨w.heap.size + 1, 0, none⟩ (.slice none 0 0)).cell? ⟨w.heap.size + 1, 0, none⟩ = some (.slice none 0 0) := World.cell?_setCell_same _ _ _ c1
 have hcB : ((w3.setCell ⟨w.heap.size + 1, 0, none⟩ (.slice none 0 0)).setCell ⟨w.heap.size + 1 + 1, 0, none⟩ (.iface 96 (.int .i64 k))).cell? ⟨w.heap.size + 1 + 1, 0, none⟩ = some (.iface 96 (.int .i64 k)) :=
   World.cell?_setCell_same _ _ _ ((World.cell?_of_block (w := w3) (a := ⟨w.heap.size + 1 + 1, 0, none⟩) (RowKit.Below.heap_setCell _ _ _ _ (by simp))).trans c2)
 have hbF : RowKit.Below w.heap.size w ((w3.setCell ⟨w.heap.size + 1, 0, none⟩ (.slice none 0 0)).setCell ⟨w.heap.size + 1 + 1, 0, none⟩ (.iface 96 (.int .i64 k))) := (BW3.out.setCell (by simp) _).setCell (by show _ ≤ w.heap.size + 1 + 1; omega) _
 simp [bodyPostD, Leaves, results, Tryz.results19, go_sem, hcA, hcB, hbF]
set_option maxHeartbeats 6400000 in
theorem value_3 (x : Evl) (w : World) (h : VaIn x w) (h0 : entErr x.es = 0) (h00 : rqErr x.q = 0) (h1 : treeErr x.e ≠ 0) :
   Calls Tryz.prog 19 #[.slice x.Ea x.hs.length x.ec, .agg #[.string x.q.who.ty, .string x.q.who.id, .string x.q.act.ty, .string x.q.act.id, .string x.q.what.ty, .string x.q.what.id, .slice x.qa x.q.ctx.length x.qc], .slice x.ea x.e.length x.eca] w fun r w' => r = .returned (.tuple #[.slice none 0 0, errV (treeErr x.e)]) ∧ RowKit.Below w.heap.size w w' := by
 have hmf : ∀ (fn : Fn) (first cap : Array Value) (w : World), (Instr.makeFunc fn first cap).run Tryz.prog w = .ok (.func fn first cap) w := fun _ _ _ _ => rfl
 have HE := Lib.hid (fun W (hb : RowKit.Below w.heap.size w W) => ent_Check x.hs x.es x.Ea x.ec W (h.later hb).ents h.ec)
 have HA := Lib.hid (fun W (hb : RowKit.Below w.heap.size w W) => eval_Ask x.q x.qa x.qc W h.qz.1 h.qz.2.1 h.qz.2.2 h.qc.1 h.qc.2 h.qk (h.later hb).ctx)
 have HT := Lib.hid (fun W (hb : RowKit.Below w.heap.size w W) => tree_Check x.e x.ea x.eca W h.eca.1 h.eca.2 h.ek (h.later hb).ex)
 have HH := Lib.hid h
 have b0 : Blk (((w.alloc (.cells #[.string x.q.who.ty, .string x.q.who.id, .string x.q.act.ty, .string x.q.act.id, .string x.q.what.ty, .string x.q.what.id, .slice x.qa x.q.ctx.length x.qc] 39)).alloc (.cells #[.slice none 0 0] 22)).alloc (.cells #[.nilIface] 27)) w.heap.size 39 #[.string x.q.who.ty, .string x.q.who.id, .string x.q.act.ty, .string x.q.act.id, .string x.q.what.ty, .string x.q.what.id, .slice x.qa x.q.ctx.length x.qc] := ((Blk.new w _ _).alloc _).alloc _
 have b1 : Blk (((w.alloc (.cells #[.string x.q.who.ty, .string x.q.who.id, .string x.q.act.ty, .string x.q.act.id, .string x.q.what.ty, .string x.q.what.id, .slice x.qa x.q.ctx.length x.qc] 39)).alloc (.cells #[.slice none 0 0] 22)).alloc (.cells #[.nilIface] 27)) (w.heap.size + 1) 22 #[.slice none 0 0] := by
   have := (Blk.new (w.alloc (.cells #[.string x.q.who.ty, .string x.q.who.id, .string x.q.act.ty, .string x.q.act.id, .string x.q.what.ty, .string x.q.what.id, .slice x.qa x.q.ctx.length x.qc] 39)) 22 #[.slice none 0 0]).alloc (.cells #[.nilIface] 27)
   rwa [World.size_alloc] at this
 have b2 : Blk (((w.alloc (.cells #[.string x.q.who.ty, .string x.q.who.id, .string x.q.act.ty, .string x.q.act.id, .string x.q.what.ty, .string x.q.what.id, .slice x.qa x.q.ctx.length x.qc] 39)).alloc (.cells #[.slice none 0 0] 22)).alloc (.cells #[.nilIface] 27)) (w.heap.size + 1 + 1) 27 #[.nilIface] := by
   have := Blk.new ((w.alloc (.cells #[.string x.q.who.ty, .string x.q.who.id, .string x.q.act.ty, .string x.q.act.id, .string x.q.what.ty, .string x.q.what.id, .slice x.qa x.q.ctx.length x.qc] 39)).alloc (.cells #[.slice none 0 0] 22)) 27 #[.nilIface]
   rwa [World.size_alloc, World.size_alloc] at this
 have hb0 : RowKit.Below w.heap.size w (((w.alloc (.cells #[.string x.q.who.ty, .string x.q.who.id, .string x.q.act.ty, .string x.q.act.id, .string x.q.what.ty, .string x.q.what.id, .slice x.qa x.q.ctx.length x.qc] 39)).alloc (.cells #[.slice none 0 0] 22)).alloc (.cells #[.nilIface] 27)) := by (repeat (first | assumption | exact Below.refl _ _ | apply Below.drew | apply below_drewN | (refine Below.alloc ?_ (by first | exact Nat.le_refl _ | omega | (simp; done) | (simp; omega)) _)))
 have he0 : errV (entErr x.es) = .nilIface := by rw [h0]; rfl
 have he00 : errV (rqErr x.q) = .nilIface := by rw [h00]; rfl
 generalize treeErr x.e = k at h1 HT ⊢
 have he1 : errV k = .iface 96 (.int .i64 k) := by unfold errV; rw [if_neg h1]
 rw [he1]
 clear h1
 clear h
 go_enter_defers Tryz.func19, Tryz.ntmps19
 go_wp2_with fail
 generalize (((w.alloc (.cells #[.string x.q.who.ty, .string x.q.who.id, .string x.q.act.ty, .string x.q.act.id, .string x.q.what.ty, .string x.q.what.id, .slice x.qa x.q.ctx.length x.qc] 39)).alloc (.cells #[.slice none 0 0] 22)).alloc (.cells #[.nilIface] 27)) = w1 at b0 b1 b2 hb0 ⊢
 have B01 := Lib.hid b0
 have B11 := Lib.hid b1
 have B21 := Lib.hid b2
 have BW1 := Lib.hid hb0
 clear b0 b1 b2 hb0
 refine (HE.out w1 BW1.out).mono ?_
 rintro r w2 ⟨hr, hb2⟩
 rw [he0] at hr
 subst hr
 have B02 := Lib.hid (B01.out.below hb2 B01.out.lt)
 have B12 := Lib.hid (B11.out.below hb2 B11.out.lt)
 have B22 := Lib.hid (B21.out.below hb2 B21.out.lt)
 have BW2 := Lib.hid (BW1.out.trans (hb2.mono BW1.out.size))
 clear hb2
 have q20 : w2.cell? ⟨w.heap.size, 0, none⟩ = some (.string x.q.who.ty) := B02.out.cell 0
 have q21 : w2.cell? ⟨w.heap.size, 1, none⟩ = some (.string x.q.who.id) := B02.out.cell 1
 have q22 : w2.cell? ⟨w.heap.size, 2, none⟩ = some (.string x.q.act.ty) := B02.out.cell 2
 have q23 : w2.cell? ⟨w.heap.size, 3, none⟩ = some (.string x.q.act.id) := B02.out.cell 3
 have q24 : w2.cell? ⟨w.heap.size, 4, none⟩ = some (.string x.q.what.ty) := B02.out.cell 4
 have q25 : w2.cell? ⟨w.heap.size, 5, none⟩ = some (.string x.q.what.id) := B02.out.cell 5
 have q26 : w2.cell? ⟨w.heap.size, 6, none⟩ = some (.slice x.qa x.q.ctx.length x.qc) := B02.out.cell 6
 go_wp2_with fail
 refine (HA.out w2 BW2.out).mono ?_
 rintro r w3 ⟨hr, hb3⟩
 rw [he00] at hr
 subst hr
 have B03 := Lib.hid (B02.out.below hb3 B02.out.lt)
 have B13 := Lib.hid (B12.out.below hb3 B12.out.lt)
 have B23 := Lib.hid (B22.out.below hb3 B22.out.lt)
 have BW3 := Lib.hid (BW2.out.trans (hb3.mono BW2.out.size))
 clear hb3
 go_wp2_with fail
 refine (HT.out w3 BW3.out).mono ?_
 rintro r w4 ⟨hr, hb4⟩
 rw [he1] at hr
 subst hr
 have B04 := Lib.hid (B03.out.below hb4 B03.out.lt)
 have B14 := Lib.hid (B13.out.below hb4 B13.out.lt)
 have B24 := Lib.hid (B23.out.below hb4 B23.out.lt)
 have BW4 := Lib.hid (BW3.out.trans (hb4.mono BW3.out.size))
 clear hb4
 have c1 : w4.cell? ⟨w.heap.size + 1, 0, none⟩ = some (.slice none 0 0) := B14.out.cell 0
 have f1 : w4.frozen? ⟨w.heap.size + 1, 0, none⟩ = false := B14.out.frozen 0
 have c2 : w4.cell? ⟨w.heap.size + 1 + 1, 0, none⟩ = some .nilIface := B24.out.cell 0
 have f2 : w4.frozen? ⟨w.heap.size + 1 + 1, 0, none⟩ = false := B24.out.frozen 0
 clear he1 he0 he00
 go_wp2_with fail
 have hcA : (w4.setCell ⟨w.heap.size + 1, 0, none⟩ (.slice none 0 0)).cell? ⟨w.heap.size + 1, 0, none⟩ = some (.slice none 0 0) := World.cell?_setCell_same _ _ _ c1
 have hcB : ((w4.setCell ⟨w.heap.size + 1, 0, none⟩ (.slice none 0 0)).setCell ⟨w.heap.size + 1 + 1, 0, none⟩ (.iface 96 (.int .i64 k))).cell? ⟨w.heap.size + 1 + 1, 0, none⟩ = some (.iface 96 (.int .i64 k)) :=
   World.cell?_setCell_same _ _ _ ((World.cell?_of_block (w := w4) (a := ⟨w.heap.size + 1 + 1, 0, none⟩) (RowKit.Below.heap_setCell _ _ _ _ (by simp))).trans c2)
 have hbF : RowKit.Below w.heap.size w ((w4.setCell ⟨w.heap.size + 1, 0, none⟩ (.slice none 0 0)).setCell ⟨w.heap.size + 1 + 1, 0, none⟩ (.iface 96 (.int .i64 k))) := (BW4.out.setCell (by simp) _).setCell (by show _ ≤ w.heap.size + 1 + 1; omega) _
 simp [bodyPostD, Leaves, results, Tryz.results19, go_sem, hcA, hcB, hbF]
theorem VaIn.evin {x : Evl} {w w' : World} (h : VaIn x w) (h1 : entErr x.es = 0) (h2 : rqErr x.q = 0) (h3 : x.e.length ≤ 200) (hb : RowKit.Below w.heap.size w w') : EvIn x w.heap.size w' :=
 ⟨h.ents.sl.below hb, h.ents.ens.below hb, h.ents.uz, h.ents.pz, h.ents.az, h.ai, h.ec, h1, h.ctx.below hb, h.qc, h.qk, h.qi, h2, h.qz, h.ex.below hb, h.eca, h.ek, h.ei, h3, h.err.below hb h.err.lt, h.err.lt⟩
end Go.Proofs.YtpheiojmcafolaaGreatDoor
namespace Go.Proofs.YtpheiojmcafolaaGreatDoor
set_option maxRecDepth 100000
open Go.RowKit Go.Sort
set_option maxHeartbeats 6400000 in
theorem value_4 (x : Evl) (w : World) (h : VaIn x w) (h0 : entErr x.es = 0) (h00 : rqErr x.q = 0) (h1 : treeErr x.e = 0) (hf : FewIn x) :
   Calls Tryz.prog 19 #[.slice x.Ea x.hs.length x.ec, .agg #[.string x.q.who.ty, .string x.q.who.id, .string x.q.act.ty, .string x.q.act.id, .string x.q.what.ty, .string x.q.what.id, .slice x.qa x.q.ctx.length x.qc], .slice x.ea x.e.length x.eca] w fun r w' => (∀ v, evX x.es x.q x.e = .ok v → NdsNewE w r w' v 0) ∧ (∀ k, evX x.es x.q x.e = .bad k → r = .returned (.tuple #[.slice none 0 0, .iface 96 (.int .i64 k)]) ∧ RowKit.Below w.heap.size w w') := by
 have hmf : ∀ (fn : Fn) (first cap : Array Value) (w : World), (Instr.makeFunc fn first cap).run Tryz.prog w = .ok (.func fn first cap) w := fun _ _ _ _ => rfl
 have HE := Lib.hid (fun W (hb : RowKit.Below w.heap.size w W) => ent_Check x.hs x.es x.Ea x.ec W (h.later hb).ents h.ec)
 have HA := Lib.hid (fun W (hb : RowKit.Below w.heap.size w W) => eval_Ask x.q x.qa x.qc W h.qz.1 h.qz.2.1 h.qz.2.2 h.qc.1 h.qc.2 h.qk (h.later hb).ctx)
 have HT := Lib.hid (fun W (hb : RowKit.Below w.heap.size w W) => tree_Check x.e x.ea x.eca W h.eca.1 h.eca.2 h.ek (h.later hb).ex)
 have HH := Lib.hid h
 have b0 : Blk (((w.alloc (.cells #[.string x.q.who.ty, .string x.q.who.id, .string x.q.act.ty, .string x.q.act.id, .string x.q.what.ty, .string x.q.what.id, .slice x.qa x.q.ctx.length x.qc] 39)).alloc (.cells #[.slice none 0 0] 22)).alloc (.cells #[.nilIface] 27)) w.heap.size 39 #[.string x.q.who.ty, .string x.q.who.id, .string x.q.act.ty, .string x.q.act.id, .string x.q.what.ty, .string x.q.what.id, .slice x.qa x.q.ctx.length x.qc] := ((Blk.new w _ _).alloc _).alloc _
 have b1 : Blk (((w.alloc (.cells #[.string x.q.who.ty, .string x.q.who.id, .string x.q.act.ty, .string x.q.act.id, .string x.q.what.ty, .string x.q.what.id, .slice x.qa x.q.ctx.length x.qc] 39)).alloc (.cells #[.slice none 0 0] 22)).alloc (.cells #[.nilIface] 27)) (w.heap.size + 1) 22 #[.slice none 0 0] := by
   have := (Blk.new (w.alloc (.cells #[.string x.q.who.ty, .string x.q.who.id, .string x.q.act.ty, .string x.q.act.id, .string x.q.what.ty, .string x.q.what.id, .slice x.qa x.q.ctx.length x.qc] 39)) 22 #[.slice none 0 0]).alloc (.cells #[.nilIface] 27)
   rwa [World.size_alloc] at this
 have b2 : Blk (((w.alloc (.cells #[.string x.q.who.ty, .string x.q.who.id, .string x.q.act.ty, .string x.q.act.id, .string x.q.what.ty, .string x.q.what.id, .slice x.qa x.q.ctx.length x.qc] 39)).alloc (.cells #[.slice none 0 0] 22)).alloc (.cells #[.nilIface] 27)) (w.heap.size + 1 + 1) 27 #[.nilIface] := by
   have := Blk.new ((w.alloc (.cells #[.string x.q.who.ty, .string x.q.who.id, .string x.q.act.ty, .string x.q.act.id, .string x.q.what.ty, .string x.q.what.id, .slice x.qa x.q.ctx.length x.qc] 39)).alloc (.cells #[.slice none 0 0] 22)) 27 #[.nilIface]
   rwa [World.size_alloc, World.size_alloc] at this
 have hb0 : RowKit.Below w.heap.size w (((w.alloc (.cells #[.string x.q.who.ty, .string x.q.who.id, .string x.q.act.ty, .string x.q.act.id, .string x.q.what.ty, .string x.q.what.id, .slice x.qa x.q.ctx.length x.qc] 39)).alloc (.cells #[.slice none 0 0] 22)).alloc (.cells #[.nilIface] 27)) := by (repeat (first | assumption | exact Below.refl _ _ | apply Below.drew | apply below_drewN | (refine Below.alloc ?_ (by first | exact Nat.le_refl _ | omega | (simp; done) | (simp; omega)) _)))
 have he0 : errV (entErr x.es) = .nilIface := by rw [h0]; rfl
 have he00 : errV (rqErr x.q) = .nilIface := by rw [h00]; rfl
 have he1 : errV (treeErr x.e) = .nilIface := by rw [h1]; rfl
 obtain ⟨hl200, hex⟩ := (tree_iff x.e).1 h1
 have HNX := Lib.hid (fun W (hb : RowKit.Below w.heap.size w W) => (next_all x hf 200 x.e hl200 hl200 hex) 0 W.heap.size [] (W.alloc (.cells (x.cells 0) 99)) (by simp) ((h.later hb).evin h0 h00 hl200 ((RowKit.Below.refl _ W).alloc (Nat.le_refl _) _)) (Blk.new W _ _))
 have hvv : ∀ v, evX x.es x.q x.e = .ok v → v.length ≤ 200 ∧ v ≠ [] := fun v hv => by
   have hv0 : valErr v = 0 := evE_vx h00 x.e.length x.e hex hv
   have h2 := (val_iff v).1 hv0
   obtain ⟨y, r, e, _⟩ := h2.2.ne
   exact ⟨h2.1, by rw [e]; simp⟩
 have HVL := Lib.hid (fun v (hv : evX x.es x.q x.e = .ok v) => (hvv v hv).1)
 have HNE := Lib.hid (fun v (hv : evX x.es x.q x.e = .ok v) => (hvv v hv).2)
 obtain ⟨q, hq⟩ : ∃ q, q = evX x.es x.q x.e := ⟨_, rfl⟩
 rw [← hq] at HNX HVL HNE ⊢
 clear hvv hq h0 h00 h1 hf hl200 hex
 clear h
 go_enter_defers Tryz.func19, Tryz.ntmps19
 go_wp2_with fail
 generalize (((w.alloc (.cells #[.string x.q.who.ty, .string x.q.who.id, .string x.q.act.ty, .string x.q.act.id, .string x.q.what.ty, .string x.q.what.id, .slice x.qa x.q.ctx.length x.qc] 39)).alloc (.cells #[.slice none 0 0] 22)).alloc (.cells #[.nilIface] 27)) = w1 at b0 b1 b2 hb0 ⊢
 have B01 := Lib.hid b0
 have B11 := Lib.hid b1
 have B21 := Lib.hid b2
 have BW1 := Lib.hid hb0
 clear b0 b1 b2 hb0
 refine (HE.out w1 BW1.out).mono ?_
 rintro r w2 ⟨hr, hb2⟩
 rw [he0] at hr
 subst hr
 have B02 := Lib.hid (B01.out.below hb2 B01.out.lt)
 have B12 := Lib.hid (B11.out.below hb2 B11.out.lt)
 have B22 := Lib.hid (B21.out.below hb2 B21.out.lt)
 have BW2 := Lib.hid (BW1.out.trans (hb2.mono BW1.out.size))
 clear hb2
 have q20 : w2.cell? ⟨w.heap.size, 0, none⟩ = some (.string x.q.who.ty) := B02.out.cell 0
 have q21 : w2.cell? ⟨w.heap.size, 1, none⟩ = some (.string x.q.who.id) := B02.out.cell 1
 have q22 : w2.cell? ⟨w.heap.size, 2, none⟩ = some (.string x.q.act.ty) := B02.out.cell 2
 have q23 : w2.cell? ⟨w.heap.size, 3, none⟩ = some (.string x.q.act.id) := B02.out.cell 3
 have q24 : w2.cell? ⟨w.heap.size, 4, none⟩ = some (.string x.q.what.ty) := B02.out.cell 4
 have q25 : w2.cell? ⟨w.heap.size, 5, none⟩ = some (.string x.q.what.id) := B02.out.cell 5
 have q26 : w2.cell? ⟨w.heap.size, 6, none⟩ = some (.slice x.qa x.q.ctx.length x.qc) := B02.out.cell 6
 go_wp2_with fail
 refine (HA.out w2 BW2.out).mono ?_
 rintro r w3 ⟨hr, hb3⟩
 rw [he00] at hr
 subst hr
 have B03 := Lib.hid (B02.out.below hb3 B02.out.lt)
 have B13 := Lib.hid (B12.out.below hb3 B12.out.lt)
 have B23 := Lib.hid (B22.out.below hb3 B22.out.lt)
 have BW3 := Lib.hid (BW2.out.trans (hb3.mono BW2.out.size))
 clear hb3
 go_wp2_with fail
 refine (HT.out w3 BW3.out).mono ?_
 rintro r w4 ⟨hr, hb4⟩
 rw [he1] at hr
 subst hr
 have B04 := Lib.hid (B03.out.below hb4 B03.out.lt)
 have B14 := Lib.hid (B13.out.below hb4 B13.out.lt)
 have B24 := Lib.hid (B23.out.below hb4 B23.out.lt)
 have BW4 := Lib.hid (BW3.out.trans (hb4.mono BW3.out.size))
 clear hb4
 have q40 : w4.cell? ⟨w.heap.size, 0, none⟩ = some (.string x.q.who.ty) := B04.out.cell 0
 have q41 : w4.cell? ⟨w.heap.size, 1, none⟩ = some (.string x.q.who.id) := B04.out.cell 1
 have q42 : w4.cell? ⟨w.heap.size, 2, none⟩ = some (.string x.q.act.ty) := B04.out.cell 2
 have q43 : w4.cell? ⟨w.heap.size, 3, none⟩ = some (.string x.q.act.id) := B04.out.cell 3
 have q44 : w4.cell? ⟨w.heap.size, 4, none⟩ = some (.string x.q.what.ty) := B04.out.cell 4
 have q45 : w4.cell? ⟨w.heap.size, 5, none⟩ = some (.string x.q.what.id) := B04.out.cell 5
 have q46 : w4.cell? ⟨w.heap.size, 6, none⟩ = some (.slice x.qa x.q.ctx.length x.qc) := B04.out.cell 6
 clear he0 he00 he1
 go_wp2_with fail
 refine (HNX.out w4 BW4.out).mono ?_
 rintro r w6 ⟨g1, g2, ho6⟩
 have hz4 := BW4.out.size
 have hB16 : Blk w6 (w.heap.size + 1) 22 #[.slice none 0 0] := (B14.out.alloc _).only ho6 (by have := B14.out.lt; simp; omega) (by have := B14.out.lt; omega)
 have hB26 : Blk w6 (w.heap.size + 1 + 1) 27 #[.nilIface] := (B24.out.alloc _).only ho6 (by have := B24.out.lt; simp; omega) (by have := B24.out.lt; omega)
 have hbw6 : RowKit.Below w.heap.size w w6 := (BW4.out.alloc BW4.out.size _).trans (ho6.below (by simp; omega) (by omega))
 have c1 : w6.cell? ⟨w.heap.size + 1, 0, none⟩ = some (.slice none 0 0) := hB16.cell 0
 have f1 : w6.frozen? ⟨w.heap.size + 1, 0, none⟩ = false := hB16.frozen 0
 have c2 : w6.cell? ⟨w.heap.size + 1 + 1, 0, none⟩ = some .nilIface := hB26.cell 0
 have f2 : w6.frozen? ⟨w.heap.size + 1 + 1, 0, none⟩ = false := hB26.frozen 0
 have BW6 := Lib.hid hbw6
 have HB16 := Lib.hid hB16
 have HB26 := Lib.hid hB26
 clear hB16 hB26 hbw6
 cases q with
 | bad k =>
   have hr := g2 k rfl
   subst hr
   clear g1 g2 ho6
   go_wp2_with fail
   refine leaves_cons (f := 50) (args := #[.pointer (some ⟨w.heap.size + 1, 0, none⟩), .pointer (some ⟨w.heap.size + 1 + 1, 0, none⟩)]) (by simp) (by simp [go_sem]) ?_
   refine (ev_catch ⟨w.heap.size + 1, 0, none⟩ ⟨w.heap.size + 1 + 1, 0, none⟩ _ _ k _ c1 f1 c2 f2 (by simp)).mono ?_
   rintro e' u' w'' ⟨rfl, rfl, rfl⟩
   have hcA : (w6.setCell ⟨w.heap.size + 1, 0, none⟩ (.slice none 0 0)).cell? ⟨w.heap.size + 1, 0, none⟩ = some (.slice none 0 0) := World.cell?_setCell_same _ _ _ c1
   have hcB : ((w6.setCell ⟨w.heap.size + 1, 0, none⟩ (.slice none 0 0)).setCell ⟨w.heap.size + 1 + 1, 0, none⟩ (.iface 96 (.int .i64 k))).cell? ⟨w.heap.size + 1 + 1, 0, none⟩ = some (.iface 96 (.int .i64 k)) :=
     World.cell?_setCell_same _ _ _ ((World.cell?_of_block (w := w6) (a := ⟨w.heap.size + 1 + 1, 0, none⟩) (RowKit.Below.heap_setCell _ _ _ _ (by simp))).trans c2)
   have hbF : RowKit.Below w.heap.size w ((w6.setCell ⟨w.heap.size + 1, 0, none⟩ (.slice none 0 0)).setCell ⟨w.heap.size + 1 + 1, 0, none⟩ (.iface 96 (.int .i64 k))) := (BW6.out.setCell (by simp) _).setCell (by show _ ≤ w.heap.size + 1 + 1; omega) _
   simp [Leaves, settle, results, Tryz.results19, go_sem, hcA, hcB, hbF]
 | ok v =>
   obtain ⟨A, c, rfl, k1, k2, k3, -⟩ := g1 v rfl
   have HCL := Lib.hid (clone_value v A c w6 k3.sl (HVL.out v rfl))
   clear g1 g2 ho6
   go_wp2_with fail
   refine HCL.out.mono ?_
   rintro r w7 ⟨A7, c7, rfl, l1, l2, l3, hb7⟩
   have d1 : w7.cell? ⟨w.heap.size + 1, 0, none⟩ = some (.slice none 0 0) := (HB16.out.below hb7 HB16.out.lt).cell 0
   have e1 : w7.frozen? ⟨w.heap.size + 1, 0, none⟩ = false := (HB16.out.below hb7 HB16.out.lt).frozen 0
   have d2 : w7.cell? ⟨w.heap.size + 1 + 1, 0, none⟩ = some .nilIface := (HB26.out.below hb7 HB26.out.lt).cell 0
   have e2 : w7.frozen? ⟨w.heap.size + 1 + 1, 0, none⟩ = false := (HB26.out.below hb7 HB26.out.lt).frozen 0
   have BW7 := Lib.hid (BW6.out.trans (hb7.mono BW6.out.size))
   have L3 := Lib.hid l3
   clear l3 hb7
   go_wp2_with fail
   refine leaves_cons (f := 50) (args := #[.pointer (some ⟨w.heap.size + 1, 0, none⟩), .pointer (some ⟨w.heap.size + 1 + 1, 0, none⟩)]) (by simp) (by simp [go_sem]) ?_
   refine (ev_idle ⟨w.heap.size + 1, 0, none⟩ ⟨w.heap.size + 1 + 1, 0, none⟩ _).mono ?_
   rintro e' u' w'' ⟨rfl, rfl, rfl⟩
   have hcA7 : (w7.setCell ⟨w.heap.size + 1, 0, none⟩ (.slice A7 v.length c7)).cell? ⟨w.heap.size + 1, 0, none⟩ = some (.slice A7 v.length c7) := World.cell?_setCell_same _ _ _ d1
   have hcB7 : ((w7.setCell ⟨w.heap.size + 1, 0, none⟩ (.slice A7 v.length c7)).setCell ⟨w.heap.size + 1 + 1, 0, none⟩ .nilIface).cell? ⟨w.heap.size + 1 + 1, 0, none⟩ = some .nilIface :=
     World.cell?_setCell_same _ _ _ ((World.cell?_of_block (w := w7) (a := ⟨w.heap.size + 1 + 1, 0, none⟩) (RowKit.Below.heap_setCell _ _ _ _ (by simp))).trans d2)
   have hbF : RowKit.Below w.heap.size w ((w7.setCell ⟨w.heap.size + 1, 0, none⟩ (.slice A7 v.length c7)).setCell ⟨w.heap.size + 1 + 1, 0, none⟩ .nilIface) := (BW7.out.setCell (by simp) _).setCell (by show _ ≤ w.heap.size + 1 + 1; omega) _
   have hz6 : w.heap.size + 1 + 1 < w6.heap.size := HB26.out.lt
   have hN : NdsNewE w (.returned (.tuple #[.slice A7 v.length c7, errV 0])) ((w7.setCell ⟨w.heap.size + 1, 0, none⟩ (.slice A7 v.length c7)).setCell ⟨w.heap.size + 1 + 1, 0, none⟩ .nilIface) v 0 := by
     obtain ⟨b, o, e1', e2', e3', e4'⟩ := L3.out (fun b => b < w6.heap.size) (fun b h => h) (HNE.out v rfl)
     have hc : ∀ i, ((w7.setCell ⟨w.heap.size + 1, 0, none⟩ (.slice A7 v.length c7)).setCell ⟨w.heap.size + 1 + 1, 0, none⟩ .nilIface).cell? ⟨b, i, none⟩ = w7.cell? ⟨b, i, none⟩ := fun i =>
       World.cell?_of_block (w := w7) (a := ⟨b, i, none⟩) ((RowKit.Below.heap_setCell _ _ _ _ (by show b ≠ w.heap.size + 1 + 1; omega)).trans (RowKit.Below.heap_setCell _ _ _ _ (by show b ≠ w.heap.size + 1; omega)))
     refine ⟨A7, c7, rfl, l1, l2, fun _ => ⟨b, o, e1', by simpa [World.setCell] using e2', fun i y hy => ?_⟩, hbF, fun b' o' e => ?_⟩
     · obtain ⟨q0, q1, q2, q3⟩ := e4' i y hy
       exact ⟨(hc _).trans q0, (hc _).trans q1, (hc _).trans q2, (hc _).trans q3⟩
     · rw [e] at e1'; injection e1' with e1'; injection e1' with e1' _; omega
   simp [Leaves, settle, results, Tryz.results19, go_sem, hcA7, hcB7]
   exact hN
end Go.Proofs.YtpheiojmcafolaaGreatDoor
namespace Go.Proofs.YtpheiojmcafolaaGreatDoor
set_option maxRecDepth 100000
def BadNZ {α : Type} (r : Rs α) : Prop := ∀ k, r = .bad k → k ≠ 0
theorem nz_ok {α : Type} (v : α) : BadNZ (.ok v) := fun _ h => nomatch h
theorem nz_bad {α : Type} {k : Int} (h : k ≠ 0) : BadNZ (.bad k : Rs α) := fun j e => by injection e with e; rw [← e]; exact h
theorem nz_guard {α : Type} {k : Int} {b : Rs α} (hb : BadNZ b) : BadNZ (if k ≠ 0 then .bad k else b) := by
 by_cases h : k ≠ 0
 · rw [if_pos h]; exact nz_bad h
 · rw [if_neg h]; exact hb
theorem nz_ite {α : Type} {c : Prop} [Decidable c] {a b : Rs α} (ha : BadNZ a) (hb : BadNZ b) : BadNZ (if c then a else b) := by
 by_cases h : c
 · rw [if_pos h]; exact ha
 · rw [if_neg h]; exact hb
theorem nz_bind {α β : Type} {r : Rs α} {f : α → Rs β} (hr : BadNZ r) (hf : ∀ v, BadNZ (f v)) : BadNZ (r.bind f) := by
 cases r with
 | ok v => exact hf v
 | bad k => exact nz_bad (hr k rfl)
theorem nz_must {r : Rs (List Nd)} {op : Int} (h : BadNZ r) : BadNZ (mustV r op) := nz_bind h fun v => nz_ite (nz_ok _) (nz_bad (by decide))
theorem nz_num (op a b : Int) : BadNZ (numR op a b) := nz_ite (nz_ite (nz_ok _) (nz_bad (by decide))) (nz_ite (nz_ite (nz_ok _) (nz_bad (by decide))) (nz_ite (nz_ite (nz_ok _) (nz_bad (by decide))) (nz_bad (by decide))))
theorem nz_like (p s : List UInt8) : BadNZ (likeR p s) := nz_guard (nz_guard (nz_ok _))
theorem nz_parts (v : List Nd) : BadNZ (partsR v) := nz_guard (nz_ite (nz_ok _) (nz_ite (nz_ok _) (nz_bad (by decide))))
theorem nz_get (v : List Nd) (s : ByteArray) : BadNZ (getR v s) := fun _ h => getR_bad h
theorem nz_recOf (es : List En) (v : List Nd) : BadNZ (recOf es v) := fun _ h => by rw [recOf_bad h]; decide
theorem nz_set (vs : List (List Nd)) : BadNZ (setR vs) := fun _ h => set_bad h
theorem nz_rec (fs : List (ByteArray × List Nd)) : BadNZ (recR fs) := fun _ h => rec_bad h
theorem nz_single (es : List En) (x : Nd) (v : List Nd) : BadNZ (singleR es x v) :=
 nz_ite (nz_bind (nz_must (nz_ok _)) fun _ => nz_ok _) (nz_ite (nz_bind (nz_must (nz_ok _)) fun _ => nz_bind (nz_num _ _ _) fun _ => nz_ok _)
   (nz_ite (nz_bind (nz_must (nz_ok _)) fun _ => nz_bind (nz_like _ _) fun _ => nz_ok _) (nz_ite (nz_bind (nz_must (nz_ok _)) fun _ => nz_ok _)
     (nz_bind (nz_recOf _ _) fun r => by
       cases r with
       | none => exact nz_ite (nz_ok _) (nz_bad (by decide))
       | some r =>
         refine nz_ite ?_ (nz_get _ _)
         cases getR r x.s with
         | ok _ => exact nz_ok _
         | bad _ => exact nz_ok _))))
theorem nz_bagTwo (f : List (List Nd) → List (List Nd) → Bool) (a b : List Nd) : BadNZ (bagTwo f a b) := by
 unfold bagTwo
 repeat (first | exact nz_ok _ | exact nz_bad (by decide) | refine nz_guard ?_ | refine nz_ite ?_ ?_ | refine nz_bind (nz_parts _) fun _ => ?_)
theorem nz_bagHas (a b : List Nd) : BadNZ (bagHas a b) := by
 unfold bagHas
 repeat (first | exact nz_ok _ | exact nz_bad (by decide) | refine nz_guard ?_ | refine nz_ite ?_ ?_ | refine nz_bind (nz_parts _) fun _ => ?_)
theorem nz_in (es : List En) (a b : List Nd) : BadNZ (inR' es a b) :=
 nz_bind (nz_must (nz_ok _)) fun _ => nz_bind (nz_ite (nz_parts _) (nz_ok _)) fun _ => nz_ite (nz_ok _) (nz_bad (by decide))
theorem nz_double (es : List En) (op : Int) (a b : List Nd) : BadNZ (doubleR es op a b) :=
 nz_ite (nz_ok _) (nz_ite (nz_bind (nz_in _ _ _) fun _ => nz_ok _) (nz_ite (nz_bind (nz_bagHas _ _) fun _ => nz_ok _) (nz_ite (nz_bind (nz_bagTwo _ _ _) fun _ => nz_ok _) (nz_ite (nz_bind (nz_bagTwo _ _ _) fun _ => nz_ok _)
   (nz_bind (nz_must (nz_ok _)) fun _ => nz_bind (nz_must (nz_ok _)) fun _ => nz_ite (nz_ok _) (nz_ite (nz_ok _) (nz_bind (nz_num _ _ _) fun _ => nz_ok _)))))))
theorem nz_named (q : Rq) (s : List UInt8) : BadNZ (namedR q s) := nz_ite (nz_ok _) (nz_ite (nz_ok _) (nz_ite (nz_ok _) (nz_ite (nz_ok _) (nz_bad (by decide)))))
theorem nz_either {op : Int} {a b : Rs (List Nd)} (ha : BadNZ a) (hb : BadNZ b) : BadNZ (eitherR op a b) := nz_bind (nz_must ha) fun _ => nz_ite (nz_ok _) (nz_must hb)
theorem nz_choice {c a b : Rs (List Nd)} (hc : BadNZ c) (ha : BadNZ a) (hb : BadNZ b) : BadNZ (choiceR c a b) := nz_bind (nz_must hc) fun _ => nz_ite ha hb
theorem nz_all {α : Type} : ∀ {l : List (Rs α)}, (∀ r ∈ l, BadNZ r) → BadNZ (allR l)
 | [], _ => nz_ok _
 | r :: l, h => nz_bind (h r (by simp)) fun _ => nz_bind (nz_all fun q hq => h q (by simp [hq])) fun _ => nz_ok _
theorem nz_ev (es : List En) (q : Rq) : ∀ (N : Nat) (xs : List Nd), xs.length ≤ N → Ex (.one false) xs → BadNZ (evX es q xs)
 | 0, xs, hN, h => by
   obtain ⟨y, r, e, _⟩ := ex_ne h
   rw [e] at hN; simp at hN
 | N + 1, xs, hN, h => by
   cases h with
   | one n body _ hs h7 hb =>
     obtain ⟨ps, hc, hfl, hK⟩ := ex_pieces hb
     subst hfl
     have hex := exk_all hK
     have h7' : ¬ n.op = 7 := by simpa using h7
     rw [List.length_cons] at hN
     have hin : ∀ p ∈ ps, ¬ n.op = 6 → Ex (.one false) p := fun p hp h6 => by
       have := hex p hp
       rwa [show (n.op == 6) = false by simp [h6]] at this
     have ih : ¬ n.op = 6 → ∀ p ∈ ps, BadNZ (evX es q p) := fun h6 p hp => by
       have := part_le hp
       exact nz_ev es q N p (by omega) (hin p hp h6)
     have hcase : (n.op = 1 ∨ n.op = 2 ∨ n.op = 3 ∨ n.op = 4 ∨ n.op = 8) ∧ ps.length = 0 ∨ (n.op = 5 ∨ n.op = 6) ∧ n.n = ps.length ∨ (n.op = 9 ∨ n.op = 10 ∨ n.op = 21 ∨ n.op = 22 ∨ n.op = 23 ∨ n.op = 24) ∧ ps.length = 1 ∨
         (n.op = 11 ∨ n.op = 12 ∨ n.op = 14 ∨ n.op = 15 ∨ n.op = 16 ∨ n.op = 17 ∨ n.op = 18 ∨ n.op = 19 ∨ n.op = 20 ∨ n.op = 25 ∨ n.op = 26 ∨ n.op = 27) ∧ ps.length = 2 ∨ n.op = 13 ∧ ps.length = 3 := by
       unfold ndParts at hc
       unfold shapedT at hs
       by_cases a1 : n.op = 1 ∨ n.op = 2 ∨ n.op = 3 ∨ n.op = 4 ∨ n.op = 8
       · rw [if_pos a1] at hc; left; exact ⟨a1, by simpa using hc⟩
       rw [if_neg a1] at hc
       by_cases a2 : n.op = 5 ∨ n.op = 6
       · rw [if_pos a2] at hc
         rw [if_neg (by omega), if_pos a2] at hs
         simp only [Bool.and_eq_true, decide_eq_true_eq] at hs
         right; left; exact ⟨a2, by have := hs.1.1; omega⟩
       rw [if_neg a2] at hc
       by_cases a3 : n.op = 7 ∨ n.op = 9 ∨ n.op = 10 ∨ n.op = 21 ∨ n.op = 22 ∨ n.op = 23 ∨ n.op = 24
       · rw [if_pos a3] at hc; right; right; left; exact ⟨by omega, by simpa using hc⟩
       rw [if_neg a3] at hc
       by_cases a4 : n.op = 11 ∨ n.op = 12 ∨ n.op = 14 ∨ n.op = 15 ∨ n.op = 16 ∨ n.op = 17 ∨ n.op = 18 ∨ n.op = 19 ∨ n.op = 20 ∨ n.op = 25 ∨ n.op = 26 ∨ n.op = 27
       · rw [if_pos a4] at hc; right; right; right; left; exact ⟨a4, by simpa using hc⟩
       rw [if_neg a4] at hc
       by_cases a5 : n.op = 13
       · rw [if_pos a5] at hc; right; right; right; right; exact ⟨a5, by simpa using hc⟩
       · exfalso
         rw [if_neg (by omega), if_neg a2, if_neg (by omega), if_neg (by omega), if_neg (by omega)] at hs
         simp only [Bool.and_eq_true, decide_eq_true_eq] at hs
         have h1 := hs.1.1.1
         unfold ndParts at h1
         rw [if_neg a1, if_neg a2, if_neg a3, if_neg a4, if_neg a5] at h1
         omega
     rcases hcase with ⟨ho, hlen⟩ | ⟨ho, hn⟩ | ⟨ho, hlen⟩ | ⟨ho, hlen⟩ | ⟨ho, hlen⟩
     · obtain rfl := List.eq_nil_of_length_eq_zero hlen
       rw [List.flatten_nil]
       rcases (show (n.op = 1 ∨ n.op = 2 ∨ n.op = 3 ∨ n.op = 4) ∨ n.op = 8 by omega) with e | e
       · rw [evX_leaf es q e]; exact nz_ok _
       · rw [evX_var es q e]; exact nz_named _ _
     · rw [evX_node es q hex]
       unfold nodeR
       rw [if_neg (by omega), if_neg (by omega)]
       by_cases h6 : n.op = 6
       · rw [show (n.op == 5) = false by simp [h6], show (n.op == 6) = true by simp [h6]]
         refine nz_bind (nz_all fun r hr => ?_) fun _ => nz_rec _
         obtain ⟨p, hp, rfl⟩ := List.mem_map.1 hr
         have h1 := hex p hp
         rw [show (n.op == 6) = true by simp [h6]] at h1
         obtain ⟨g1, g2⟩ := fld_tail h1
         have := part_le hp
         exact nz_ev es q N p.tail (by omega) g1
       · have h5 : n.op = 5 := by omega
         rw [show (n.op == 5) = true by simp [h5], show (n.op == 6) = false by simp [h6]]
         refine nz_bind (nz_all fun r hr => ?_) fun _ => nz_set _
         obtain ⟨p, hp, rfl⟩ := List.mem_map.1 hr
         exact ih h6 p hp
     · match ps, hlen with
       | [a], _ =>
         have h6 : ¬ n.op = 6 := by omega
         rw [show [a].flatten = a by simp, evX_one es q ho (hin a (by simp) h6)]
         exact nz_bind (ih h6 a (by simp)) fun _ => nz_single _ _ _
     · match ps, hlen with
       | [a, b], _ =>
         have h6 : ¬ n.op = 6 := by omega
         rw [show [a, b].flatten = a ++ b by simp]
         by_cases h11 : n.op = 11 ∨ n.op = 12
         · rw [evX_and es q h11 (hin a (by simp) h6) (hin b (by simp) h6)]
           exact nz_either (ih h6 a (by simp)) (ih h6 b (by simp))
         · rw [evX_two es q (by omega) (hin a (by simp) h6) (hin b (by simp) h6)]
           exact nz_bind (ih h6 a (by simp)) fun _ => nz_bind (ih h6 b (by simp)) fun _ => nz_double _ _ _ _
     · match ps, hlen with
       | [c, a, b], _ =>
         have h6 : ¬ n.op = 6 := by omega
         rw [show [c, a, b].flatten = c ++ (a ++ b) by simp, evX_if es q ho (hin c (by simp) h6) (hin a (by simp) h6) (hin b (by simp) h6)]
         exact nz_choice (ih h6 c (by simp)) (ih h6 a (by simp)) (ih h6 b (by simp))
end Go.Proofs.YtpheiojmcafolaaGreatDoor
namespace Go.Proofs.YtpheiojmcafolaaGreatDoor
set_option maxRecDepth 100000
open Go.RowKit Go.Sort
theorem few_of {e : List Nd} (h0 : treeErr e = 0) : ∀ y ∈ e, 0 ≤ ndParts y ∧ ndParts y ≤ 200 := fun y hy => by
 obtain ⟨j, hj⟩ := List.getElem?_of_mem hy
 obtain ⟨s, hs, hsl⟩ := tree_at h0 hj
 obtain ⟨_, _, q1, q2⟩ := bGo_parts hs hj
 have := (tree_len h0).1
 omega
theorem eval_Value (x : Evl) (w : World) (h : VaIn x w) :
   Calls Tryz.prog 19 #[.slice x.Ea x.hs.length x.ec, .agg #[.string x.q.who.ty, .string x.q.who.id, .string x.q.act.ty, .string x.q.act.id, .string x.q.what.ty, .string x.q.what.id, .slice x.qa x.q.ctx.length x.qc], .slice x.ea x.e.length x.eca] w fun r w' => NdsNewE w r w' (rsL (valueR x.es x.q x.e)) (rsE (valueR x.es x.q x.e)) := by
 unfold valueR
 by_cases h1 : entErr x.es = 0
 case neg =>
   rw [if_pos h1]
   refine (value_1 x w h h1).mono ?_
   rintro r w' ⟨rfl, hb⟩
   exact NdsNewE.none hb
 rw [if_neg (by simp [h1])]
 by_cases h2 : rqErr x.q = 0
 case neg =>
   rw [if_pos h2]
   refine (value_2 x w h h1 h2).mono ?_
   rintro r w' ⟨rfl, hb⟩
   exact NdsNewE.none hb
 rw [if_neg (by simp [h2])]
 by_cases h3 : treeErr x.e = 0
 case neg =>
   rw [if_pos h3]
   refine (value_3 x w h h1 h2 h3).mono ?_
   rintro r w' ⟨rfl, hb⟩
   exact NdsNewE.none hb
 rw [if_neg (by simp [h3])]
 refine (value_4 x w h h1 h2 h3 (few_of h3)).mono ?_
 rintro r w' ⟨g1, g2⟩
 have hne : ∀ k, evE x.es x.q x.e.length x.e = .bad k → k ≠ 0 := fun k hk => nz_ev x.es x.q _ x.e (Nat.le_refl _) ((tree_iff x.e).1 h3).2 k hk
 cases hq : evE x.es x.q x.e.length x.e with
 | ok v => exact g1 v hq
 | bad k =>
   obtain ⟨rfl, hb⟩ := g2 k hq
   have := NdsNewE.none (k := k) hb
   unfold errV at this
   rw [if_neg (hne k hq)] at this
   exact this
end Go.Proofs.YtpheiojmcafolaaGreatDoor
namespace Go.Proofs.YtpheiojmcafolaaGreatDoor
set_option maxRecDepth 100000
open Go.RowKit Go.Sort
set_option maxHeartbeats 3200000 in
theorem auth_first (k1 k2 k3 : Int) (b c : Nat) (w : World) (h1 : w.cell? ⟨b, 0, none⟩ = some (errV k1)) (h2 : w.cell? ⟨b, 1, none⟩ = some (errV k2)) (h3 : w.cell? ⟨b, 2, none⟩ = some (errV k3)) :
   Calls Tryz.prog 71 #[.slice (some ⟨b, 0, none⟩) 3 c] w fun r w' => r = .returned (errV (if k1 ≠ 0 then k1 else if k2 ≠ 0 then k2 else k3)) ∧ w' = w := by
 obtain ⟨k, hk⟩ : ∃ k, k = if k1 ≠ 0 then k1 else if k2 ≠ 0 then k2 else k3 := ⟨_, rfl⟩
 rw [← hk]
 have HK := Lib.hid hk
 clear hk
 go_enter Tryz.func71, Tryz.ntmps71
 go_wp2_with fail
 refine wp_loop_rounds 4 ?_
 by_cases g1 : k1 = 0
 case neg =>
   have t1 : (k1 != 0) = true := by simpa using g1
   obtain rfl : k = k1 := by rw [HK.out, if_pos g1]
   clear HK g1
   rw [rounds_succ]
   go_wp2_with fail
   go_ret
   exact ⟨rfl, rfl⟩
 have t1 : (k1 != 0) = false := by simpa using g1
 have HG1 := Lib.hid g1
 clear g1
 rw [rounds_succ]
 go_wp2_with fail
 by_cases g2 : k2 = 0
 case neg =>
   have t2 : (k2 != 0) = true := by simpa using g2
   obtain rfl : k = k2 := by rw [HK.out, if_neg (by simp [HG1.out]), if_pos g2]
   clear HK g2
   rw [rounds_succ]
   go_wp2_with fail
   go_ret
   exact ⟨rfl, rfl⟩
 have t2 : (k2 != 0) = false := by simpa using g2
 obtain rfl : k = k3 := by rw [HK.out, if_neg (by simp [HG1.out]), if_neg (by simp [g2])]
 clear HK g2 HG1
 rw [rounds_succ]
 go_wp2_with fail
 by_cases g3 : k = 0
 case neg =>
   have t3 : (k != 0) = true := by simpa using g3
   clear g3
   rw [rounds_succ]
   go_wp2_with fail
   go_ret
   exact ⟨rfl, rfl⟩
 subst g3
 have t3 : ((0 : Int) != 0) = false := rfl
 rw [rounds_succ]
 go_wp2_with fail
 rw [rounds_succ]
 go_wp2_with fail
 go_ret
 exact ⟨rfl, rfl⟩
end Go.Proofs.YtpheiojmcafolaaGreatDoor
namespace Go.Proofs.YtpheiojmcafolaaGreatDoor
open Go.RowKit
theorem one_valM {x : Nd} (h : x.op = 1 ∨ x.op = 2 ∨ x.op = 3 ∨ x.op = 4) : (valErr [x] == 0) = shapedV x := by
 have h5 : ¬ x.op = 5 := by omega
 have h6 : ¬ x.op = 6 := by omega
 have h7 : ¬ x.op = 7 := by omega
 cases hs : shapedV x <;> simp [valErr, vGo, hs, h5, h6, h7]
theorem shaped_low {x : Nd} (h : x.op = 1 ∨ x.op = 2 ∨ x.op = 3 ∨ x.op = 4) : shapedT x = shapedV x := by
 unfold shapedT; rw [if_pos h, one_valM h]
theorem name_le {l : List UInt8} (h : nameErr l = 0) : l.length ≤ 20 := by
 cases l with
 | nil => simp
 | cons a r =>
   have e : nameErr (a :: r) = if letterI (a.toNat : Int) = false then 1 else if (a :: r).all nameB = false then 1 else if 20 < (a :: r).length then 4 else 0 := rfl
   rw [e] at h
   split at h
   · cases h
   · split at h
     · cases h
     · split at h
       · cases h
       · omega
theorem text_le {l : List UInt8} (h : textErr l = 0) : l.length ≤ 60 := by
 unfold textErr at h
 split at h
 · cases h
 · omega
theorem var_le {l : List UInt8} (h : variableB l = true) : l.length ≤ 21 := by
 cases l with
 | nil => simp
 | cons a r =>
   have e : variableB (a :: r) = if a = 63 then nameErr r == 0 else nameErr (a :: r) == 0 && !reserved (a :: r) := rfl
   rw [e] at h
   split at h
   · have := name_le (by simpa using h); simp; omega
   · simp only [Bool.and_eq_true, beq_iff_eq] at h
     have := name_le h.1; omega
theorem shaped_le {x : Nd} (h : shapedT x = true) : x.s.size ≤ 60 ∧ x.t.size ≤ 60 := by
 rw [← toList_len x.s, ← toList_len x.t]
 by_cases h4 : x.op = 1 ∨ x.op = 2 ∨ x.op = 3 ∨ x.op = 4
 · rw [shaped_low h4] at h
   unfold shapedV at h
   rcases h4 with e | e | e | e <;> rw [e] at h <;> simp [-List.length_eq_zero_iff] at h
   · rw [h.1.2, h.2]; simp
   · rw [h.1, h.2]; simp
   · rw [h.1.2]; exact ⟨text_le h.2, by simp⟩
   · exact ⟨Nat.le_trans (name_le h.1.2) (by omega), text_le h.2⟩
 unfold shapedT at h
 rw [if_neg h4] at h
 split at h
 · simp at h; rw [h.1.2, h.2]; simp
 split at h
 · simp at h; rw [h.1.2]; exact ⟨Nat.le_trans (var_le h.2) (by omega), by simp⟩
 split at h
 · simp at h; rw [h.1.2]; exact ⟨Nat.le_trans (name_le h.2) (by omega), by simp⟩
 split at h
 · simp at h; rw [h.1.2]; exact ⟨text_le h.2, by simp⟩
 · simp at h; rw [h.1.2, h.2]; simp
theorem ex_shaped {t : BTag} {xs : List Nd} (h : Ex t xs) : ∀ n ∈ xs, shapedT n = true := by
 induction h with
 | one n body fld hs _ _ ih =>
   intro m hm
   rcases List.mem_cons.1 hm with rfl | hm
   · exact hs
   · exact ih m hm
 | nil => simp
 | cons c r l m xs ys _ _ _ ih1 ih2 =>
   intro n hn
   rcases List.mem_append.1 hn with hn | hn
   · exact ih1 n hn
   · exact ih2 n hn
theorem tree_ok {e : List Nd} (h : treeErr e = 0) : NdOk e := fun x hx => by
 obtain ⟨h1, h2⟩ := shaped_le (ex_shaped ((tree_iff _).1 h).2 x hx)
 exact ⟨by omega, by omega⟩
end Go.Proofs.YtpheiojmcafolaaGreatDoor
namespace Go.Proofs.YtpheiojmcafolaaGreatDoor
open Go.RowKit
theorem few_parts {e : List Nd} (h0 : treeErr e = 0) : ∀ y ∈ e, 0 ≤ ndParts y ∧ ndParts y ≤ 200 := fun y hy => by
 obtain ⟨j, hj⟩ := List.getElem?_of_mem hy
 obtain ⟨s, hs, hsl⟩ := tree_at h0 hj
 obtain ⟨_, _, q1, q2⟩ := bGo_parts hs hj
 have := (tree_len h0).1
 omega
theorem shaped_n {x : Nd} (hs : shapedT x = true) (hp : 0 ≤ ndParts x ∧ ndParts x ≤ 200) (h2 : ¬ x.op = 2) : I64 x.n := by
 have hb : ∀ {a b : Bool}, (a && b) = true → a = true ∧ b = true := fun h => by simpa using h
 unfold I64
 unfold shapedT at hs
 split at hs
 · rename_i h1
   rw [one_valM h1] at hs
   unfold shapedV at hs
   rcases h1 with h | h | h | h
   · rw [if_pos h] at hs
     have := (hb (hb hs).1).1
     simp at this; omega
   · exact absurd h h2
   · rw [if_neg (by omega), if_neg (by omega), if_pos h] at hs
     have := (hb (hb hs).1).1
     simp at this; omega
   · rw [if_neg (by omega), if_neg (by omega), if_neg (by omega), if_pos h] at hs
     have := (hb (hb hs).1).1
     simp at this; omega
 · split at hs
   · rename_i h1 h5
     have : ndParts x = x.n := by unfold ndParts; rw [if_neg (by omega), if_pos h5]
     omega
   · split at hs
     · have := (hb (hb hs).1).1
       simp at this; omega
     · split at hs
       · have := (hb (hb hs).1).1
         simp at this; omega
       · split at hs
         · have := (hb (hb hs).1).1
           simp at this; omega
         · have := (hb (hb (hb hs).1).1).2
           simp at this; omega
theorem tree_i64 {e : List Nd} (h : treeErr e = 0) (h2 : ∀ x ∈ e, x.op = 2 → I64 x.n) : NdI e := fun x hx => by
 by_cases h2' : x.op = 2
 · exact h2 x hx h2'
 · exact shaped_n (ex_shaped ((tree_iff e).1 h).2 x hx) (few_parts h x hx) h2'
end Go.Proofs.YtpheiojmcafolaaGreatDoor
namespace Go.Proofs.YtpheiojmcafolaaGreatDoor
open Go.RowKit
section
variable {α : Type} (nm : α → List UInt8) (fb : α → Bool) (pe1 pe2 : α → Int) (vt : α → Int)
def authGo : List α → List (List UInt8) → Int
 | [], _ => 0
 | p :: r, met => if pe1 p ≠ 0 then pe1 p else if nm p ∈ met then 6 else if pe2 p ≠ 0 then pe2 p else authGo r (met ++ [nm p])
def authErr (ps : List α) : Int := if 12 < ps.length then 4 else authGo nm pe1 pe2 ps []
theorem authGo_ok : ∀ (ps : List α) (met : List (List UInt8)), authGo nm pe1 pe2 ps met = 0 ↔ (∀ p ∈ ps, pe1 p = 0 ∧ pe2 p = 0 ∧ nm p ∉ met) ∧ (ps.map nm).Nodup
 | [], met => by simp [authGo]
 | p :: r, met => by
   rw [authGo]
   by_cases h1 : pe1 p = 0
   · rw [if_neg (by simp [h1])]
     by_cases h2 : nm p ∈ met
     · rw [if_pos h2]; simp [h2]
     · rw [if_neg h2]
       by_cases h3 : pe2 p = 0
       · rw [if_neg (by simp [h3]), authGo_ok r]
         simp only [List.mem_cons, List.map_cons, List.nodup_cons, List.mem_append, List.mem_map, List.not_mem_nil, or_false, not_or]
         constructor
         · rintro ⟨h, hn⟩
           refine ⟨?_, ?_, hn⟩
           · rintro q (rfl | hq)
             · exact ⟨h1, h3, h2⟩
             · have := h q hq; exact ⟨this.1, this.2.1, this.2.2.1⟩
           · rintro ⟨q, hq, e⟩; exact (h q hq).2.2.2 e
         · rintro ⟨h, hp, hn⟩
           refine ⟨fun q hq => ?_, hn⟩
           have := h q (.inr hq)
           exact ⟨this.1, this.2.1, this.2.2, fun e => hp ⟨q, hq, e⟩⟩
       · rw [if_pos h3]; simp [h3]
   · rw [if_pos h1]; simp [h1]
theorem auth_ok (ps : List α) : authErr nm pe1 pe2 ps = 0 ↔ ps.length ≤ 12 ∧ (∀ p ∈ ps, pe1 p = 0 ∧ pe2 p = 0) ∧ (ps.map nm).Nodup := by
 unfold authErr
 by_cases h : 12 < ps.length
 · rw [if_pos h]; simp; omega
 · rw [if_neg h, authGo_ok]
   simp only [List.not_mem_nil, not_false_eq_true, and_true]
   constructor
   · rintro ⟨a, b⟩; exact ⟨by omega, a, b⟩
   · rintro ⟨-, a, b⟩; exact ⟨a, b⟩
def forbids (ps : List α) : List (List UInt8) := (ps.filter fun p => vt p == 1 && fb p).map nm
def permits (ps : List α) : List (List UInt8) := (ps.filter fun p => vt p == 1 && !fb p).map nm
def wrongs (ps : List α) : List (List UInt8) := (ps.filter fun p => vt p == -1).map nm
def byP (ps : List α) : List (List UInt8) := if forbids nm fb vt ps = [] then permits nm fb vt ps else forbids nm fb vt ps
def allowP (ps : List α) : Bool := (forbids nm fb vt ps).isEmpty && !(permits nm fb vt ps).isEmpty
variable {nm fb pe1 pe2 vt}
theorem mem_forbids {ps : List α} {s : List UInt8} : s ∈ forbids nm fb vt ps ↔ ∃ p ∈ ps, vt p = 1 ∧ fb p = true ∧ nm p = s := by
 unfold forbids; simp [and_assoc]
theorem mem_permits {ps : List α} {s : List UInt8} : s ∈ permits nm fb vt ps ↔ ∃ p ∈ ps, vt p = 1 ∧ fb p = false ∧ nm p = s := by
 unfold permits; simp [and_assoc]
theorem mem_wrongs {ps : List α} {s : List UInt8} : s ∈ wrongs nm vt ps ↔ ∃ p ∈ ps, vt p = -1 ∧ nm p = s := by
 unfold wrongs; simp [and_assoc]
theorem nm_inj : ∀ {ps : List α}, (ps.map nm).Nodup → ∀ {p q : α}, p ∈ ps → q ∈ ps → nm p = nm q → p = q
 | [], _, _, _, h, _, _ => by cases h
 | x :: r, hn, p, q, hp, hq, e => by
   rw [List.map_cons, List.nodup_cons] at hn
   rcases List.mem_cons.1 hp with rfl | hp'
   · rcases List.mem_cons.1 hq with rfl | hq'
     · rfl
     · exact absurd (e ▸ List.mem_map_of_mem hq') hn.1
   · rcases List.mem_cons.1 hq with rfl | hq'
     · exact absurd (e ▸ List.mem_map_of_mem hp') hn.1
     · exact nm_inj hn.2 hp' hq' e
theorem byP_true {ps : List α} {s : List UInt8} (h : s ∈ byP nm fb vt ps) : ∃ p ∈ ps, vt p = 1 ∧ nm p = s := by
 unfold byP at h
 split at h
 · obtain ⟨p, hp, hv, _, hn⟩ := mem_permits.1 h; exact ⟨p, hp, hv, hn⟩
 · obtain ⟨p, hp, hv, _, hn⟩ := mem_forbids.1 h; exact ⟨p, hp, hv, hn⟩
theorem wrong_iff {ps : List α} (hn : (ps.map nm).Nodup) {p : α} (hp : p ∈ ps) : nm p ∈ wrongs nm vt ps ↔ vt p = -1 := by
 rw [mem_wrongs]
 constructor
 · rintro ⟨q, hq, hv, e⟩; rw [← nm_inj hn hq hp e]; exact hv
 · intro h; exact ⟨p, hp, h, rfl⟩
theorem by_holds {ps : List α} (hn : (ps.map nm).Nodup) {p : α} (hp : p ∈ ps) (h : nm p ∈ byP nm fb vt ps) : vt p = 1 := by
 obtain ⟨q, hq, hv, e⟩ := byP_true h
 rw [← nm_inj hn hq hp e]; exact hv
end
end Go.Proofs.YtpheiojmcafolaaGreatDoor
namespace Go.Proofs.YtpheiojmcafolaaGreatDoor
open Go.RowKit
def eB : ByteArray := ⟨#[]⟩
def qB (v : ByteArray) : ByteArray := ⟨#[63]⟩ ++ v
def varN (v : ByteArray) : Nd := ⟨8, 0, v, eB⟩
def opN (k : Int) : Nd := ⟨k, 0, eB, eB⟩
def entN (u : Ud) : Nd := ⟨4, 0, u.ty, u.id⟩
def scopeE (s : Sc) (v : ByteArray) : List Nd :=
 if s.op = 1 then [opN 14, varN v, entN s.uid]
 else if s.op = 2 then [opN 20, varN v, entN s.uid]
 else if s.op = 3 then [⟨24, 0, s.ty, eB⟩, varN v]
 else if s.op = 4 then [opN 11, ⟨24, 0, s.ty, eB⟩, varN v, opN 20, varN v, entN s.uid]
 else if s.op = 5 then [opN 14, varN v, varN (qB v)]
 else if s.op = 6 then [opN 20, varN v, varN (qB v)]
 else [⟨1, 1, eB, eB⟩]
def andE (a b : List Nd) : List Nd := opN 11 :: (a ++ b)
theorem andE_len (a b : List Nd) : (andE a b).length = a.length + b.length + 1 := by simp [andE]
theorem andE_ne (a b : List Nd) : andE a b ≠ [] := List.cons_ne_nil _ _
abbrev prB : ByteArray := ⟨#[112, 114, 105, 110, 99, 105, 112, 97, 108]⟩
abbrev acB : ByteArray := ⟨#[97, 99, 116, 105, 111, 110]⟩
abbrev reB : ByteArray := ⟨#[114, 101, 115, 111, 117, 114, 99, 101]⟩
def condE (c : Cd) : List Nd := if c.unless_ = true then opN 9 :: c.expr else c.expr
def exprE0 (p : Po) : List Nd := andE (andE (scopeE p.who prB) (scopeE p.act acB)) (scopeE p.what reB)
def exprE (p : Po) : List Nd := p.conds.foldl (fun e c => andE e (condE c)) (exprE0 p)
def exprP (p : Po) : List Nd × Int := if polErr p ≠ 0 then ([], polErr p) else if 200 < (exprE p).length then ([], 4) else (exprE p, 0)
theorem pol_ok {p : Po} : polErr p = 0 ↔ nameErr p.name.toList = 0 ∧ scOk p.who true = true ∧ scOk p.act false = true ∧ scOk p.what true = true ∧ p.conds.length ≤ 4 ∧ cdsErr p.conds = 0 := by
 unfold polErr
 by_cases h1 : nameErr p.name.toList = 0
 · rw [if_neg (by simp [h1])]
   by_cases h2 : scOk p.who true = false ∨ scOk p.act false = false ∨ scOk p.what true = false
   · rw [if_pos h2]
     constructor
     · intro h; cases h
     · rintro ⟨_, a, b, c, _⟩
       rcases h2 with h | h | h
       · rw [a] at h; cases h
       · rw [b] at h; cases h
       · rw [c] at h; cases h
   · rw [if_neg h2]
     simp only [not_or, Bool.not_eq_false] at h2
     by_cases h3 : 4 < p.conds.length
     · rw [if_pos h3]
       constructor
       · intro h; cases h
       · rintro ⟨_, _, _, _, a, _⟩; omega
     · rw [if_neg h3]
       exact ⟨fun h => ⟨h1, h2.1, h2.2.1, h2.2.2, by omega, h⟩, fun h => h.2.2.2.2.2⟩
 · rw [if_pos h1]
   exact ⟨fun h => absurd h h1, fun h => absurd h.1 h1⟩
end Go.Proofs.YtpheiojmcafolaaGreatDoor
namespace Go.Proofs.YtpheiojmcafolaaGreatDoor
open Go.RowKit Go.Sort
theorem ex_leaf (n : Nd) (h : shapedT n = true) (h0 : ndParts n = 0) (h7 : (n.op == 7) = false) : Ex (.one false) [n] :=
 .one n [] false h h7 (by rw [h0]; exact .nil _ _)
theorem ex_oneP (n m : Nd) (xs : List Nd) (h : shapedT n = true) (h1 : ndParts n = 1) (h7 : (n.op == 7) = false) (h6 : (n.op == 6) = false) (hx : Ex (.one false) (m :: xs)) : Ex (.one false) (n :: m :: xs) := by
 refine .one n _ false h h7 ?_
 rw [h1, h6]
 have := Ex.cons 0 false ⟨#[]⟩ m xs [] (by simp) hx (.nil _ _)
 rwa [List.append_nil] at this
theorem ex_twoP (n : Nd) (a b : List Nd) (h : shapedT n = true) (h2 : ndParts n = 2) (h7 : (n.op == 7) = false) (h6 : (n.op == 6) = false) (ha : Ex (.one false) a) (hb : Ex (.one false) b) : Ex (.one false) (n :: (a ++ b)) := by
 refine .one n _ false h h7 ?_
 rw [h2, h6]
 cases ha with
 | one m xs _ s1 s2 s3 =>
   cases hb with
   | one m' ys _ t1 t2 t3 =>
     have hb' := Ex.cons 0 false ⟨#[]⟩ m' ys [] (by simp) (.one m' ys false t1 t2 t3) (.nil _ _)
     rw [List.append_nil] at hb'
     exact Ex.cons 1 false ⟨#[]⟩ m xs (m' :: ys) (by simp) (.one m xs false s1 s2 s3) hb'
theorem opN_shaped {k : Int} (h : k = 9 ∨ k = 11 ∨ k = 14 ∨ k = 20) : shapedT (opN k) = true := by
 rcases h with rfl | rfl | rfl | rfl <;> simp [shapedT, opN, eB, ndParts, ByteArray.toList_eq]
theorem and_ex {a b : List Nd} (ha : Ex (.one false) a) (hb : Ex (.one false) b) : Ex (.one false) (andE a b) :=
 ex_twoP (opN 11) a b (opN_shaped (by simp)) rfl rfl rfl ha hb
theorem var_ex {v : ByteArray} (h : variableB v.toList = true) : Ex (.one false) [varN v] :=
 ex_leaf _ (by simp [shapedT, varN, eB, ByteArray.toList_eq] at h ⊢; exact h) rfl rfl
theorem ud_parts {u : Ud} (h : udErr u = 0) : nameErr u.ty.toList = 0 ∧ textErr u.id.toList = 0 := by
 unfold udErr at h
 split at h
 · exact ⟨‹_›, h⟩
 · rename_i hn; exact absurd h hn
theorem ent_ex {u : Ud} (h : udErr u = 0) : Ex (.one false) [entN u] := by
 obtain ⟨hn, ht⟩ := ud_parts h
 exact ex_leaf _ (by rw [shaped_low (by simp [entN])]; simp [shapedV, entN, hn, ht]) rfl rfl
theorem true_ex : Ex (.one false) [(⟨1, 1, eB, eB⟩ : Nd)] :=
 ex_leaf _ (by rw [shaped_low (by simp)]; simp [shapedV, eB, ByteArray.toList_eq]) rfl rfl
theorem is_ex {t v : ByteArray} (h : nameErr t.toList = 0) (hv : variableB v.toList = true) : Ex (.one false) [(⟨24, 0, t, eB⟩ : Nd), varN v] :=
 ex_oneP _ _ _ (by simp [shapedT, eB, ByteArray.toList_eq] at h ⊢; exact h) rfl rfl rfl (var_ex hv)
structure VarOk (v : ByteArray) : Prop where
 pv : variableB v.toList = true
 pq : variableB (qB v).toList = true
 pn : v.toList.head? ≠ some 63
theorem qB_list (v : ByteArray) : (qB v).toList = 63 :: v.toList := by
 rw [ByteArray.toList_eq, ByteArray.toList_eq]; unfold qB; simp
theorem scope_ex {s : Sc} {b : Bool} {v : ByteArray} (h : scOk s b = true) (hv : VarOk v) : Ex (.one false) (scopeE s v) := by
 have e := var_ex hv.pv
 have q := var_ex hv.pq
 unfold scopeE
 by_cases h1 : s.op = 1
 · rw [if_pos h1]
   have : udErr s.uid = 0 := by simp [scOk, h1, udOk] at h; exact h.1
   exact ex_twoP _ _ _ (opN_shaped (by simp)) rfl rfl rfl e (ent_ex this)
 rw [if_neg h1]
 by_cases h2 : s.op = 2
 · rw [if_pos h2]
   have : udErr s.uid = 0 := by simp [scOk, h2, udOk] at h; exact h.1
   exact ex_twoP _ _ _ (opN_shaped (by simp)) rfl rfl rfl e (ent_ex this)
 rw [if_neg h2]
 by_cases h3 : s.op = 3
 · rw [if_pos h3]
   have : nameErr s.ty.toList = 0 := by simp [scOk, h3] at h; exact h.1
   exact is_ex this hv.pv
 rw [if_neg h3]
 by_cases h4 : s.op = 4
 · rw [if_pos h4]
   have h' : nameErr s.ty.toList = 0 ∧ udErr s.uid = 0 := by simp [scOk, h4, udOk] at h; exact h
   exact ex_twoP (opN 11) [⟨24, 0, s.ty, eB⟩, varN v] [opN 20, varN v, entN s.uid] (opN_shaped (by simp)) rfl rfl rfl (is_ex h'.1 hv.pv) (ex_twoP _ _ _ (opN_shaped (by simp)) rfl rfl rfl e (ent_ex h'.2))
 rw [if_neg h4]
 by_cases h5 : s.op = 5
 · rw [if_pos h5]; exact ex_twoP _ _ _ (opN_shaped (by simp)) rfl rfl rfl e q
 rw [if_neg h5]
 by_cases h6 : s.op = 6
 · rw [if_pos h6]; exact ex_twoP _ _ _ (opN_shaped (by simp)) rfl rfl rfl e q
 rw [if_neg h6]
 exact true_ex
theorem cond_ex {c : Cd} (h : cdErr c.expr = 0) : Ex (.one false) (condE c) := by
 have ht : treeErr c.expr = 0 := by
   unfold cdErr at h
   split at h
   · rename_i hn; exact absurd h hn
   · rename_i hn; simpa using hn
 have hx := ((tree_iff _).1 ht).2
 unfold condE
 generalize c.expr = e at hx
 split
 · cases hx with
   | one m xs _ s1 s2 s3 => exact ex_oneP _ _ _ (opN_shaped (by simp)) rfl rfl rfl (.one m xs false s1 s2 s3)
 · exact hx
theorem cds_each {l : List Cd} (h : cdsErr l = 0) : ∀ c ∈ l, cdErr c.expr = 0 := by
 induction l with
 | nil => simp
 | cons y r ih =>
   have e : cdsErr (y :: r) = if cdErr y.expr ≠ 0 then cdErr y.expr else cdsErr r := rfl
   rw [e] at h
   by_cases hn : cdErr y.expr = 0
   · rw [if_neg (by simp [hn])] at h
     intro c hc
     rcases List.mem_cons.1 hc with rfl | hc
     · exact hn
     · exact ih h c hc
   · rw [if_pos hn] at h; exact absurd h hn
def exprC (e0 : List Nd) (l : List Cd) : List Nd := l.foldl (fun e c => andE e (condE c)) e0
theorem exprC_ex {e0 : List Nd} {l : List Cd} (h0 : Ex (.one false) e0) (h : ∀ c ∈ l, cdErr c.expr = 0) : Ex (.one false) (exprC e0 l) := by
 induction l generalizing e0 with
 | nil => exact h0
 | cons y r ih => exact ih (and_ex h0 (cond_ex (h y (List.mem_cons_self ..)))) fun c hc => h c (List.mem_cons_of_mem _ hc)
theorem nameOk_pr : VarOk prB := ⟨by rw [ByteArray.toList_eq]; decide, by rw [qB_list, ByteArray.toList_eq]; decide, by rw [ByteArray.toList_eq]; decide⟩
theorem nameOk_ac : VarOk acB := ⟨by rw [ByteArray.toList_eq]; decide, by rw [qB_list, ByteArray.toList_eq]; decide, by rw [ByteArray.toList_eq]; decide⟩
theorem nameOk_re : VarOk reB := ⟨by rw [ByteArray.toList_eq]; decide, by rw [qB_list, ByteArray.toList_eq]; decide, by rw [ByteArray.toList_eq]; decide⟩
end Go.Proofs.YtpheiojmcafolaaGreatDoor
namespace Go.Proofs.YtpheiojmcafolaaGreatDoor
open Go.RowKit
theorem must_bN (b : Bool) : mustV (.ok [bN b]) 1 = .ok [bN b] := rfl
theorem and_bN (a b : Bool) : eitherR 11 (.ok [bN a]) (.ok [bN b]) = .ok [bN (a && b)] := by cases a <;> cases b <;> rfl
end Go.Proofs.YtpheiojmcafolaaGreatDoor
namespace Go.Proofs.YtpheiojmcafolaaGreatDoor
open Go.RowKit
def fitsB (es : List En) (s : Sc) (u : Ud) : Bool :=
 if s.op = 1 then decide (u = s.uid) else if s.op = 3 then decide (u.ty = s.ty) else if s.op = 2 ∨ s.op = 4 then inB es u s.uid && (s.op == 2 || decide (u.ty = s.ty)) else true
theorem evX_name (es : List En) (q : Rq) (v : ByteArray) : evX es q [varN v] = namedR q v.toList := evX_var es q rfl
theorem evX_ent (es : List En) (q : Rq) (u : Ud) : evX es q [entN u] = .ok [eN u] := evX_leaf es q (.inr (.inr (.inr rfl)))
theorem eN_inj {u t : Ud} : [eN u] = [eN t] ↔ u = t := by
 constructor
 · intro h
   injection h with h
   unfold eN at h
   injection h with _ _ h1 h2
   cases u; cases t
   simp only at h1 h2
   rw [h1, h2]
 · rintro rfl; rfl
theorem in_ent (es : List En) (u t : Ud) : inR' es [eN u] [eN t] = .ok (inB es u t) := by
 unfold inR'
 have h5 : ¬ opH [eN t] = 5 := by show ¬ (4 : Int) = 5; decide
 have hm : mustV (.ok [eN u]) 4 = .ok [eN u] := rfl
 rw [hm, if_neg h5]
 show (if ([[eN t]].all fun t => opH t == 4) = true then Rs.ok ([[eN t]].any fun t => inB es (udH [eN u]) (udH t)) else .bad 2) = _
 rw [if_pos (by rfl : ([[eN t]].all fun t => opH t == 4) = true)]
 simp [udH, eN]
theorem scope_means (es : List En) (q : Rq) {s : Sc} {b : Bool} {v : ByteArray} {u : Ud} (h : scOk s b = true) (hv : VarOk v) (hs : ¬ (s.op = 5 ∨ s.op = 6)) (hn : namedR q v.toList = .ok [eN u]) : evX es q (scopeE s v) = .ok [bN (fitsB es s u)] := by
 have e := var_ex hv.pv
 unfold scopeE fitsB
 by_cases h1 : s.op = 1
 · rw [if_pos h1, if_pos h1]
   have hu : udErr s.uid = 0 := by simp [scOk, h1, udOk] at h; exact h.1
   have := evX_two es q (x := opN 14) (a := [varN v]) (b := [entN s.uid]) (.inl rfl) e (ent_ex hu)
   rw [show opN 14 :: ([varN v] ++ [entN s.uid]) = [opN 14, varN v, entN s.uid] from rfl] at this
   rw [this, evX_name, hn, evX_ent]
   show doubleR es 14 [eN u] [eN s.uid] = _
   unfold doubleR
   rw [if_pos rfl]
   simp only [eN_inj]
 · rw [if_neg h1, if_neg h1]
   by_cases h2 : s.op = 2
   · rw [if_pos h2, if_neg (by omega), if_pos (.inl h2)]
     have hu : udErr s.uid = 0 := by simp [scOk, h2, udOk] at h; exact h.1
     have := evX_two es q (x := opN 20) (a := [varN v]) (b := [entN s.uid]) (.inr (.inr (.inr (.inr (.inr (.inr (.inl rfl))))))) e (ent_ex hu)
     rw [show opN 20 :: ([varN v] ++ [entN s.uid]) = [opN 20, varN v, entN s.uid] from rfl] at this
     rw [this, evX_name, hn, evX_ent]
     show doubleR es 20 [eN u] [eN s.uid] = _
     unfold doubleR
     rw [if_neg (by decide), if_pos rfl, in_ent]
     simp [Rs.bind, h2]
   · rw [if_neg h2]
     have hisv : ∀ t : ByteArray, evX es q [(⟨24, 0, t, eB⟩ : Nd), varN v] = .ok [bN (decide (u.ty = t))] := fun t => by
       have := evX_one es q (x := (⟨24, 0, t, eB⟩ : Nd)) (a := [varN v]) (.inr (.inr (.inr (.inr (.inr rfl))))) e
       rw [this, evX_name, hn]
       show singleR es (⟨24, 0, t, eB⟩ : Nd) [eN u] = _
       unfold singleR
       have a1 : ¬ (24 : Int) = 9 := by decide
       have a2 : ¬ (24 : Int) = 10 := by decide
       have a3 : ¬ (24 : Int) = 23 := by decide
       simp only [a1, a2, a3, if_false, if_true]
       rfl
     by_cases h3 : s.op = 3
     · rw [if_pos h3, if_pos h3, hisv]
     · rw [if_neg h3, if_neg h3]
       by_cases h4 : s.op = 4
       · rw [if_pos h4, if_pos (.inr h4)]
         have h' : nameErr s.ty.toList = 0 ∧ udErr s.uid = 0 := by simp [scOk, h4, udOk] at h; exact h
         have hin := evX_two es q (x := opN 20) (a := [varN v]) (b := [entN s.uid]) (.inr (.inr (.inr (.inr (.inr (.inr (.inl rfl))))))) e (ent_ex h'.2)
         rw [show opN 20 :: ([varN v] ++ [entN s.uid]) = [opN 20, varN v, entN s.uid] from rfl] at hin
         have hin2 : evX es q [opN 20, varN v, entN s.uid] = .ok [bN (inB es u s.uid)] := by
           rw [hin, evX_name, hn, evX_ent]
           show doubleR es 20 [eN u] [eN s.uid] = _
           unfold doubleR
           rw [if_neg (by decide), if_pos rfl, in_ent]; rfl
         have hand := evX_and es q (x := opN 11) (a := [(⟨24, 0, s.ty, eB⟩ : Nd), varN v]) (b := [opN 20, varN v, entN s.uid]) (.inl rfl) (is_ex h'.1 hv.pv) (ex_twoP _ [varN v] [entN s.uid] (opN_shaped (by simp)) rfl rfl rfl e (ent_ex h'.2))
         rw [show opN 11 :: ([(⟨24, 0, s.ty, eB⟩ : Nd), varN v] ++ [opN 20, varN v, entN s.uid]) = [opN 11, ⟨24, 0, s.ty, eB⟩, varN v, opN 20, varN v, entN s.uid] from rfl] at hand
         rw [hand, hisv, hin2]
         show eitherR 11 _ _ = _
         rw [and_bN]
         have : (s.op == 2) = false := by simp [h2]
         rw [this, Bool.false_or, Bool.and_comm]
       · rw [if_neg h4, if_neg (fun h => hs (.inl h)), if_neg (fun h => hs (.inr h)), if_neg (by omega)]
         rw [evX_leaf es q (.inl rfl)]; rfl
def condR (es : List En) (q : Rq) (c : Cd) : Rs Bool := (mustV (evX es q c.expr) 1).bind fun v => .ok ((nH v == 1) != c.unless_)
theorem cond_tree {c : Cd} (h : cdErr c.expr = 0) : treeErr c.expr = 0 := by
 unfold cdErr at h
 split at h
 · rename_i hn; exact absurd h hn
 · rename_i hn; simpa using hn
theorem must_val (es : List En) (q : Rq) (hq : rqErr q = 0) {xs : List Nd} (hx : Ex (.one false) xs) : mustV (evX es q xs) 1 = (mustV (evX es q xs) 1).bind fun v => .ok [bN (nH v == 1)] := by
 cases hv : mustV (evX es q xs) 1 with
 | bad k => rfl
 | ok v =>
   obtain ⟨h1, h2⟩ := must_ok hv
   show Rs.ok v = .ok [bN (nH v == 1)]
   rw [← bool_val (evE_vx hq _ xs hx h1) h2]
theorem cond_means (es : List En) (q : Rq) (hq : rqErr q = 0) {c : Cd} (h : cdErr c.expr = 0) : mustV (evX es q (condE c)) 1 = (condR es q c).bind fun b => .ok [bN b] := by
 have hx := ((tree_iff _).1 (cond_tree h)).2
 unfold condE condR
 cases hu : c.unless_ with
 | true =>
   simp only [if_true]
   have h9 : evX es q (opN 9 :: c.expr) = (evX es q c.expr).bind fun v => singleR es (opN 9) v := evX_one es q (.inl rfl) hx
   rw [h9]
   have hm := must_val es q hq hx
   cases hr : evX es q c.expr with
   | bad k => rfl
   | ok v =>
     rw [hr] at hm
     show mustV (singleR es (opN 9) v) 1 = _
     have hs : singleR es (opN 9) v = (mustV (.ok v) 1).bind fun v => .ok [bN (nH v == 0)] := by unfold singleR; exact if_pos rfl
     rw [hs]
     by_cases h1 : opH v = 1
     · have hmv : mustV (.ok v) 1 = .ok v := by show (if opH v = 1 then Rs.ok v else .bad 2) = _; rw [if_pos h1]
       rw [hmv]
       have hb := bool_val (evE_vx hq _ _ hx hr) h1
       show mustV (.ok [bN (nH v == 0)]) 1 = .ok [bN ((nH v == 1) != true)]
       rw [must_bN]
       generalize (nH v == 1) = b at hb
       rw [hb]
       cases b <;> rfl
     · have hmv : mustV (.ok v) 1 = .bad 2 := by show (if opH v = 1 then Rs.ok v else .bad 2) = _; rw [if_neg h1]
       rw [hmv]; rfl
 | false =>
   rw [if_neg (by simp), must_val es q hq hx]
   cases mustV (evX es q c.expr) 1 with
   | bad k => rfl
   | ok v =>
     show Rs.ok [bN (nH v == 1)] = .ok [bN ((nH [bN (nH v == 1)] == 1) != false)]
     cases (nH v == 1) <;> rfl
def condsR (es : List En) (q : Rq) : List Cd → Rs Bool
 | [] => .ok true
 | c :: r => (condR es q c).bind fun b => if b = true then condsR es q r else .ok false
theorem and_step (es : List En) (q : Rq) (hq : rqErr q = 0) {e : List Nd} (he : Ex (.one false) e) {c : Cd} (h : cdErr c.expr = 0) {r : Rs Bool} (hr : evX es q e = r.bind fun b => .ok [bN b]) :
   evX es q (andE e (condE c)) = (r.bind fun b => if b = true then condR es q c else .ok false).bind fun b => .ok [bN b] := by
 have ha : evX es q (andE e (condE c)) = eitherR 11 (evX es q e) (evX es q (condE c)) := evX_and es q (.inl rfl) he (cond_ex h)
 rw [ha, hr]
 cases r with
 | bad k => rfl
 | ok b =>
   show eitherR 11 (.ok [bN b]) _ = _
   unfold eitherR
   rw [must_bN]
   cases b with
   | false => rfl
   | true =>
     show (if ((nH [bN true] == 1) : Bool) = ((11 : Int) == 12) then Rs.ok [bN true] else mustV (evX es q (condE c)) 1) = _
     rw [if_neg (by decide), cond_means es q hq h]; rfl
theorem conds_means (es : List En) (q : Rq) (hq : rqErr q = 0) : ∀ (l : List Cd), (∀ c ∈ l, cdErr c.expr = 0) → ∀ (e : List Nd) (r : Rs Bool), Ex (.one false) e → evX es q e = r.bind (fun b => .ok [bN b]) →
   evX es q (exprC e l) = (r.bind fun b => if b = true then condsR es q l else .ok false).bind fun b => .ok [bN b]
 | [], _, e, r, _, hr => by
   show evX es q e = _
   rw [hr]
   cases r with
   | bad k => rfl
   | ok b => cases b <;> rfl
 | c :: l, h, e, r, he, hr => by
   show evX es q (exprC (andE e (condE c)) l) = _
   rw [conds_means es q hq l (fun x hx => h x (by simp [hx])) _ _ (and_ex he (cond_ex (h c (by simp)))) (and_step es q hq he (h c (by simp)) hr)]
   cases r with
   | bad k => rfl
   | ok b =>
     cases b with
     | false => rfl
     | true =>
       show ((condR es q c).bind _).bind _ = ((condR es q c).bind _).bind _
       cases condR es q c with
       | bad k => rfl
       | ok b' => cases b' <;> rfl
def scopesB (es : List En) (q : Rq) (p : Po) : Bool := fitsB es p.who q.who && fitsB es p.act q.act && fitsB es p.what q.what
theorem named_pr (q : Rq) : namedR q prB.toList = .ok [eN q.who] := by rw [ByteArray.toList_eq]; rfl
theorem named_ac (q : Rq) : namedR q acB.toList = .ok [eN q.act] := by rw [ByteArray.toList_eq]; rfl
theorem named_re (q : Rq) : namedR q reB.toList = .ok [eN q.what] := by rw [ByteArray.toList_eq]; rfl
theorem pol_means (es : List En) (q : Rq) (hq : rqErr q = 0) {p : Po} (h : polErr p = 0) (hw : ¬ (p.who.op = 5 ∨ p.who.op = 6)) (hx : ¬ (p.what.op = 5 ∨ p.what.op = 6)) :
   evX es q (exprE p) = (if scopesB es q p = true then condsR es q p.conds else .ok false).bind fun b => .ok [bN b] := by
 obtain ⟨_, h1, h2, h3, _, h5⟩ := pol_ok.1 h
 have ha : ¬ (p.act.op = 5 ∨ p.act.op = 6) := by
   intro hc
   unfold scOk at h2
   rw [if_neg (by omega), if_pos hc] at h2
   simp at h2
 have e1 := scope_ex h1 nameOk_pr
 have e2 := scope_ex h2 nameOk_ac
 have e3 := scope_ex h3 nameOk_re
 have m1 := scope_means es q h1 nameOk_pr hw (named_pr q)
 have m2 := scope_means es q h2 nameOk_ac ha (named_ac q)
 have m3 := scope_means es q h3 nameOk_re hx (named_re q)
 have m12 : evX es q (andE (scopeE p.who prB) (scopeE p.act acB)) = .ok [bN (fitsB es p.who q.who && fitsB es p.act q.act)] := by
   have : evX es q (andE (scopeE p.who prB) (scopeE p.act acB)) = eitherR 11 _ _ := evX_and es q (.inl rfl) e1 e2
   rw [this, m1, m2, and_bN]
 have m0 : evX es q (exprE0 p) = (Rs.ok (scopesB es q p)).bind fun b => .ok [bN b] := by
   have : evX es q (exprE0 p) = eitherR 11 _ _ := evX_and es q (.inl rfl) (and_ex e1 e2) e3
   rw [this, m12, m3, and_bN]; rfl
 exact conds_means es q hq p.conds (cds_each h5) (exprE0 p) _ (and_ex (and_ex e1 e2) e3) m0
end Go.Proofs.YtpheiojmcafolaaGreatDoor
namespace Go.Proofs.YtpheiojmcafolaaGreatDoor
open Go.RowKit Go.Sort
theorem string_info : (Tryz.prog.info? 9).map (fun i => (i.zero, i.size, i.bytes)) = some (some (.string ⟨#[]⟩), 1, 16) := by kernel_rfl
def StrsBack (w : World) (r : Ending) (w' : World) (ss : List (List UInt8)) (k : Int) : Prop :=
 ∃ A c, r = .returned (.tuple #[.slice A ss.length c, errV k]) ∧ ss.length ≤ c ∧ c ≤ 9223372036854775807 ∧ StrSl w' w'.heap.size A ss ∧ Below w.heap.size w w'
set_option maxHeartbeats 800000 in
theorem same_Nodes (xs : List Nd) (A1 A2 : Option Addr) (c1 c2 : Nat) (w : World) (h1 : NdSl w w.heap.size A1 xs) (h2 : NdSl w w.heap.size A2 xs) (l1 : xs.length ≤ 9223372036854775807) :
   Calls Tryz.prog 20 #[.slice A1 xs.length c1, .slice A2 xs.length c2] w fun r w' => r = .returned (.bool true) ∧ RowKit.Below w.heap.size w w' := by
 have H1 := Lib.hid h1
 have H2 := Lib.hid h2
 have hne : ((xs.length : Int) != (xs.length : Int)) = false := by simp
 clear h1 h2
 go_enter Tryz.func20, Tryz.ntmps20
 go_wp2_with fail
 go_loopw [5] (fun kk wr => ∃ k : Nat, kk = .int .i64 k ∧ k ≤ xs.length ∧ RowKit.Below w.heap.size w wr) (fun kk _ => xs.length - (intOf kk).toNat)
 case atStart => exact ⟨0, rfl, by omega, RowKit.Below.refl _ _⟩
 case round =>
   obtain ⟨k, rfl, hk, hbr⟩ := hrel
   by_cases hlt : k < xs.length
   · obtain ⟨b, o, rfl, hb, hcs⟩ := (H1.out.below hbr).at_ hlt
     obtain ⟨b2, o2, rfl, hb2, hcs2⟩ := (H2.out.below hbr).at_ hlt
     obtain ⟨x, hx⟩ : ∃ x, xs[k]? = some x := ⟨_, List.getElem?_eq_getElem hlt⟩
     obtain ⟨d0, d1, d2, d3⟩ := hcs k x hx
     obtain ⟨f0, f1, f2, f3⟩ := hcs2 k x hx
     clear hcs hcs2 hx
     go_wp2_with fail
     go_quiet (fail)
     go_wp2_with fail
     exact ⟨⟨k + 1, by go_num, by omega, below_drewN hbr _⟩, by simp [intOf]; omega⟩
   · go_wp2_with fail
     go_ret
     exact ⟨rfl, hbr⟩
end Go.Proofs.YtpheiojmcafolaaGreatDoor
