/-
  PLAIN LAWS: policies that are picked, with other memory: the same answer. THE WALK: the laws' comparison of answers.
  THE WALK: slice.Pick at the laws' first example (printed by mkslf.py).
-/
import Derived.Test.YtpheiojmcafolaaGreatDoorSw18
import Derived.Test.YtpheiojmcafolaaGreatDoorSw19
import Derived.Test.YtpheiojmcafolaaGreatDoorSw17
namespace Go.Proofs.YtpheiojmcafolaaGreatDoor
set_option maxRecDepth 100000
open Go.RowKit Go.Sort
theorem map_filt {α β γ : Type} (p : α → β) (F : β → Bool) (N : β → γ) (ms qs : List α) (h : ms.map p = qs.map p) : (ms.filter fun x => F (p x)).map (fun x => N (p x)) = (qs.filter fun x => F (p x)).map (fun x => N (p x)) := by
 have key : ∀ l : List α, (l.filter fun x => F (p x)).map (fun x => N (p x)) = ((l.map p).filter F).map N := by
   intro l
   induction l with
   | nil => rfl
   | cons a l ih =>
     rw [List.map_cons]
     by_cases hc : F (p a) = true
     · rw [List.filter_cons_of_pos (by simpa using hc), List.filter_cons_of_pos (by simpa using hc), List.map_cons, List.map_cons, ih]
     · rw [List.filter_cons_of_neg (by simpa using hc), List.filter_cons_of_neg (by simpa using hc), ih]
 rw [key, key, h]
theorem authGo_p : ∀ (ms qs : List PoM) (met : List (List UInt8)), ms.map PoM.p = qs.map PoM.p → authGo nmQ pe1Q pe2Q ms met = authGo nmQ pe1Q pe2Q qs met
 | [], [], _, _ => rfl
 | [], b :: bs, _, h => by simp at h
 | a :: as', [], _, h => by simp at h
 | a :: as', b :: bs, met, h => by
   rw [List.map_cons, List.map_cons] at h
   injection h with h1 h2
   have e1 : pe1Q a = pe1Q b := by unfold pe1Q; rw [h1]
   have e2 : pe2Q a = pe2Q b := by unfold pe2Q; rw [h1]
   have e3 : nmQ a = nmQ b := by unfold nmQ; rw [h1]
   unfold authGo
   rw [e1, e2, e3, authGo_p as' bs _ h2]
theorem aErr_p {ms qs : List PoM} (h : ms.map PoM.p = qs.map PoM.p) : aErr ms = aErr qs := by
 have hl : ms.length = qs.length := by have := congrArg List.length h; simpa using this
 unfold aErr authErr
 rw [hl, authGo_p ms qs [] h]
def vtP (es : List En) (q : Rq) (p : Po) : Int := match valueR es q (exprP p).1 with
 | .ok v => if opH v = 1 then (if nH v = 1 then 1 else 0) else -1
 | .bad _ => -1
theorem ans_p (es : List En) (q : Rq) {ms qs : List PoM} (h : ms.map PoM.p = qs.map PoM.p) : forbids nmQ fbQ (vtQ es q) ms = forbids nmQ fbQ (vtQ es q) qs ∧ permits nmQ fbQ (vtQ es q) ms = permits nmQ fbQ (vtQ es q) qs ∧ wrongs nmQ (vtQ es q) ms = wrongs nmQ (vtQ es q) qs :=
 ⟨map_filt PoM.p (fun p => vtP es q p == 1 && p.forbid) (fun p => p.name.toList) ms qs h, map_filt PoM.p (fun p => vtP es q p == 1 && !p.forbid) (fun p => p.name.toList) ms qs h, map_filt PoM.p (fun p => vtP es q p == -1) (fun p => p.name.toList) ms qs h⟩
theorem ask_p (x : Aq) {ms qs : List PoM} (h : ms.map PoM.p = qs.map PoM.p) : askErr x ms = askErr x qs ∧ aOB x ms = aOB x qs ∧ aBY x ms = aBY x qs ∧ aWR x ms = aWR x qs := by
 obtain ⟨h1, h2, h3⟩ := ans_p x.es x.q h
 have h0 : askErr x ms = askErr x qs := by unfold askErr; rw [aErr_p h]
 unfold aOB aBY aWR
 rw [h0]
 unfold allowP byP
 rw [h1, h2, h3]
 exact ⟨rfl, rfl, rfl, rfl⟩
theorem vt_unpicked {x : Aq} {ps : List PoM} (hk : askErr x ps = 0) : ∀ y ∈ ps, pickB x y = false → vtQ x.es x.q y = 0 := by
 intro y hy hp
 obtain ⟨hz1, hz2, hz3⟩ := firstI_zero hk
 obtain ⟨-, hall, -⟩ := aErr_use hz2
 obtain ⟨h1, h2, h3⟩ := hall y hy
 obtain ⟨_, e2, e3⟩ := exprP_tree h2
 have hs : ¬ (y.p.who.op = 5 ∨ y.p.who.op = 6) ∧ ¬ (y.p.what.op = 5 ∨ y.p.what.op = 6) := by
   unfold slotsP at h3
   obtain ⟨g1, g2⟩ := List.append_eq_nil_iff.1 h3
   constructor
   · intro hc
     rw [if_pos (by unfold slottedP; simpa using hc)] at g1
     simp at g1
   · intro hc
     rw [if_pos (by unfold slottedP; simpa using hc)] at g2
     simp at g2
 have hv : valueR x.es x.q (exprP y.p).1 = .ok [bN false] := by
   unfold valueR
   rw [if_neg (by simp [hz1]), if_neg (by simp [hz3]), if_neg (by simp [e3])]
   show evX x.es x.q (exprP y.p).1 = _
   rw [e2, pol_means x.es x.q hz3 h1 hs.1 hs.2]
   have : scopesB x.es x.q y.p = false := hp
   rw [if_neg (by rw [this]; simp)]
   rfl
 unfold vtQ
 show (match valueR x.es x.q (exprP y.p).1 with | .ok v => if opH v = 1 then (if nH v = 1 then (1 : Int) else 0) else -1 | .bad _ => -1) = 0
 rw [hv]; rfl
theorem pick_ans {x : Aq} {ps ms : List PoM} (hk : askErr x ps = 0) (hm : ms.map PoM.p = (ps.filter (pickB x)).map PoM.p) : askErr x ms = 0 ∧ aOB x ms = aOB x ps ∧ aBY x ms = aBY x ps ∧ aWR x ms = aWR x ps := by
 obtain ⟨a0, a1, a2, a3⟩ := ask_p x hm
 have hk2 : askErr x (ps.filter (pickB x)) = 0 := askErr_filter hk
 obtain ⟨g1, g2, g3⟩ := pick_answer (nm := nmQ) (fb := fbQ) (vt := vtQ x.es x.q) (f := pickB x) (vt_unpicked hk)
 rw [a0, a1, a2, a3]
 unfold aOB aBY aWR
 rw [if_pos hk2, if_pos hk2, if_pos hk2, if_pos hk, if_pos hk, if_pos hk]
 exact ⟨hk2, g2, g1, g3⟩
theorem pick_A (qa : Option Addr) (qc : Nat) : [pmA].filter (pickB (xA qa qc)) = [pmA] := by
 have hs : pickB (xA qa qc) pmA = true := by
   show scopesB [] rqP pA = true
   simp [scopesB, fitsB, pA]
 rw [List.filter_cons_of_pos hs]; rfl
set_option maxHeartbeats 3200000 in
theorem same_Answer (OB : Bool) (BY WR : List (List UInt8)) (A1 A2 B1 B2 : Option Addr) (c1 c2 d1 d2 : Nat) (w : World) (h1 : StrSl w w.heap.size A1 BY) (h2 : StrSl w w.heap.size A2 WR) (g1 : StrSl w w.heap.size B1 BY) (g2 : StrSl w w.heap.size B2 WR) (l1 : BY.length ≤ 9223372036854775807) (l2 : WR.length ≤ 9223372036854775807) :
   Calls Tryz.prog 39 #[.agg #[.bool OB, .slice A1 BY.length c1, .slice A2 WR.length c2], .agg #[.bool OB, .slice B1 BY.length d1, .slice B2 WR.length d2]] w fun r w' => r = .returned (.bool true) ∧ RowKit.Below w.heap.size w w' := by
 have hb0 : RowKit.Below w.heap.size w ((w.alloc (.cells #[.bool OB, .slice A1 BY.length c1, .slice A2 WR.length c2] 70)).alloc (.cells #[.bool OB, .slice B1 BY.length d1, .slice B2 WR.length d2] 70)) := by (repeat (first | assumption | exact Below.refl _ _ | apply Below.drew | apply below_drewN | (refine Below.alloc ?_ (by first | exact Nat.le_refl _ | omega | (simp; done) | (simp; omega)) _)))
 have D0 := Lib.hid ((Blk.new w 70 #[.bool OB, .slice A1 BY.length c1, .slice A2 WR.length c2]).alloc (.cells #[.bool OB, .slice B1 BY.length d1, .slice B2 WR.length d2] 70))
 have D1 : Hid (Blk ((w.alloc (.cells #[.bool OB, .slice A1 BY.length c1, .slice A2 WR.length c2] 70)).alloc (.cells #[.bool OB, .slice B1 BY.length d1, .slice B2 WR.length d2] 70)) (w.heap.size + 1) 70 #[.bool OB, .slice B1 BY.length d1, .slice B2 WR.length d2]) := by
   have := Blk.new (w.alloc (.cells #[.bool OB, .slice A1 BY.length c1, .slice A2 WR.length c2] 70)) 70 #[.bool OB, .slice B1 BY.length d1, .slice B2 WR.length d2]
   rw [World.size_alloc] at this
   exact this
 have HT1 := Lib.hid (fun W (hW : RowKit.Below w.heap.size w W) => same_Texts BY A1 B1 c1 d1 W ((h1.below hW).more hW.size) ((g1.below hW).more hW.size) l1)
 have HT2 := Lib.hid (fun W (hW : RowKit.Below w.heap.size w W) => same_Texts WR A2 B2 c2 d2 W ((h2.below hW).more hW.size) ((g2.below hW).more hW.size) l2)
 have HB := Lib.hid hb0
 clear h1 h2 g1 g2 hb0
 go_enter Tryz.func39, Tryz.ntmps39
 go_wp2_with fail
 refine (HT1.out _ HB.out).mono ?_
 rintro r w1 ⟨rfl, hb1⟩
 have E0 := Lib.hid (D0.out.below hb1 D0.out.lt)
 have E1 := Lib.hid (D1.out.below hb1 D1.out.lt)
 have HB1 := Lib.hid (HB.out.trans (hb1.mono HB.out.size))
 clear hb1 D0 D1 HB
 have cc := E0.out.cell
 have cl := E0.out.lt
 have dc := E1.out.cell
 have dl := E1.out.lt
 go_wp2_with fail
 refine (HT2.out _ HB1.out).mono ?_
 rintro r w2 ⟨rfl, hb2⟩
 have G0 := Lib.hid (E0.out.below hb2 E0.out.lt)
 have G1 := Lib.hid (E1.out.below hb2 E1.out.lt)
 have HB2 := Lib.hid (HB1.out.trans (hb2.mono HB1.out.size))
 clear hb2 E0 E1 HB1 cc cl dc dl
 have cc := G0.out.cell
 have cl := G0.out.lt
 have dc := G1.out.cell
 have dl := G1.out.lt
 have hob : (OB == OB) = true := by simp
 go_wp2_with fail
 go_ret
 exact ⟨rfl, HB2.out⟩
end Go.Proofs.YtpheiojmcafolaaGreatDoor
namespace Go.Proofs.YtpheiojmcafolaaGreatDoor
set_option maxRecDepth 100000
open Go.RowKit Go.Sort
set_option maxHeartbeats 6400000 in
theorem pick_first (w : World) (hg : ErrCell w) : Calls Tryz.prog 38 #[.slice none 0 0, .slice (some ⟨w.heap.size + 1, 0, none⟩) 1 1, .agg #[.string ⟨#[65]⟩, .string ⟨#[]⟩, .string ⟨#[65]⟩, .string ⟨#[]⟩, .string ⟨#[65]⟩, .string ⟨#[]⟩, .slice (some ⟨w.heap.size + 1 + 1, 0, none⟩) 1 1]] (((w.alloc (.cells #[.string ⟨#[65]⟩, .string ⟨#[]⟩] 34)).alloc (.cells #[.string ⟨#[97]⟩, .bool false, .int .i64 0, .string ⟨#[]⟩, .string ⟨#[]⟩, .string ⟨#[]⟩, .int .i64 0, .string ⟨#[]⟩, .string ⟨#[]⟩, .string ⟨#[]⟩, .int .i64 0, .string ⟨#[]⟩, .string ⟨#[]⟩, .string ⟨#[]⟩, .slice none 0 0] 47)).alloc (.cells #[.int .i64 6, .int .i64 0, .string ⟨#[]⟩, .string ⟨#[]⟩] 37)) fun r w' => ∃ A1 c1, r = .returned (.tuple #[.slice A1 1 c1, .nilIface]) ∧ RowKit.Below (((w.alloc (.cells #[.string ⟨#[65]⟩, .string ⟨#[]⟩] 34)).alloc (.cells #[.string ⟨#[97]⟩, .bool false, .int .i64 0, .string ⟨#[]⟩, .string ⟨#[]⟩, .string ⟨#[]⟩, .int .i64 0, .string ⟨#[]⟩, .string ⟨#[]⟩, .string ⟨#[]⟩, .int .i64 0, .string ⟨#[]⟩, .string ⟨#[]⟩, .string ⟨#[]⟩, .slice none 0 0] 47)).alloc (.cells #[.int .i64 6, .int .i64 0, .string ⟨#[]⟩, .string ⟨#[]⟩] 37)).heap.size (((w.alloc (.cells #[.string ⟨#[65]⟩, .string ⟨#[]⟩] 34)).alloc (.cells #[.string ⟨#[97]⟩, .bool false, .int .i64 0, .string ⟨#[]⟩, .string ⟨#[]⟩, .string ⟨#[]⟩, .int .i64 0, .string ⟨#[]⟩, .string ⟨#[]⟩, .string ⟨#[]⟩, .int .i64 0, .string ⟨#[]⟩, .string ⟨#[]⟩, .string ⟨#[]⟩, .slice none 0 0] 47)).alloc (.cells #[.int .i64 6, .int .i64 0, .string ⟨#[]⟩, .string ⟨#[]⟩] 37)) w' := by
 have h1 : RowKit.Below w.heap.size w (w.alloc (.cells #[.string ⟨#[65]⟩, .string ⟨#[]⟩] 34)) := by (repeat (first | assumption | exact Below.refl _ _ | apply Below.drew | apply below_drewN | (refine Below.alloc ?_ (by first | exact Nat.le_refl _ | omega | (simp; done) | (simp; omega)) _)))
 have h2 : RowKit.Below w.heap.size w ((w.alloc (.cells #[.string ⟨#[65]⟩, .string ⟨#[]⟩] 34)).alloc (.cells #[.string ⟨#[97]⟩, .bool false, .int .i64 0, .string ⟨#[]⟩, .string ⟨#[]⟩, .string ⟨#[]⟩, .int .i64 0, .string ⟨#[]⟩, .string ⟨#[]⟩, .string ⟨#[]⟩, .int .i64 0, .string ⟨#[]⟩, .string ⟨#[]⟩, .string ⟨#[]⟩, .slice none 0 0] 47)) := by (repeat (first | assumption | exact Below.refl _ _ | apply Below.drew | apply below_drewN | (refine Below.alloc ?_ (by first | exact Nat.le_refl _ | omega | (simp; done) | (simp; omega)) _)))
 have h3 : RowKit.Below w.heap.size w (((w.alloc (.cells #[.string ⟨#[65]⟩, .string ⟨#[]⟩] 34)).alloc (.cells #[.string ⟨#[97]⟩, .bool false, .int .i64 0, .string ⟨#[]⟩, .string ⟨#[]⟩, .string ⟨#[]⟩, .int .i64 0, .string ⟨#[]⟩, .string ⟨#[]⟩, .string ⟨#[]⟩, .int .i64 0, .string ⟨#[]⟩, .string ⟨#[]⟩, .string ⟨#[]⟩, .slice none 0 0] 47)).alloc (.cells #[.int .i64 6, .int .i64 0, .string ⟨#[]⟩, .string ⟨#[]⟩] 37)) := by (repeat (first | assumption | exact Below.refl _ _ | apply Below.drew | apply below_drewN | (refine Below.alloc ?_ (by first | exact Nat.le_refl _ | omega | (simp; done) | (simp; omega)) _)))
 have hp : PosIn (((w.alloc (.cells #[.string ⟨#[65]⟩, .string ⟨#[]⟩] 34)).alloc (.cells #[.string ⟨#[97]⟩, .bool false, .int .i64 0, .string ⟨#[]⟩, .string ⟨#[]⟩, .string ⟨#[]⟩, .int .i64 0, .string ⟨#[]⟩, .string ⟨#[]⟩, .string ⟨#[]⟩, .int .i64 0, .string ⟨#[]⟩, .string ⟨#[]⟩, .string ⟨#[]⟩, .slice none 0 0] 47)).alloc (.cells #[.int .i64 6, .int .i64 0, .string ⟨#[]⟩, .string ⟨#[]⟩] 37)) (some ⟨w.heap.size + 1, 0, none⟩) [pmA] := by
   have h := posA (w.alloc (.cells #[.string ⟨#[65]⟩, .string ⟨#[]⟩] 34)) 47
   rw [show (w.alloc (.cells #[.string ⟨#[65]⟩, .string ⟨#[]⟩] 34)).heap.size = w.heap.size + 1 from World.size_alloc _ _] at h
   exact h.later (by (repeat (first | assumption | exact Below.refl _ _ | apply Below.drew | apply below_drewN | (refine Below.alloc ?_ (by first | exact Nat.le_refl _ | omega | (simp; done) | (simp; omega)) _))))
 have hn : NdSl (((w.alloc (.cells #[.string ⟨#[65]⟩, .string ⟨#[]⟩] 34)).alloc (.cells #[.string ⟨#[97]⟩, .bool false, .int .i64 0, .string ⟨#[]⟩, .string ⟨#[]⟩, .string ⟨#[]⟩, .int .i64 0, .string ⟨#[]⟩, .string ⟨#[]⟩, .string ⟨#[]⟩, .int .i64 0, .string ⟨#[]⟩, .string ⟨#[]⟩, .string ⟨#[]⟩, .slice none 0 0] 47)).alloc (.cells #[.int .i64 6, .int .i64 0, .string ⟨#[]⟩, .string ⟨#[]⟩] 37)) (((w.alloc (.cells #[.string ⟨#[65]⟩, .string ⟨#[]⟩] 34)).alloc (.cells #[.string ⟨#[97]⟩, .bool false, .int .i64 0, .string ⟨#[]⟩, .string ⟨#[]⟩, .string ⟨#[]⟩, .int .i64 0, .string ⟨#[]⟩, .string ⟨#[]⟩, .string ⟨#[]⟩, .int .i64 0, .string ⟨#[]⟩, .string ⟨#[]⟩, .string ⟨#[]⟩, .slice none 0 0] 47)).alloc (.cells #[.int .i64 6, .int .i64 0, .string ⟨#[]⟩, .string ⟨#[]⟩] 37)).heap.size (some ⟨w.heap.size + 1 + 1, 0, none⟩) [nR] := by
   have h : NdSl (((w.alloc (.cells #[.string ⟨#[65]⟩, .string ⟨#[]⟩] 34)).alloc (.cells #[.string ⟨#[97]⟩, .bool false, .int .i64 0, .string ⟨#[]⟩, .string ⟨#[]⟩, .string ⟨#[]⟩, .int .i64 0, .string ⟨#[]⟩, .string ⟨#[]⟩, .string ⟨#[]⟩, .int .i64 0, .string ⟨#[]⟩, .string ⟨#[]⟩, .string ⟨#[]⟩, .slice none 0 0] 47)).alloc (.cells #[.int .i64 6, .int .i64 0, .string ⟨#[]⟩, .string ⟨#[]⟩] 37)) (((w.alloc (.cells #[.string ⟨#[65]⟩, .string ⟨#[]⟩] 34)).alloc (.cells #[.string ⟨#[97]⟩, .bool false, .int .i64 0, .string ⟨#[]⟩, .string ⟨#[]⟩, .string ⟨#[]⟩, .int .i64 0, .string ⟨#[]⟩, .string ⟨#[]⟩, .string ⟨#[]⟩, .int .i64 0, .string ⟨#[]⟩, .string ⟨#[]⟩, .string ⟨#[]⟩, .slice none 0 0] 47)).alloc (.cells #[.int .i64 6, .int .i64 0, .string ⟨#[]⟩, .string ⟨#[]⟩] 37)).heap.size (some ⟨((w.alloc (.cells #[.string ⟨#[65]⟩, .string ⟨#[]⟩] 34)).alloc (.cells #[.string ⟨#[97]⟩, .bool false, .int .i64 0, .string ⟨#[]⟩, .string ⟨#[]⟩, .string ⟨#[]⟩, .int .i64 0, .string ⟨#[]⟩, .string ⟨#[]⟩, .string ⟨#[]⟩, .int .i64 0, .string ⟨#[]⟩, .string ⟨#[]⟩, .string ⟨#[]⟩, .slice none 0 0] 47)).heap.size, 0, none⟩) [nR] := NdSl.of_flat (by simp) fun j u hu => by rw [World.cell?_alloc_new, ← hu]; simp [flat, Nd.cells, nR]
   rwa [show ((w.alloc (.cells #[.string ⟨#[65]⟩, .string ⟨#[]⟩] 34)).alloc (.cells #[.string ⟨#[97]⟩, .bool false, .int .i64 0, .string ⟨#[]⟩, .string ⟨#[]⟩, .string ⟨#[]⟩, .int .i64 0, .string ⟨#[]⟩, .string ⟨#[]⟩, .string ⟨#[]⟩, .int .i64 0, .string ⟨#[]⟩, .string ⟨#[]⟩, .string ⟨#[]⟩, .slice none 0 0] 47)).heap.size = w.heap.size + 1 + 1 from by rw [World.size_alloc, World.size_alloc]] at h
 have h := slice_Pick_ok (xA (some ⟨w.heap.size + 1 + 1, 0, none⟩) 1) [pmA] (some ⟨w.heap.size + 1, 0, none⟩) 1 (((w.alloc (.cells #[.string ⟨#[65]⟩, .string ⟨#[]⟩] 34)).alloc (.cells #[.string ⟨#[97]⟩, .bool false, .int .i64 0, .string ⟨#[]⟩, .string ⟨#[]⟩, .string ⟨#[]⟩, .int .i64 0, .string ⟨#[]⟩, .string ⟨#[]⟩, .string ⟨#[]⟩, .int .i64 0, .string ⟨#[]⟩, .string ⟨#[]⟩, .string ⟨#[]⟩, .slice none 0 0] 47)).alloc (.cells #[.int .i64 6, .int .i64 0, .string ⟨#[]⟩, .string ⟨#[]⟩] 37)) (aqA (hg.below h3 hg.lt) hn ⟨Nat.le_refl _, by omega⟩) hp (askA _ _)
 refine Calls.mono h ?_
 rintro r w' ⟨A1, c1, ms, rfl, _, _, hm, _, hb⟩
 rw [pick_A] at hm
 have hl : ms.length = 1 := by have := congrArg List.length hm; simpa using this
 exact ⟨A1, c1, by rw [hl], hb⟩
end Go.Proofs.YtpheiojmcafolaaGreatDoor
