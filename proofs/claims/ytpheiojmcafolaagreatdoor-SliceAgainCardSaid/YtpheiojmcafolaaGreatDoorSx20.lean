/-
  PLAIN LAWS: policies that are picked, with other memory: the same answer. THE WALK: the laws' comparison of answers.
  THE WALK: slice.Pick at the laws' first example (printed by mkslf.py).
  THE WALK: the laws' comparison of policies.
-/
import Derived.Test.YtpheiojmcafolaaGreatDoorSx18
import Derived.Test.YtpheiojmcafolaaGreatDoorSx19
import Derived.Test.YtpheiojmcafolaaGreatDoorSx17
import Derived.Test.YtpheiojmcafolaaGreatDoorSx11
import Derived.Test.YtpheiojmcafolaaGreatDoorSx05
import Derived.StillTailTactics
namespace Go.Proofs.YtpheiojmcafolaaGreatDoor
set_option maxRecDepth 100000
open Go.RowKit Go.Sort
theorem map_filt {α β γ : Type} (p : α → β) (F : β → Bool) (N : β → γ) (ms qs : List α) (h : ms.map p = qs.map p) : (ms.filter fun x => F (p x)).map (fun x => N (p x)) = (qs.filter fun x => F (p x)).map (fun x => N (p x)) := by
 have key : ∀ l : List α, (l.filter fun x => F (p x)).map (fun x => N (p x)) = ((l.map p).filter F).map N := by
   intro l
   induction l with
   | nil => rfl
   | cons a l ih =>
     rw [List.map_cons]
     by_cases hc : F (p a) = true
     · rw [List.filter_cons_of_pos (by simpa using hc), List.filter_cons_of_pos (by simpa using hc), List.map_cons, List.map_cons, ih]
     · rw [List.filter_cons_of_neg (by simpa using hc), List.filter_cons_of_neg (by simpa using hc), ih]
 rw [key, key, h]
theorem authGo_p : ∀ (ms qs : List PoM) (met : List (List UInt8)), ms.map PoM.p = qs.map PoM.p → authGo nmQ pe1Q pe2Q ms met = authGo nmQ pe1Q pe2Q qs met
 | [], [], _, _ => rfl
 | [], b :: bs, _, h => by simp at h
 | a :: as', [], _, h => by simp at h
 | a :: as', b :: bs, met, h => by
   rw [List.map_cons, List.map_cons] at h
   injection h with h1 h2
   have e1 : pe1Q a = pe1Q b := by unfold pe1Q; rw [h1]
   have e2 : pe2Q a = pe2Q b := by unfold pe2Q; rw [h1]
   have e3 : nmQ a = nmQ b := by unfold nmQ; rw [h1]
   unfold authGo
   rw [e1, e2, e3, authGo_p as' bs _ h2]
theorem aErr_p {ms qs : List PoM} (h : ms.map PoM.p = qs.map PoM.p) : aErr ms = aErr qs := by
 have hl : ms.length = qs.length := by have := congrArg List.length h; simpa using this
 unfold aErr authErr
 rw [hl, authGo_p ms qs [] h]
def vtP (es : List En) (q : Rq) (p : Po) : Int := match valueR es q (exprP p).1 with
 | .ok v => if opH v = 1 then (if nH v = 1 then 1 else 0) else -1
 | .bad _ => -1
theorem ans_p (es : List En) (q : Rq) {ms qs : List PoM} (h : ms.map PoM.p = qs.map PoM.p) : forbids nmQ fbQ (vtQ es q) ms = forbids nmQ fbQ (vtQ es q) qs ∧ permits nmQ fbQ (vtQ es q) ms = permits nmQ fbQ (vtQ es q) qs ∧ wrongs nmQ (vtQ es q) ms = wrongs nmQ (vtQ es q) qs :=
 ⟨map_filt PoM.p (fun p => vtP es q p == 1 && p.forbid) (fun p => p.name.toList) ms qs h, map_filt PoM.p (fun p => vtP es q p == 1 && !p.forbid) (fun p => p.name.toList) ms qs h, map_filt PoM.p (fun p => vtP es q p == -1) (fun p => p.name.toList) ms qs h⟩
theorem ask_p (x : Aq) {ms qs : List PoM} (h : ms.map PoM.p = qs.map PoM.p) : askErr x ms = askErr x qs ∧ aOB x ms = aOB x qs ∧ aBY x ms = aBY x qs ∧ aWR x ms = aWR x qs := by
 obtain ⟨h1, h2, h3⟩ := ans_p x.es x.q h
 have h0 : askErr x ms = askErr x qs := by unfold askErr; rw [aErr_p h]
 unfold aOB aBY aWR
 rw [h0]
 unfold allowP byP
 rw [h1, h2, h3]
 exact ⟨rfl, rfl, rfl, rfl⟩
theorem vt_unpicked {x : Aq} {ps : List PoM} (hk : askErr x ps = 0) : ∀ y ∈ ps, pickB x y = false → vtQ x.es x.q y = 0 := by
 intro y hy hp
 obtain ⟨hz1, hz2, hz3⟩ := firstI_zero hk
 obtain ⟨-, hall, -⟩ := aErr_use hz2
 obtain ⟨h1, h2, h3⟩ := hall y hy
 obtain ⟨_, e2, e3⟩ := exprP_tree h2
 have hs : ¬ (y.p.who.op = 5 ∨ y.p.who.op = 6) ∧ ¬ (y.p.what.op = 5 ∨ y.p.what.op = 6) := by
   unfold slotsP at h3
   obtain ⟨g1, g2⟩ := List.append_eq_nil_iff.1 h3
   constructor
   · intro hc
     rw [if_pos (by unfold slottedP; simpa using hc)] at g1
     simp at g1
   · intro hc
     rw [if_pos (by unfold slottedP; simpa using hc)] at g2
     simp at g2
 have hv : valueR x.es x.q (exprP y.p).1 = .ok [bN false] := by
   unfold valueR
   rw [if_neg (by simp [hz1]), if_neg (by simp [hz3]), if_neg (by simp [e3])]
   show evX x.es x.q (exprP y.p).1 = _
   rw [e2, pol_means x.es x.q hz3 h1 hs.1 hs.2]
   have : scopesB x.es x.q y.p = false := hp
   rw [if_neg (by rw [this]; simp)]
   rfl
 unfold vtQ
 show (match valueR x.es x.q (exprP y.p).1 with | .ok v => if opH v = 1 then (if nH v = 1 then (1 : Int) else 0) else -1 | .bad _ => -1) = 0
 rw [hv]; rfl
theorem pick_ans {x : Aq} {ps ms : List PoM} (hk : askErr x ps = 0) (hm : ms.map PoM.p = (ps.filter (pickB x)).map PoM.p) : askErr x ms = 0 ∧ aOB x ms = aOB x ps ∧ aBY x ms = aBY x ps ∧ aWR x ms = aWR x ps := by
 obtain ⟨a0, a1, a2, a3⟩ := ask_p x hm
 have hk2 : askErr x (ps.filter (pickB x)) = 0 := askErr_filter hk
 obtain ⟨g1, g2, g3⟩ := pick_answer (nm := nmQ) (fb := fbQ) (vt := vtQ x.es x.q) (f := pickB x) (vt_unpicked hk)
 rw [a0, a1, a2, a3]
 unfold aOB aBY aWR
 rw [if_pos hk2, if_pos hk2, if_pos hk2, if_pos hk, if_pos hk, if_pos hk]
 exact ⟨hk2, g2, g1, g3⟩
theorem pick_A (qa : Option Addr) (qc : Nat) : [pmA].filter (pickB (xA qa qc)) = [pmA] := by
 have hs : pickB (xA qa qc) pmA = true := by
   show scopesB [] rqP pA = true
   simp [scopesB, fitsB, pA]
 rw [List.filter_cons_of_pos hs]; rfl
end Go.Proofs.YtpheiojmcafolaaGreatDoor
namespace Go.Proofs.YtpheiojmcafolaaGreatDoor
set_option maxRecDepth 100000
open Go.RowKit Go.Sort
set_option maxHeartbeats 6400000 in
theorem pick_first (w : World) (hg : ErrCell w) : Calls Tryz.prog 38 #[.slice none 0 0, .slice (some ⟨w.heap.size + 1, 0, none⟩) 1 1, .agg #[.string ⟨#[65]⟩, .string ⟨#[]⟩, .string ⟨#[65]⟩, .string ⟨#[]⟩, .string ⟨#[65]⟩, .string ⟨#[]⟩, .slice (some ⟨w.heap.size + 1 + 1, 0, none⟩) 1 1]] (((w.alloc (.cells #[.string ⟨#[65]⟩, .string ⟨#[]⟩] 34)).alloc (.cells #[.string ⟨#[97]⟩, .bool false, .int .i64 0, .string ⟨#[]⟩, .string ⟨#[]⟩, .string ⟨#[]⟩, .int .i64 0, .string ⟨#[]⟩, .string ⟨#[]⟩, .string ⟨#[]⟩, .int .i64 0, .string ⟨#[]⟩, .string ⟨#[]⟩, .string ⟨#[]⟩, .slice none 0 0] 47)).alloc (.cells #[.int .i64 6, .int .i64 0, .string ⟨#[]⟩, .string ⟨#[]⟩] 37)) fun r w' => ∃ A1 c1, r = .returned (.tuple #[.slice A1 1 c1, .nilIface]) ∧ RowKit.Below (((w.alloc (.cells #[.string ⟨#[65]⟩, .string ⟨#[]⟩] 34)).alloc (.cells #[.string ⟨#[97]⟩, .bool false, .int .i64 0, .string ⟨#[]⟩, .string ⟨#[]⟩, .string ⟨#[]⟩, .int .i64 0, .string ⟨#[]⟩, .string ⟨#[]⟩, .string ⟨#[]⟩, .int .i64 0, .string ⟨#[]⟩, .string ⟨#[]⟩, .string ⟨#[]⟩, .slice none 0 0] 47)).alloc (.cells #[.int .i64 6, .int .i64 0, .string ⟨#[]⟩, .string ⟨#[]⟩] 37)).heap.size (((w.alloc (.cells #[.string ⟨#[65]⟩, .string ⟨#[]⟩] 34)).alloc (.cells #[.string ⟨#[97]⟩, .bool false, .int .i64 0, .string ⟨#[]⟩, .string ⟨#[]⟩, .string ⟨#[]⟩, .int .i64 0, .string ⟨#[]⟩, .string ⟨#[]⟩, .string ⟨#[]⟩, .int .i64 0, .string ⟨#[]⟩, .string ⟨#[]⟩, .string ⟨#[]⟩, .slice none 0 0] 47)).alloc (.cells #[.int .i64 6, .int .i64 0, .string ⟨#[]⟩, .string ⟨#[]⟩] 37)) w' := by
 have h1 : RowKit.Below w.heap.size w (w.alloc (.cells #[.string ⟨#[65]⟩, .string ⟨#[]⟩] 34)) := by (repeat (first | assumption | exact Below.refl _ _ | apply Below.drew | apply below_drewN | (refine Below.alloc ?_ (by first | exact Nat.le_refl _ | omega | (simp; done) | (simp; omega)) _)))
 have h2 : RowKit.Below w.heap.size w ((w.alloc (.cells #[.string ⟨#[65]⟩, .string ⟨#[]⟩] 34)).alloc (.cells #[.string ⟨#[97]⟩, .bool false, .int .i64 0, .string ⟨#[]⟩, .string ⟨#[]⟩, .string ⟨#[]⟩, .int .i64 0, .string ⟨#[]⟩, .string ⟨#[]⟩, .string ⟨#[]⟩, .int .i64 0, .string ⟨#[]⟩, .string ⟨#[]⟩, .string ⟨#[]⟩, .slice none 0 0] 47)) := by (repeat (first | assumption | exact Below.refl _ _ | apply Below.drew | apply below_drewN | (refine Below.alloc ?_ (by first | exact Nat.le_refl _ | omega | (simp; done) | (simp; omega)) _)))
 have h3 : RowKit.Below w.heap.size w (((w.alloc (.cells #[.string ⟨#[65]⟩, .string ⟨#[]⟩] 34)).alloc (.cells #[.string ⟨#[97]⟩, .bool false, .int .i64 0, .string ⟨#[]⟩, .string ⟨#[]⟩, .string ⟨#[]⟩, .int .i64 0, .string ⟨#[]⟩, .string ⟨#[]⟩, .string ⟨#[]⟩, .int .i64 0, .string ⟨#[]⟩, .string ⟨#[]⟩, .string ⟨#[]⟩, .slice none 0 0] 47)).alloc (.cells #[.int .i64 6, .int .i64 0, .string ⟨#[]⟩, .string ⟨#[]⟩] 37)) := by (repeat (first | assumption | exact Below.refl _ _ | apply Below.drew | apply below_drewN | (refine Below.alloc ?_ (by first | exact Nat.le_refl _ | omega | (simp; done) | (simp; omega)) _)))
 have hp : PosIn (((w.alloc (.cells #[.string ⟨#[65]⟩, .string ⟨#[]⟩] 34)).alloc (.cells #[.string ⟨#[97]⟩, .bool false, .int .i64 0, .string ⟨#[]⟩, .string ⟨#[]⟩, .string ⟨#[]⟩, .int .i64 0, .string ⟨#[]⟩, .string ⟨#[]⟩, .string ⟨#[]⟩, .int .i64 0, .string ⟨#[]⟩, .string ⟨#[]⟩, .string ⟨#[]⟩, .slice none 0 0] 47)).alloc (.cells #[.int .i64 6, .int .i64 0, .string ⟨#[]⟩, .string ⟨#[]⟩] 37)) (some ⟨w.heap.size + 1, 0, none⟩) [pmA] := by
   have h := posA (w.alloc (.cells #[.string ⟨#[65]⟩, .string ⟨#[]⟩] 34)) 47
   rw [show (w.alloc (.cells #[.string ⟨#[65]⟩, .string ⟨#[]⟩] 34)).heap.size = w.heap.size + 1 from World.size_alloc _ _] at h
   exact h.later (by (repeat (first | assumption | exact Below.refl _ _ | apply Below.drew | apply below_drewN | (refine Below.alloc ?_ (by first | exact Nat.le_refl _ | omega | (simp; done) | (simp; omega)) _))))
 have hn : NdSl (((w.alloc (.cells #[.string ⟨#[65]⟩, .string ⟨#[]⟩] 34)).alloc (.cells #[.string ⟨#[97]⟩, .bool false, .int .i64 0, .string ⟨#[]⟩, .string ⟨#[]⟩, .string ⟨#[]⟩, .int .i64 0, .string ⟨#[]⟩, .string ⟨#[]⟩, .string ⟨#[]⟩, .int .i64 0, .string ⟨#[]⟩, .string ⟨#[]⟩, .string ⟨#[]⟩, .slice none 0 0] 47)).alloc (.cells #[.int .i64 6, .int .i64 0, .string ⟨#[]⟩, .string ⟨#[]⟩] 37)) (((w.alloc (.cells #[.string ⟨#[65]⟩, .string ⟨#[]⟩] 34)).alloc (.cells #[.string ⟨#[97]⟩, .bool false, .int .i64 0, .string ⟨#[]⟩, .string ⟨#[]⟩, .string ⟨#[]⟩, .int .i64 0, .string ⟨#[]⟩, .string ⟨#[]⟩, .string ⟨#[]⟩, .int .i64 0, .string ⟨#[]⟩, .string ⟨#[]⟩, .string ⟨#[]⟩, .slice none 0 0] 47)).alloc (.cells #[.int .i64 6, .int .i64 0, .string ⟨#[]⟩, .string ⟨#[]⟩] 37)).heap.size (some ⟨w.heap.size + 1 + 1, 0, none⟩) [nR] := by
   have h : NdSl (((w.alloc (.cells #[.string ⟨#[65]⟩, .string ⟨#[]⟩] 34)).alloc (.cells #[.string ⟨#[97]⟩, .bool false, .int .i64 0, .string ⟨#[]⟩, .string ⟨#[]⟩, .string ⟨#[]⟩, .int .i64 0, .string ⟨#[]⟩, .string ⟨#[]⟩, .string ⟨#[]⟩, .int .i64 0, .string ⟨#[]⟩, .string ⟨#[]⟩, .string ⟨#[]⟩, .slice none 0 0] 47)).alloc (.cells #[.int .i64 6, .int .i64 0, .string ⟨#[]⟩, .string ⟨#[]⟩] 37)) (((w.alloc (.cells #[.string ⟨#[65]⟩, .string ⟨#[]⟩] 34)).alloc (.cells #[.string ⟨#[97]⟩, .bool false, .int .i64 0, .string ⟨#[]⟩, .string ⟨#[]⟩, .string ⟨#[]⟩, .int .i64 0, .string ⟨#[]⟩, .string ⟨#[]⟩, .string ⟨#[]⟩, .int .i64 0, .string ⟨#[]⟩, .string ⟨#[]⟩, .string ⟨#[]⟩, .slice none 0 0] 47)).alloc (.cells #[.int .i64 6, .int .i64 0, .string ⟨#[]⟩, .string ⟨#[]⟩] 37)).heap.size (some ⟨((w.alloc (.cells #[.string ⟨#[65]⟩, .string ⟨#[]⟩] 34)).alloc (.cells #[.string ⟨#[97]⟩, .bool false, .int .i64 0, .string ⟨#[]⟩, .string ⟨#[]⟩, .string ⟨#[]⟩, .int .i64 0, .string ⟨#[]⟩, .string ⟨#[]⟩, .string ⟨#[]⟩, .int .i64 0, .string ⟨#[]⟩, .string ⟨#[]⟩, .string ⟨#[]⟩, .slice none 0 0] 47)).heap.size, 0, none⟩) [nR] := NdSl.of_flat (by simp) fun j u hu => by rw [World.cell?_alloc_new, ← hu]; simp [flat, Nd.cells, nR]
   rwa [show ((w.alloc (.cells #[.string ⟨#[65]⟩, .string ⟨#[]⟩] 34)).alloc (.cells #[.string ⟨#[97]⟩, .bool false, .int .i64 0, .string ⟨#[]⟩, .string ⟨#[]⟩, .string ⟨#[]⟩, .int .i64 0, .string ⟨#[]⟩, .string ⟨#[]⟩, .string ⟨#[]⟩, .int .i64 0, .string ⟨#[]⟩, .string ⟨#[]⟩, .string ⟨#[]⟩, .slice none 0 0] 47)).heap.size = w.heap.size + 1 + 1 from by rw [World.size_alloc, World.size_alloc]] at h
 have h := slice_Pick_ok (xA (some ⟨w.heap.size + 1 + 1, 0, none⟩) 1) [pmA] (some ⟨w.heap.size + 1, 0, none⟩) 1 (((w.alloc (.cells #[.string ⟨#[65]⟩, .string ⟨#[]⟩] 34)).alloc (.cells #[.string ⟨#[97]⟩, .bool false, .int .i64 0, .string ⟨#[]⟩, .string ⟨#[]⟩, .string ⟨#[]⟩, .int .i64 0, .string ⟨#[]⟩, .string ⟨#[]⟩, .string ⟨#[]⟩, .int .i64 0, .string ⟨#[]⟩, .string ⟨#[]⟩, .string ⟨#[]⟩, .slice none 0 0] 47)).alloc (.cells #[.int .i64 6, .int .i64 0, .string ⟨#[]⟩, .string ⟨#[]⟩] 37)) (aqA (hg.below h3 hg.lt) hn ⟨Nat.le_refl _, by omega⟩) hp (askA _ _)
 refine Calls.mono h ?_
 rintro r w' ⟨A1, c1, ms, rfl, _, _, hm, _, hb⟩
 rw [pick_A] at hm
 have hl : ms.length = 1 := by have := congrArg List.length hm; simpa using this
 exact ⟨A1, c1, by rw [hl], hb⟩
end Go.Proofs.YtpheiojmcafolaaGreatDoor
namespace Go.Proofs.YtpheiojmcafolaaGreatDoor
open Go.RowKit Go.Sort
set_option maxRecDepth 100000 in
set_option maxHeartbeats 3200000 in
theorem same_Policy (p q : Po) (cs ds : List CdM) (A1 A2 : Option Addr) (c1 c2 : Nat) (w : World) (hpq : p = q) (hp : p.conds = cs.map CdM.cd) (hq : q.conds = ds.map CdM.cd) (h1 : CdsAt w w.heap.size A1 cs) (h2 : CdsAt w w.heap.size A2 ds) (l1 : cs.length ≤ c1) (l2 : c1 ≤ 9223372036854775807) :
   Calls Tryz.prog 78 #[.agg #[.string p.name, .bool p.forbid, .int .i64 p.who.op, .string p.who.ty, .string p.who.uid.ty, .string p.who.uid.id, .int .i64 p.act.op, .string p.act.ty, .string p.act.uid.ty, .string p.act.uid.id, .int .i64 p.what.op, .string p.what.ty, .string p.what.uid.ty, .string p.what.uid.id, .slice A1 cs.length c1], .agg #[.string q.name, .bool q.forbid, .int .i64 q.who.op, .string q.who.ty, .string q.who.uid.ty, .string q.who.uid.id, .int .i64 q.act.op, .string q.act.ty, .string q.act.uid.ty, .string q.act.uid.id, .int .i64 q.what.op, .string q.what.ty, .string q.what.uid.ty, .string q.what.uid.id, .slice A2 ds.length c2]] w fun r w' => r = .returned (.bool true) ∧ RowKit.Below w.heap.size w w' := by
 subst hpq
 have hm : cs.map CdM.cd = ds.map CdM.cd := hp.symm.trans hq
 have hln : ds.length = cs.length := by have := congrArg List.length hm; simpa using this.symm
 rw [hln]
 have HM := Lib.hid hm
 have HL := Lib.hid hln
 have H1 := Lib.hid h1
 have H2 := Lib.hid h2
 have n0 : (decide (p.name.toList = p.name.toList)) = true := by simp
 have hne : ((cs.length : Int) != (cs.length : Int)) = false := by simp
 clear h1 h2 hm hln hp hq
 go_enter Tryz.func78, Tryz.ntmps78
 go_wp2_with fail
 go_loopw [5] (fun ii wr => ∃ k : Nat, ii = .int .i64 k ∧ k ≤ cs.length ∧ wr.cell? ⟨w.heap.size, 14, none⟩ = some (.slice A1 cs.length c1) ∧ wr.cell? ⟨w.heap.size + 1, 14, none⟩ = some (.slice A2 cs.length c2) ∧ w.heap.size + 1 < wr.heap.size ∧ RowKit.Below w.heap.size w wr) (fun ii _ => cs.length - (intOf ii).toNat)
 case atStart => exact ⟨0, rfl, by omega, by simp [go_sem], by simp [go_sem], by simp, by (repeat (first | assumption | exact Below.refl _ _ | apply Below.drew | apply below_drewN | (refine Below.alloc ?_ (by first | exact Nat.le_refl _ | omega | (simp; done) | (simp; omega)) _)))⟩
 case round =>
   obtain ⟨k, rfl, hk, d1, d2, hsz, hbr⟩ := hrel
   by_cases hlt : k < cs.length
   · obtain ⟨⟨u, Ax, cx, e⟩, hx⟩ : ∃ x, cs[k]? = some x := ⟨_, List.getElem?_eq_getElem hlt⟩
     obtain ⟨y, hy⟩ : ∃ y, ds[k]? = some y := ⟨_, List.getElem?_eq_getElem (by have := HL.out; omega)⟩
     have hxy : y.cd = ⟨u, e⟩ := by
       have h := congrArg (fun l => l[k]?) HM.out
       simp only [List.getElem?_map, hx, hy, Option.map_some, Option.some.injEq] at h
       exact h.symm
     obtain ⟨u', Ay, cy, e'⟩ := y
     simp only [CdM.cd, Cd.mk.injEq] at hxy
     obtain ⟨rfl, rfl⟩ := hxy
     have g1 := (H1.out.later hbr).good _ (List.mem_of_getElem? hx)
     have g2 := (H2.out.later hbr).good _ (List.mem_of_getElem? hy)
     obtain ⟨b1, o1, rfl, hb1, ⟨p0, p1⟩⟩ := cdSl_at (H1.out.later hbr).sl hx
     obtain ⟨b2, o2, rfl, hb2, ⟨q0, q1⟩⟩ := cdSl_at (H2.out.later hbr).sl hy
     have HS := Lib.hid (fun W (hW : RowKit.Below wr.heap.size wr W) => same_Nodes e' Ax Ay cx cy W ((g1.sl.below hW).more hW.size) ((g2.sl.below hW).more hW.size) (Nat.le_trans g1.le g1.max))
     clear g1 g2 hx hy
     go_wp2_with fail
     go_still_tail 12, (by kernel_rfl)
     change wpList _ _ _ _ _ wr.drew
     go_wp2_with fail
     refine (HS.out _ ((RowKit.Below.refl _ _).drew)).mono ?_
     rintro r w5 ⟨rfl, hb5⟩
     have hw5 : RowKit.Below wr.heap.size wr w5 := (RowKit.Below.refl _ _).drew.trans hb5
     have hz5 := hw5.size
     have e1 : w5.cell? ⟨w.heap.size, 14, none⟩ = some (.slice (some ⟨b1, o1, none⟩) cs.length c1) := (hw5.cell (p := ⟨w.heap.size, 14, none⟩) (by show w.heap.size < _; omega)).trans d1
     have e2 : w5.cell? ⟨w.heap.size + 1, 14, none⟩ = some (.slice (some ⟨b2, o2, none⟩) cs.length c2) := (hw5.cell (p := ⟨w.heap.size + 1, 14, none⟩) hsz).trans d2
     have e3 := (hw5.cell (p := ⟨b1, o1 + k * 2, none⟩) hb1).trans p0
     have e4 := (hw5.cell (p := ⟨b2, o2 + k * 2, none⟩) hb2).trans q0
     have hsz5 : w.heap.size + 1 < w5.heap.size := by omega
     have hbw := hbr.trans (hw5.mono hbr.size)
     clear hb5 d1 d2 p0 p1 q0 q1 hw5
     go_wp2_with fail
     go_quiet (fail)
     go_wp2_with fail
     exact ⟨⟨k + 1, by go_num, by omega, e1, e2, hsz5, below_drewN hbw _⟩, by simp [intOf]; omega⟩
   · go_wp2_with fail
     go_ret
     exact ⟨rfl, hbr⟩
end Go.Proofs.YtpheiojmcafolaaGreatDoor
