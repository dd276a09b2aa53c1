/-
  THE WALK: the laws' comparison of policies.
-/
import Derived.Test.YtbommoefpekalaaGreatDoorSameN
import Derived.Test.YtbommoefpekalaaGreatDoorPol2
import Derived.StillTailTactics
namespace Go.Proofs.YtbommoefpekalaaGreatDoor
open Go.RowKit Go.Sort

set_option maxRecDepth 100000 in
set_option maxHeartbeats 3200000 in
/-- Two policies of the same data. -/
theorem same_Policy (p q : Po) (cs ds : List CdM) (A1 A2 : Option Addr) (c1 c2 : Nat) (w : World) (hpq : p = q) (hp : p.conds = cs.map CdM.cd) (hq : q.conds = ds.map CdM.cd) (h1 : CdsAt w w.heap.size A1 cs) (h2 : CdsAt w w.heap.size A2 ds) (l1 : cs.length ≤ c1) (l2 : c1 ≤ 9223372036854775807) :
    Calls Tryz.prog 19 #[.agg #[.string p.name, .bool p.forbid, .int .i64 p.who.op, .string p.who.ty, .string p.who.uid.ty, .string p.who.uid.id, .int .i64 p.act.op, .string p.act.ty, .string p.act.uid.ty, .string p.act.uid.id, .int .i64 p.what.op, .string p.what.ty, .string p.what.uid.ty, .string p.what.uid.id, .slice A1 cs.length c1], .agg #[.string q.name, .bool q.forbid, .int .i64 q.who.op, .string q.who.ty, .string q.who.uid.ty, .string q.who.uid.id, .int .i64 q.act.op, .string q.act.ty, .string q.act.uid.ty, .string q.act.uid.id, .int .i64 q.what.op, .string q.what.ty, .string q.what.uid.ty, .string q.what.uid.id, .slice A2 ds.length c2]] w fun r w' => r = .returned (.bool true) ∧ RowKit.Below w.heap.size w w' := by
  subst hpq
  have hm : cs.map CdM.cd = ds.map CdM.cd := hp.symm.trans hq
  have hln : ds.length = cs.length := by have := congrArg List.length hm; simpa using this.symm
  rw [hln]
  have HM := Lib.hid hm
  have HL := Lib.hid hln
  have H1 := Lib.hid h1
  have H2 := Lib.hid h2
  have n0 : (decide (p.name.toList = p.name.toList)) = true := by simp
  have hne : ((cs.length : Int) != (cs.length : Int)) = false := by simp
  clear h1 h2 hm hln hp hq
  go_enter Tryz.func19, Tryz.ntmps19
  go_wp2_with fail
  go_loopw [5] (fun ii wr => ∃ k : Nat, ii = .int .i64 k ∧ k ≤ cs.length ∧ wr.cell? ⟨w.heap.size, 14, none⟩ = some (.slice A1 cs.length c1) ∧ wr.cell? ⟨w.heap.size + 1, 14, none⟩ = some (.slice A2 cs.length c2) ∧ w.heap.size + 1 < wr.heap.size ∧ RowKit.Below w.heap.size w wr) (fun ii _ => cs.length - (intOf ii).toNat)
  case atStart => exact ⟨0, rfl, by omega, by simp [go_sem], by simp [go_sem], by simp, by (repeat (first | assumption | exact Below.refl _ _ | apply Below.drew | apply below_drewN | (refine Below.alloc ?_ (by first | exact Nat.le_refl _ | omega | (simp; done) | (simp; omega)) _)))⟩
  case round =>
    obtain ⟨k, rfl, hk, d1, d2, hsz, hbr⟩ := hrel
    by_cases hlt : k < cs.length
    · obtain ⟨⟨u, Ax, cx, e⟩, hx⟩ : ∃ x, cs[k]? = some x := ⟨_, List.getElem?_eq_getElem hlt⟩
      obtain ⟨y, hy⟩ : ∃ y, ds[k]? = some y := ⟨_, List.getElem?_eq_getElem (by have := HL.out; omega)⟩
      have hxy : y.cd = ⟨u, e⟩ := by
        have h := congrArg (fun l => l[k]?) HM.out
        simp only [List.getElem?_map, hx, hy, Option.map_some, Option.some.injEq] at h
        exact h.symm
      obtain ⟨u', Ay, cy, e'⟩ := y
      simp only [CdM.cd, Cd.mk.injEq] at hxy
      obtain ⟨rfl, rfl⟩ := hxy
      have g1 := (H1.out.later hbr).good _ (List.mem_of_getElem? hx)
      have g2 := (H2.out.later hbr).good _ (List.mem_of_getElem? hy)
      obtain ⟨b1, o1, rfl, hb1, ⟨p0, p1⟩⟩ := cdSl_at (H1.out.later hbr).sl hx
      obtain ⟨b2, o2, rfl, hb2, ⟨q0, q1⟩⟩ := cdSl_at (H2.out.later hbr).sl hy
      have HS := Lib.hid (fun W (hW : RowKit.Below wr.heap.size wr W) => same_Nodes e' Ax Ay cx cy W ((g1.sl.below hW).more hW.size) ((g2.sl.below hW).more hW.size) (Nat.le_trans g1.le g1.max))
      clear g1 g2 hx hy
      go_wp2_with fail
      go_still_tail 12, (by kernel_rfl)
      change wpList _ _ _ _ _ wr.drew
      go_wp2_with fail
      refine (HS.out _ ((RowKit.Below.refl _ _).drew)).mono ?_
      rintro r w5 ⟨rfl, hb5⟩
      have hw5 : RowKit.Below wr.heap.size wr w5 := (RowKit.Below.refl _ _).drew.trans hb5
      have hz5 := hw5.size
      have e1 : w5.cell? ⟨w.heap.size, 14, none⟩ = some (.slice (some ⟨b1, o1, none⟩) cs.length c1) := (hw5.cell (p := ⟨w.heap.size, 14, none⟩) (by show w.heap.size < _; omega)).trans d1
      have e2 : w5.cell? ⟨w.heap.size + 1, 14, none⟩ = some (.slice (some ⟨b2, o2, none⟩) cs.length c2) := (hw5.cell (p := ⟨w.heap.size + 1, 14, none⟩) hsz).trans d2
      have e3 := (hw5.cell (p := ⟨b1, o1 + k * 2, none⟩) hb1).trans p0
      have e4 := (hw5.cell (p := ⟨b2, o2 + k * 2, none⟩) hb2).trans q0
      have hsz5 : w.heap.size + 1 < w5.heap.size := by omega
      have hbw := hbr.trans (hw5.mono hbr.size)
      clear hb5 d1 d2 p0 p1 q0 q1 hw5
      go_wp2_with fail
      go_quiet (fail)
      go_wp2_with fail
      exact ⟨⟨k + 1, by go_num, by omega, e1, e2, hsz5, below_drewN hbw _⟩, by simp [intOf]; omega⟩
    · go_wp2_with fail
      go_ret
      exact ⟨rfl, hbr⟩
end Go.Proofs.YtbommoefpekalaaGreatDoor
