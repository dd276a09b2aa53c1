/-
  THE WALKS: link.slotted, link.filled, link.Link.
  THE WALKS: link.Link.
-/
import Derived.Test.YtbommoefpekalaaGreatCln
namespace Go.Proofs.YtbommoefpekalaaGreat
open Go.RowKit Go.Sort

def ud0 : Ud := ⟨⟨#[]⟩, ⟨#[]⟩⟩
def sc0 : Sc := ⟨0, ⟨#[]⟩, ud0⟩
def po0 : Po := ⟨⟨#[]⟩, false, sc0, sc0, sc0, []⟩
def slottedP (s : Sc) : Bool := s.op == 5 || s.op == 6
/-- A scope with its slot filled. -/
def fillP (s : Sc) (u : Ud) : Sc × Int :=
  if slottedP s = true then (if udErr u = 0 then (⟨s.op - 4, ⟨#[]⟩, u⟩, 0) else (sc0, udErr u)) else (s, 0)
theorem three {w w1 : World} {c1 c2 c3 : Array Value} {t1 t2 t3 : TypeId} (hb : Below (((w.alloc (.cells c1 t1)).alloc (.cells c2 t2)).alloc (.cells c3 t3)).heap.size (((w.alloc (.cells c1 t1)).alloc (.cells c2 t2)).alloc (.cells c3 t3)) w1) :
    Blk w1 w.heap.size t1 c1 ∧ Blk w1 (w.heap.size + 1) t2 c2 ∧ Blk w1 (w.heap.size + 1 + 1) t3 c3 ∧ Below w.heap.size w w1 := by
  have b1 := (((Blk.new w t1 c1).alloc (.cells c2 t2)).alloc (.cells c3 t3)).below hb (by simp; omega)
  have b2 := ((Blk.new (w.alloc (.cells c1 t1)) t2 c2).alloc (.cells c3 t3)).below hb (by simp)
  have b3 := (Blk.new ((w.alloc (.cells c1 t1)).alloc (.cells c2 t2)) t3 c3).below hb (by simp)
  simp only [World.size_alloc] at b2 b3
  exact ⟨b1, b2, b3, (by (repeat (first | assumption | exact Below.refl _ _ | apply Below.drew | apply below_drewN | (refine Below.alloc ?_ (by first | exact Nat.le_refl _ | omega | (simp; done) | (simp; omega)) _))) : Below w.heap.size w (((w.alloc (.cells c1 t1)).alloc (.cells c2 t2)).alloc (.cells c3 t3))).trans (hb.mono (by simp; omega))⟩
theorem sc_stored {w : World} {b : Nat} {T : TypeId} (h : Blk w b T #[.int .i64 0, .string ⟨#[]⟩, .string ⟨#[]⟩, .string ⟨#[]⟩]) (x0 x1 x2 x3 : Value) :
    Blk ((((w.setCell ⟨b, 0, none⟩ x0).setCell ⟨b, 1, none⟩ x1).setCell ⟨b, 2, none⟩ x2).setCell ⟨b, 3, none⟩ x3) b T #[x0, x1, x2, x3] := (((h.set 0 x0).set 1 x1).set 2 x2).set 3 x3
set_option maxRecDepth 100000 in
set_option maxHeartbeats 800000 in
theorem link_slotted (s : Sc) (w : World) : Calls Tryz.prog 16 #[.agg #[.int .i64 s.op, .string s.ty, .string s.uid.ty, .string s.uid.id]] w fun e w' => e = .returned (.bool (slottedP s)) ∧ Below w.heap.size w w' := by
  by_cases h5 : s.op = 5
  · have hv : slottedP s = true := by simp [slottedP, h5]
    rw [hv, h5]
    go_enter Tryz.func16, Tryz.ntmps16
    go_wp2_with fail
    go_ret
    exact ⟨rfl, by (repeat (first | assumption | exact Below.refl _ _ | apply Below.drew | apply below_drewN | (refine Below.alloc ?_ (by first | exact Nat.le_refl _ | omega | (simp; done) | (simp; omega)) _)))⟩
  · by_cases h6 : s.op = 6
    · have hv : slottedP s = true := by simp [slottedP, h6]
      rw [hv, h6]
      go_enter Tryz.func16, Tryz.ntmps16
      go_wp2_with fail
      go_ret
      exact ⟨rfl, by (repeat (first | assumption | exact Below.refl _ _ | apply Below.drew | apply below_drewN | (refine Below.alloc ?_ (by first | exact Nat.le_refl _ | omega | (simp; done) | (simp; omega)) _)))⟩
    · have hv : slottedP s = false := by simp [slottedP, h5, h6]
      have t5 : (s.op == 5) = false := by simp [h5]
      have t6 : (s.op == 6) = false := by simp [h6]
      rw [hv]
      clear h5 h6 hv
      go_enter Tryz.func16, Tryz.ntmps16
      go_wp2_with fail
      go_ret
      exact ⟨rfl, by (repeat (first | assumption | exact Below.refl _ _ | apply Below.drew | apply below_drewN | (refine Below.alloc ?_ (by first | exact Nat.le_refl _ | omega | (simp; done) | (simp; omega)) _)))⟩
set_option maxRecDepth 100000 in
set_option maxHeartbeats 1600000 in
theorem link_filled (s : Sc) (u : Ud) (w : World) (hu : UdOk u) : Calls Tryz.prog 13 #[.agg #[.int .i64 s.op, .string s.ty, .string s.uid.ty, .string s.uid.id], .agg #[.string u.ty, .string u.id]] w fun e w' => (∃ q k, fillP s u = (q, k) ∧ e = .returned (.tuple #[.agg #[.int .i64 q.op, .string q.ty, .string q.uid.ty, .string q.uid.id], errV k])) ∧ Below w.heap.size w w' := by
  have HS := Lib.hid (fun W => link_slotted s W)
  have HW := Lib.hid (fun W => name_Write u W hu)
  cases hs : slottedP s with
  | false =>
    rw [hs] at HS
    have HV : Hid (fillP s u = (s, 0)) := by show _ = _; rw [fillP, hs]; rfl
    clear hs
    go_enter Tryz.func13, Tryz.ntmps13
    go_wp2_with fail
    refine (HS.out _).mono ?_
    rintro e w1 ⟨rfl, hb1⟩
    obtain ⟨A0, A1, A2, hbel⟩ := three hb1
    have hc0 := A0.cell
    have hc1 := A1.cell
    have hc2 := A2.cell
    have hf2 := A2.frozen
    have hlt0 := A0.lt
    have hlt1 := A1.lt
    have hlt2 := A2.lt
    have HB := Lib.hid hbel
    clear hb1 hbel
    go_wp2_with fail
    have B4 := sc_stored A2 (.int .i64 s.op) (.string s.ty) (.string s.uid.ty) (.string s.uid.id)
    have k0 := B4.cell 0
    have k1 := B4.cell 1
    have k2 := B4.cell 2
    have k3 := B4.cell 3
    refine bodyPost_ret (v := .tuple #[.agg #[.int .i64 s.op, .string s.ty, .string s.uid.ty, .string s.uid.id], errV (0)]) (by simp [results, Tryz.results13, go_sem, k0, k1, k2, k3, errV_zero]) rfl ⟨⟨s, 0, HV.out, rfl⟩, ?_⟩
    exact (((HB.out.setCell (p := ⟨w.heap.size + 1 + 1, 0, none⟩) (by simp; omega) _).setCell (p := ⟨w.heap.size + 1 + 1, 1, none⟩) (by simp; omega) _).setCell (p := ⟨w.heap.size + 1 + 1, 2, none⟩) (by simp; omega) _).setCell (p := ⟨w.heap.size + 1 + 1, 3, none⟩) (by simp; omega) _
  | true =>
    rw [hs] at HS
    have h56 : s.op = 5 ∨ s.op = 6 := by simpa [slottedP] using hs
    by_cases hu0 : udErr u = 0
    · have tu : (udErr u != 0) = false := by simp [hu0]
      have HV : Hid (fillP s u = (⟨s.op - 4, ⟨#[]⟩, u⟩, 0)) := by show _ = _; rw [fillP, if_pos hs, if_pos hu0]
      have hw1 : IntKind.i64.wrap (s.op - 5) = s.op - 5 := by rw [IntKind.wrap_i64]; omega
      have hw2 : IntKind.i64.wrap (s.op - 5 + 1) = s.op - 4 := by rw [IntKind.wrap_i64]; omega
      clear hs hu0 h56
      go_enter Tryz.func13, Tryz.ntmps13
      go_wp2_with fail
      refine (HS.out _).mono ?_
      rintro e w1 ⟨rfl, hb1⟩
      obtain ⟨A0, A1, A2, hbel⟩ := three hb1
      have hc0 := A0.cell
      have hc1 := A1.cell
      have hc2 := A2.cell
      have hf2 := A2.frozen
      have hlt0 := A0.lt
      have hlt1 := A1.lt
      have hlt2 := A2.lt
      clear hb1
      go_wp2_with fail
      refine (HW.out _).mono ?_
      rintro e w2 ⟨rfl, hb2⟩
      have B0 := A2.below hb2 A2.lt
      have D0 := A0.below hb2 A0.lt
      have D1 := A1.below hb2 A1.lt
      have HB := Lib.hid (hbel.trans (hb2.mono hbel.size))
      clear hb2 hbel hc0 hc1 hc2 hf2 hlt0 hlt1 hlt2 A0 A1 A2
      have hc0 := D0.cell
      have hc1 := D1.cell
      have hc2 := B0.cell
      have hf2 := B0.frozen
      have hlt0 := D0.lt
      have hlt1 := D1.lt
      have hlt2 := B0.lt
      go_wp2_with fail
      have B4 := sc_stored B0 (.int .i64 (s.op - 4)) (.string ⟨#[]⟩) (.string u.ty) (.string u.id)
      have k0 := B4.cell 0
      have k1 := B4.cell 1
      have k2 := B4.cell 2
      have k3 := B4.cell 3
      refine bodyPost_ret (v := .tuple #[.agg #[.int .i64 (s.op - 4), .string ⟨#[]⟩, .string u.ty, .string u.id], errV (0)]) (by simp [results, Tryz.results13, go_sem, k0, k1, k2, k3, errV_zero]) rfl ⟨⟨⟨s.op - 4, ⟨#[]⟩, u⟩, 0, HV.out, rfl⟩, ?_⟩
      exact (((HB.out.setCell (p := ⟨w.heap.size + 1 + 1, 0, none⟩) (by simp; omega) _).setCell (p := ⟨w.heap.size + 1 + 1, 1, none⟩) (by simp; omega) _).setCell (p := ⟨w.heap.size + 1 + 1, 2, none⟩) (by simp; omega) _).setCell (p := ⟨w.heap.size + 1 + 1, 3, none⟩) (by simp; omega) _
    · have tu : (udErr u != 0) = true := by simp [hu0]
      have HV : Hid (fillP s u = (sc0, udErr u)) := by show _ = _; rw [fillP, if_pos hs, if_neg hu0]
      clear hs hu0 h56
      go_enter Tryz.func13, Tryz.ntmps13
      go_wp2_with fail
      refine (HS.out _).mono ?_
      rintro e w1 ⟨rfl, hb1⟩
      obtain ⟨A0, A1, A2, hbel⟩ := three hb1
      have hc0 := A0.cell
      have hc1 := A1.cell
      have hc2 := A2.cell
      have hf2 := A2.frozen
      have hlt0 := A0.lt
      have hlt1 := A1.lt
      have hlt2 := A2.lt
      clear hb1
      go_wp2_with fail
      refine (HW.out _).mono ?_
      rintro e w2 ⟨rfl, hb2⟩
      have B0 := A2.below hb2 A2.lt
      have D0 := A0.below hb2 A0.lt
      have D1 := A1.below hb2 A1.lt
      have HB := Lib.hid (hbel.trans (hb2.mono hbel.size))
      clear hb2 hbel hc0 hc1 hc2 hf2 hlt0 hlt1 hlt2 A0 A1 A2
      have hc0 := D0.cell
      have hc1 := D1.cell
      have hc2 := B0.cell
      have hf2 := B0.frozen
      have hlt0 := D0.lt
      have hlt1 := D1.lt
      have hlt2 := B0.lt
      go_wp2_with fail
      have B4 := sc_stored B0 (.int .i64 0) (.string ⟨#[]⟩) (.string ⟨#[]⟩) (.string ⟨#[]⟩)
      have k0 := B4.cell 0
      have k1 := B4.cell 1
      have k2 := B4.cell 2
      have k3 := B4.cell 3
      refine bodyPost_ret (v := .tuple #[.agg #[.int .i64 0, .string ⟨#[]⟩, .string ⟨#[]⟩, .string ⟨#[]⟩], errV (udErr u)]) (by simp [results, Tryz.results13, go_sem, k0, k1, k2, k3]) rfl ⟨⟨sc0, udErr u, HV.out, rfl⟩, ?_⟩
      exact (((HB.out.setCell (p := ⟨w.heap.size + 1 + 1, 0, none⟩) (by simp; omega) _).setCell (p := ⟨w.heap.size + 1 + 1, 1, none⟩) (by simp; omega) _).setCell (p := ⟨w.heap.size + 1 + 1, 2, none⟩) (by simp; omega) _).setCell (p := ⟨w.heap.size + 1 + 1, 3, none⟩) (by simp; omega) _
end Go.Proofs.YtbommoefpekalaaGreat
namespace Go.Proofs.YtbommoefpekalaaGreat
open Go.RowKit Go.Sort

def linkP (p : Po) (who what : Ud) : Po × Int :=
  if polErr p ≠ 0 then (po0, polErr p)
  else if (fillP p.who who).2 ≠ 0 then (po0, (fillP p.who who).2)
  else if (fillP p.what what).2 ≠ 0 then (po0, (fillP p.what what).2)
  else (⟨p.name, p.forbid, (fillP p.who who).1, p.act, (fillP p.what what).1, p.conds⟩, 0)
/-- A policy that a call hands back, and an error. -/
def PoBack (w : World) (r : Ending) (w' : World) (q : Po) (k : Int) : Prop :=
  ∃ A c cs, r = .returned (.tuple #[.agg #[.string q.name, .bool q.forbid, .int .i64 q.who.op, .string q.who.ty, .string q.who.uid.ty, .string q.who.uid.id, .int .i64 q.act.op, .string q.act.ty, .string q.act.uid.ty, .string q.act.uid.id, .int .i64 q.what.op, .string q.what.ty, .string q.what.uid.ty, .string q.what.uid.id, .slice A cs.length c], errV k]) ∧ cs.length ≤ c ∧ c ≤ 9223372036854775807 ∧ q.conds = cs.map CdM.cd ∧ CdsAt w' w'.heap.size A cs ∧ Below w.heap.size w w'
def zeroPo : Array Value := #[.string ⟨#[]⟩, .bool false, .int .i64 0, .string ⟨#[]⟩, .string ⟨#[]⟩, .string ⟨#[]⟩, .int .i64 0, .string ⟨#[]⟩, .string ⟨#[]⟩, .string ⟨#[]⟩, .int .i64 0, .string ⟨#[]⟩, .string ⟨#[]⟩, .string ⟨#[]⟩, .slice none 0 0]
theorem four {w w1 : World} {c1 c2 c3 c4 : Array Value} {t1 t2 t3 t4 : TypeId} (hb : Below ((((w.alloc (.cells c1 t1)).alloc (.cells c2 t2)).alloc (.cells c3 t3)).alloc (.cells c4 t4)).heap.size ((((w.alloc (.cells c1 t1)).alloc (.cells c2 t2)).alloc (.cells c3 t3)).alloc (.cells c4 t4)) w1) :
    Blk w1 w.heap.size t1 c1 ∧ Blk w1 (w.heap.size + 1) t2 c2 ∧ Blk w1 (w.heap.size + 1 + 1) t3 c3 ∧ Blk w1 (w.heap.size + 1 + 1 + 1) t4 c4 ∧ Below w.heap.size w w1 := by
  have b1 := ((((Blk.new w t1 c1).alloc (.cells c2 t2)).alloc (.cells c3 t3)).alloc (.cells c4 t4)).below hb (by first | (simp; done) | (simp; omega))
  have b2 := (((Blk.new (w.alloc (.cells c1 t1)) t2 c2).alloc (.cells c3 t3)).alloc (.cells c4 t4)).below hb (by first | (simp; done) | (simp; omega))
  have b3 := ((Blk.new ((w.alloc (.cells c1 t1)).alloc (.cells c2 t2)) t3 c3).alloc (.cells c4 t4)).below hb (by simp)
  have b4 := (Blk.new (((w.alloc (.cells c1 t1)).alloc (.cells c2 t2)).alloc (.cells c3 t3)) t4 c4).below hb (by simp)
  simp only [World.size_alloc] at b2 b3 b4
  exact ⟨b1, b2, b3, b4, (by (repeat (first | assumption | exact Below.refl _ _ | apply Below.drew | apply below_drewN | (refine Below.alloc ?_ (by first | exact Nat.le_refl _ | omega | (simp; done) | (simp; omega)) _))) : Below w.heap.size w ((((w.alloc (.cells c1 t1)).alloc (.cells c2 t2)).alloc (.cells c3 t3)).alloc (.cells c4 t4))).trans (hb.mono (by simp; omega))⟩
/-- Four cells of a block, stored. -/
def put4 (w : World) (b o : Nat) (x0 x1 x2 x3 : Value) : World := (((w.setCell ⟨b, o, none⟩ x0).setCell ⟨b, o + 1, none⟩ x1).setCell ⟨b, o + 2, none⟩ x2).setCell ⟨b, o + 3, none⟩ x3
theorem size_put4 (w : World) (b o : Nat) (x0 x1 x2 x3 : Value) : (put4 w b o x0 x1 x2 x3).heap.size = w.heap.size := by simp [put4]
theorem Blk.put4 {w : World} {b : Nat} {T : TypeId} {V : Array Value} (h : Blk w b T V) (o : Nat) (x0 x1 x2 x3 : Value) : Blk (Proofs.YtbommoefpekalaaGreat.put4 w b o x0 x1 x2 x3) b T ((((V.setIfInBounds o x0).setIfInBounds (o + 1) x1).setIfInBounds (o + 2) x2).setIfInBounds (o + 3) x3) :=
  (((h.set o x0).set (o + 1) x1).set (o + 2) x2).set (o + 3) x3
theorem Blk.put4_far {w : World} {b g : Nat} {T : TypeId} {V : Array Value} (h : Blk w g T V) (hn : g ≠ b) (o : Nat) (x0 x1 x2 x3 : Value) : Blk (Proofs.YtbommoefpekalaaGreat.put4 w b o x0 x1 x2 x3) g T V :=
  (((h.far (p := ⟨b, o, none⟩) hn x0).far (p := ⟨b, o + 1, none⟩) hn x1).far (p := ⟨b, o + 2, none⟩) hn x2).far (p := ⟨b, o + 3, none⟩) hn x3
theorem Below.put4 {B b : Nat} {a w : World} (h : Below B a w) (hb : B ≤ b) (o : Nat) (x0 x1 x2 x3 : Value) : Below B a (Proofs.YtbommoefpekalaaGreat.put4 w b o x0 x1 x2 x3) :=
  (((h.setCell (p := ⟨b, o, none⟩) hb x0).setCell (p := ⟨b, o + 1, none⟩) hb x1).setCell (p := ⟨b, o + 2, none⟩) hb x2).setCell (p := ⟨b, o + 3, none⟩) hb x3
/-- The row of conditions, while their expressions are copied. -/
structure LRow (F : Nat → Prop) (cs : List CdM) (g : Nat) (wr : World) (V : Array Value) (ds : List CdM) : Prop where
  row : CdBlk wr g V ds
  same : ds.map CdM.cd = cs.map CdM.cd
  off : ∀ x ∈ ds, NdOff F wr wr.heap.size x.A x.e
  le : ∀ x ∈ ds, x.e.length ≤ x.c ∧ x.c ≤ 9223372036854775807 ∧ NdOk x.e
theorem LRow.step {F : Nat → Prop} {cs ds : List CdM} {g k : Nat} {wr w5 : World} {V : Array Value} {x : CdM} {A5 : Option Addr} {c5 : Nat} (h : LRow F cs g wr V ds) (hF : F g) (hx : ds[k]? = some x) (hb : Below wr.heap.size wr w5) (ho : NdOff F w5 w5.heap.size A5 x.e)
    (h1 : x.e.length ≤ c5) (h2 : c5 ≤ 9223372036854775807) : LRow F cs g (w5.setCell ⟨g, k * 2 + 1, none⟩ (.slice A5 x.e.length c5)) (V.setIfInBounds (k * 2 + 1) (.slice A5 x.e.length c5)) (ds.set k ⟨x.u, A5, c5, x.e⟩) := by
  have hg := h.row.blk.lt
  have hV1 := h.row.at1 k x hx
  have hVs : k * 2 + 1 < V.size := (Array.getElem?_eq_some_iff.1 hV1).1
  have hk := (List.getElem?_eq_some_iff.1 hx).1
  have hkeep : ∀ p : Addr, p.block < w5.heap.size → ¬ F p.block → (w5.setCell ⟨g, k * 2 + 1, none⟩ (.slice A5 x.e.length c5)).cell? p = w5.cell? p := fun p _ hn => World.cell?_setCell_other w5 ⟨g, k * 2 + 1, none⟩ p _ (by rintro rfl; exact hn hF)
  refine ⟨⟨(h.row.blk.below hb hg).set _ _, fun i y hy => ?_, fun i y hy => ?_⟩, ?_, fun y hy => ?_, fun y hy => ?_⟩
  · rw [Array.getElem?_setIfInBounds, if_neg (by omega)]
    rw [List.getElem?_set] at hy
    split at hy
    · rename_i hik
      subst hik
      injection hy with hy
      subst hy
      exact h.row.at0 k x hx
    · exact h.row.at0 i y hy
  · rw [List.getElem?_set] at hy
    split at hy
    · rename_i hik
      subst hik
      injection hy with hy
      subst hy
      rw [Array.getElem?_setIfInBounds, if_pos rfl, if_pos hVs]
    · rename_i hik
      rw [Array.getElem?_setIfInBounds, if_neg (by omega)]
      exact h.row.at1 i y hy
  · rw [List.map_set, ← h.same]
    apply List.ext_getElem?
    intro i
    rw [List.getElem?_set]
    split
    · rename_i hik
      subst hik
      rw [if_pos (by rw [List.length_map]; exact hk), List.getElem?_map, hx]; rfl
    · rfl
  · rcases List.mem_or_eq_of_mem_set hy with hy | rfl
    · rw [World.size_setCell]
      exact ((h.off y hy).keep (fun p hp _ => hb.cell hp) hb.size).keep hkeep (Nat.le_refl _)
    · rw [World.size_setCell]
      exact ho.keep hkeep (Nat.le_refl _)
  · rcases List.mem_or_eq_of_mem_set hy with hy | rfl
    · exact h.le y hy
    · exact ⟨h1, h2, (h.le x (List.mem_of_getElem? hx)).2.2⟩
theorem LRow.cds {F : Nat → Prop} {cs ds : List CdM} {g : Nat} {wr : World} {V : Array Value} (h : LRow F cs g wr V ds) : CdsAt wr wr.heap.size (some ⟨g, 0, none⟩) ds := by
  refine ⟨fun _ => ⟨g, 0, rfl, h.row.blk.lt, fun i x hx j u hu => ?_⟩, fun x hx => ⟨(h.off x hx).sl, (h.le x hx).1, (h.le x hx).2.1, (h.le x hx).2.2⟩⟩
  have hj : j < 2 := (List.getElem?_eq_some_iff.1 hu).1
  rw [Nat.zero_add, h.row.blk.cell]
  match j, hj, hu with
  | 0, _, hu => injection hu with hu; subst hu; exact h.row.at0 i x hx
  | 1, _, hu => injection hu with hu; subst hu; exact h.row.at1 i x hx
/-- Stores in other blocks. -/
theorem LRow.far {F : Nat → Prop} {cs ds : List CdM} {g : Nat} {wr : World} {V : Array Value} (h : LRow F cs g wr V ds) {p : Addr} (hp : F p.block) (hg : g ≠ p.block) (u : Value) : LRow F cs g (wr.setCell p u) V ds :=
  ⟨⟨h.row.blk.far hg u, h.row.at0, h.row.at1⟩, h.same, fun x hx => by rw [World.size_setCell]; exact (h.off x hx).keep (fun q _ hn => World.cell?_setCell_other wr p q u (by rintro rfl; exact hn hp)) (Nat.le_refl _), h.le⟩
/-- The blocks in which no expression lies: the call's own. -/
def lF (w : World) (g b : Nat) : Prop := b = g ∨ b = w.heap.size ∨ b = w.heap.size + 1 + 1 + 1
/-- While they are copied: the row, and the two blocks of the call. -/
structure LInv (w : World) (cs : List CdM) (g : Nat) (bx : Array Value) (wr : World) : Prop where
  box : Blk wr w.heap.size 28 bx
  res : Blk wr (w.heap.size + 1 + 1 + 1) 28 zeroPo
  row : ∃ V ds, LRow (lF w g) cs g wr V ds
  on : Below w.heap.size w wr
  far : w.heap.size + 3 < g
theorem LInv.step {w wr w5 : World} {cs ds : List CdM} {g k : Nat} {bx V : Array Value} {x : CdM} {A5 : Option Addr} {c5 : Nat} (h : LInv w cs g bx wr) (hr : LRow (lF w g) cs g wr V ds) (hx : ds[k]? = some x) (hb : Below wr.heap.size wr w5) (ho : NdOff (lF w g) w5 w5.heap.size A5 x.e)
    (h1 : x.e.length ≤ c5) (h2 : c5 ≤ 9223372036854775807) : LInv w cs g bx (w5.setCell ⟨g, k * 2 + 1, none⟩ (.slice A5 x.e.length c5)) := by
  have hf := h.far
  exact ⟨(h.box.below hb h.box.lt).far (by show w.heap.size ≠ g; omega) _, (h.res.below hb h.res.lt).far (by show w.heap.size + 1 + 1 + 1 ≠ g; omega) _, ⟨_, _, hr.step (.inl rfl) hx hb ho h1 h2⟩, (h.on.trans (hb.mono h.on.size)).setCell (by show w.heap.size ≤ g; omega) _, hf⟩
theorem LInv.lF_lt {w wr : World} {cs : List CdM} {g : Nat} {bx : Array Value} (h : LInv w cs g bx wr) (hg : g < wr.heap.size) (b : Nat) (hb : lF w g b) : b < wr.heap.size := by
  have := h.far
  rcases hb with rfl | rfl | rfl <;> omega
end Go.Proofs.YtbommoefpekalaaGreat
