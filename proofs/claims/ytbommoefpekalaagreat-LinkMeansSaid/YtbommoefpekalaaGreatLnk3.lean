/-
  THE WALKS: link.Link.
-/
import Derived.Test.YtbommoefpekalaaGreatLnk1a
namespace Go.Proofs.YtbommoefpekalaaGreat
open Go.RowKit Go.Sort

theorem po_arr (x0 x1 x2 x3 x4 x5 x6 x7 x8 x9 x10 x11 x12 x13 x14 : Value) : (((((((((((((((zeroPo.setIfInBounds 0 x0).setIfInBounds 1 x1).setIfInBounds 2 x2).setIfInBounds 3 x3).setIfInBounds 4 x4).setIfInBounds 5 x5).setIfInBounds 6 x6).setIfInBounds 7 x7).setIfInBounds 8 x8).setIfInBounds 9 x9).setIfInBounds 10 x10).setIfInBounds 11 x11).setIfInBounds 12 x12).setIfInBounds 13 x13).setIfInBounds 14 x14) = #[x0, x1, x2, x3, x4, x5, x6, x7, x8, x9, x10, x11, x12, x13, x14] := by
  simp only [zeroPo, List.setIfInBounds_toArray, List.set_cons_zero, List.set_cons_succ]
theorem po_stored {w : World} {b : Nat} {T : TypeId} {V : Array Value} (h : Blk w b T V) (hV : V = zeroPo) (x0 x1 x2 x3 x4 x5 x6 x7 x8 x9 x10 x11 x12 x13 x14 : Value) :
    Blk (((((((((((((((w.setCell ⟨b, 0, none⟩ x0).setCell ⟨b, 1, none⟩ x1).setCell ⟨b, 2, none⟩ x2).setCell ⟨b, 3, none⟩ x3).setCell ⟨b, 4, none⟩ x4).setCell ⟨b, 5, none⟩ x5).setCell ⟨b, 6, none⟩ x6).setCell ⟨b, 7, none⟩ x7).setCell ⟨b, 8, none⟩ x8).setCell ⟨b, 9, none⟩ x9).setCell ⟨b, 10, none⟩ x10).setCell ⟨b, 11, none⟩ x11).setCell ⟨b, 12, none⟩ x12).setCell ⟨b, 13, none⟩ x13).setCell ⟨b, 14, none⟩ x14) b T #[x0, x1, x2, x3, x4, x5, x6, x7, x8, x9, x10, x11, x12, x13, x14] := by
  subst hV
  rw [← po_arr]
  exact ((((((((((((((h.set 0 x0).set 1 x1).set 2 x2).set 3 x3).set 4 x4).set 5 x5).set 6 x6).set 7 x7).set 8 x8).set 9 x9).set 10 x10).set 11 x11).set 12 x12).set 13 x13).set 14 x14
theorem po_below {B : Nat} {a w : World} (h : Below B a w) {b : Nat} (hb : B ≤ b) (x0 x1 x2 x3 x4 x5 x6 x7 x8 x9 x10 x11 x12 x13 x14 : Value) :
    Below B a (((((((((((((((w.setCell ⟨b, 0, none⟩ x0).setCell ⟨b, 1, none⟩ x1).setCell ⟨b, 2, none⟩ x2).setCell ⟨b, 3, none⟩ x3).setCell ⟨b, 4, none⟩ x4).setCell ⟨b, 5, none⟩ x5).setCell ⟨b, 6, none⟩ x6).setCell ⟨b, 7, none⟩ x7).setCell ⟨b, 8, none⟩ x8).setCell ⟨b, 9, none⟩ x9).setCell ⟨b, 10, none⟩ x10).setCell ⟨b, 11, none⟩ x11).setCell ⟨b, 12, none⟩ x12).setCell ⟨b, 13, none⟩ x13).setCell ⟨b, 14, none⟩ x14) :=
  ((((((((((((((h.setCell (p := ⟨b, 0, none⟩) hb x0).setCell (p := ⟨b, 1, none⟩) hb x1).setCell (p := ⟨b, 2, none⟩) hb x2).setCell (p := ⟨b, 3, none⟩) hb x3).setCell (p := ⟨b, 4, none⟩) hb x4).setCell (p := ⟨b, 5, none⟩) hb x5).setCell (p := ⟨b, 6, none⟩) hb x6).setCell (p := ⟨b, 7, none⟩) hb x7).setCell (p := ⟨b, 8, none⟩) hb x8).setCell (p := ⟨b, 9, none⟩) hb x9).setCell (p := ⟨b, 10, none⟩) hb x10).setCell (p := ⟨b, 11, none⟩) hb x11).setCell (p := ⟨b, 12, none⟩) hb x12).setCell (p := ⟨b, 13, none⟩) hb x13).setCell (p := ⟨b, 14, none⟩) hb x14
theorem PoBack.none {w W : World} {A : Option Addr} {k : Int} (hA : A = Option.none) (h : Below w.heap.size w W) : PoBack w (.returned (.tuple #[.agg #[.string po0.name, .bool po0.forbid, .int .i64 po0.who.op, .string po0.who.ty, .string po0.who.uid.ty, .string po0.who.uid.id, .int .i64 po0.act.op, .string po0.act.ty, .string po0.act.uid.ty, .string po0.act.uid.id, .int .i64 po0.what.op, .string po0.what.ty, .string po0.what.uid.ty, .string po0.what.uid.id, .slice A 0 0], errV k])) W po0 k := by
  subst hA
  exact ⟨Option.none, 0, [], rfl, Nat.le_refl _, by omega, rfl, ⟨SlG.nil _ _ _, by simp⟩, h⟩
/-- The blocks of the call. -/
structure LBox (w : World) (V : Array Value) (who what : Ud) (W : World) : Prop where
  box : Blk W w.heap.size 28 V
  u1 : Blk W (w.heap.size + 1) 23 #[.string who.ty, .string who.id]
  u2 : Blk W (w.heap.size + 1 + 1) 23 #[.string what.ty, .string what.id]
  res : Blk W (w.heap.size + 1 + 1 + 1) 28 zeroPo
  on : Below w.heap.size w W
theorem LBox.later {w W W' : World} {V : Array Value} {who what : Ud} (h : LBox w V who what W) (hb : Below W.heap.size W W') : LBox w V who what W' :=
  ⟨h.box.below hb h.box.lt, h.u1.below hb h.u1.lt, h.u2.below hb h.u2.lt, h.res.below hb h.res.lt, h.on.trans (hb.mono h.on.size)⟩
theorem LBox.put {w W : World} {V : Array Value} {who what : Ud} (h : LBox w V who what W) (o : Nat) (x0 x1 x2 x3 : Value) :
    LBox w ((((V.setIfInBounds o x0).setIfInBounds (o + 1) x1).setIfInBounds (o + 2) x2).setIfInBounds (o + 3) x3) who what ((((W.setCell ⟨w.heap.size, o, none⟩ x0).setCell ⟨w.heap.size, o + 1, none⟩ x1).setCell ⟨w.heap.size, o + 2, none⟩ x2).setCell ⟨w.heap.size, o + 3, none⟩ x3) :=
  ⟨h.box.put4 o x0 x1 x2 x3, h.u1.put4_far (by omega) o x0 x1 x2 x3, h.u2.put4_far (by omega) o x0 x1 x2 x3, h.res.put4_far (by omega) o x0 x1 x2 x3, Below.put4 h.on (Nat.le_refl _) o x0 x1 x2 x3⟩
theorem blk5 {w w1 : World} {V : Array Value} {who what : Ud} (hb : Below ((((w.alloc (.cells V 28)).alloc (.cells #[.string who.ty, .string who.id] 23)).alloc (.cells #[.string what.ty, .string what.id] 23)).alloc (.cells zeroPo 28)).heap.size ((((w.alloc (.cells V 28)).alloc (.cells #[.string who.ty, .string who.id] 23)).alloc (.cells #[.string what.ty, .string what.id] 23)).alloc (.cells zeroPo 28)) w1) : LBox w V who what w1 := by
  obtain ⟨B0, B1, B2, B3, hw1⟩ := four hb
  exact ⟨B0, B1, B2, B3, hw1⟩
theorem filled_at (s : Sc) (u : Ud) (W : World) (hu : UdOk u) : Calls Tryz.prog 13 #[.agg #[.int .i64 s.op, .string s.ty, .string s.uid.ty, .string s.uid.id], .agg #[.string u.ty, .string u.id]] W fun e w' => e = .returned (.tuple #[.agg #[.int .i64 (fillP s u).1.op, .string (fillP s u).1.ty, .string (fillP s u).1.uid.ty, .string (fillP s u).1.uid.id], errV (fillP s u).2]) ∧ Below W.heap.size W w' :=
  (link_filled s u W hu).mono fun e w' h => by
    obtain ⟨⟨q', k', h1, h2⟩, h3⟩ := h
    rw [h1]
    exact ⟨h2, h3⟩
theorem po_small {p : Po} {cs : List CdM} (h : polErr p = 0) (hp : p.conds = cs.map CdM.cd) : cs.length ≤ 4 ∧ ∀ x ∈ cs, x.e.length ≤ 200 := by
  unfold polErr at h
  split at h
  · rename_i hn; exact absurd h hn
  · split at h
    · cases h
    · split at h
      · cases h
      · rename_i h4
        rw [hp, List.length_map] at h4
        refine ⟨by omega, ?_⟩
        rw [hp] at h
        clear h4 hp
        induction cs with
        | nil => simp
        | cons y r ih =>
          have e : cdsErr ((y :: r).map CdM.cd) = if cdErr y.e ≠ 0 then cdErr y.e else cdsErr (r.map CdM.cd) := rfl
          rw [e] at h
          split at h
          · rename_i hn; exact absurd h hn
          · rename_i hn
            intro x hx
            rcases List.mem_cons.1 hx with rfl | hx
            · have hc : cdErr x.e = 0 := by simpa using hn
              unfold cdErr at hc
              split at hc
              · rename_i ht; exact absurd hc ht
              · rename_i ht; exact (tree_len (by simpa using ht)).1
            · exact ih h x hx
set_option maxRecDepth 100000 in
set_option maxHeartbeats 12800000 in
theorem link_bad (p : Po) (cs : List CdM) (A : Option Addr) (c : Nat) (who what : Ud) (w : World) (hp : p.conds = cs.map CdM.cd) (hz : PoZ p) (hc : CdsAt w w.heap.size A cs) (hl : cs.length ≤ 9223372036854775807) (hu1 : UdOk who) (hu2 : UdOk what) (hk : ¬ polErr p = 0) :
    Calls Tryz.prog 5 #[.agg #[.string p.name, .bool p.forbid, .int .i64 p.who.op, .string p.who.ty, .string p.who.uid.ty, .string p.who.uid.id, .int .i64 p.act.op, .string p.act.ty, .string p.act.uid.ty, .string p.act.uid.id, .int .i64 p.what.op, .string p.what.ty, .string p.what.uid.ty, .string p.what.uid.id, .slice A cs.length c], .agg #[.string who.ty, .string who.id], .agg #[.string what.ty, .string what.id]] w fun e w' => PoBack w e w' (linkP p who what).1 (linkP p who what).2 := by
  obtain ⟨q, k, hq⟩ : ∃ q k, linkP p who what = (q, k) := ⟨_, _, rfl⟩
  rw [hq]
  have HP := Lib.hid hp
  have HC := Lib.hid hc
  have HK := Lib.hid (fun (W : World) h => pol_Check p cs A c W hp hz h hl)
  have HU1 := Lib.hid (fun W => filled_at p.who who W hu1)
  have HU2 := Lib.hid (fun W => filled_at p.what what W hu2)
  obtain ⟨q1, k1, hq1⟩ : ∃ q k, fillP p.who who = (q, k) := ⟨_, _, rfl⟩
  obtain ⟨q2, k2, hq2⟩ : ∃ q k, fillP p.what what = (q, k) := ⟨_, _, rfl⟩
  rw [linkP] at hq
  rw [hq1] at HU1
  rw [hq2] at HU2
  rw [hq1, hq2] at hq
  clear hp hc hz hu1 hu2 hq1 hq2
  rw [if_pos (by simpa using hk)] at hq
  have HV := Lib.hid hq
  have tk : (polErr p != 0) = true := by simp [hk]
  clear hk hq
  go_enter Tryz.func5, Tryz.ntmps5
  go_wp2_with fail
  refine (HK.out _ (HC.out.later (by (repeat (first | assumption | exact Below.refl _ _ | apply Below.drew | apply below_drewN | (refine Below.alloc ?_ (by first | exact Nat.le_refl _ | omega | (simp; done) | (simp; omega)) _)))))).mono ?_
  rintro e w1 ⟨rfl, hb1⟩
  have b1 := blk5 hb1
  clear hb1
  have c0 := b1.box.cell
  have c1 := b1.u1.cell
  have c2 := b1.u2.cell
  have c3 := b1.res.cell
  simp only [zeroPo] at c3
  have f0 := b1.box.frozen
  have f3 := b1.res.frozen
  have l0 := b1.box.lt
  have l1 := b1.u1.lt
  have l2 := b1.u2.lt
  have l3 := b1.res.lt
  go_wp2_with fail
  have B4 := po_stored b1.res rfl (.string ⟨#[]⟩) (.bool false) (.int .i64 0) (.string ⟨#[]⟩) (.string ⟨#[]⟩) (.string ⟨#[]⟩) (.int .i64 0) (.string ⟨#[]⟩) (.string ⟨#[]⟩) (.string ⟨#[]⟩) (.int .i64 0) (.string ⟨#[]⟩) (.string ⟨#[]⟩) (.string ⟨#[]⟩) (.slice none 0 0)
  have kk := B4.cell
  refine bodyPost_ret (v := .tuple #[.agg zeroPo, errV (polErr p)]) (by simp [results, Tryz.results5, go_sem, kk, zeroPo]) rfl ?_
  have hv := HV.out
  injection hv with h1 h2
  rw [← h1, ← h2]
  exact PoBack.none rfl (po_below b1.on (by omega) _ _ _ _ _ _ _ _ _ _ _ _ _ _ _)
end Go.Proofs.YtbommoefpekalaaGreat
