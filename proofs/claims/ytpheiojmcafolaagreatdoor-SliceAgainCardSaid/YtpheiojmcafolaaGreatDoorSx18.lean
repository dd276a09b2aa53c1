/-
  THE WALK of the law AuthApart.
  THE WALKS: slice.Pick, where nothing is wrong (printed by mksld.py).
-/
import Derived.Test.YtpheiojmcafolaaGreatDoorSx16
import Derived.Test.YtpheiojmcafolaaGreatDoorSx11
import Derived.Test.YtpheiojmcafolaaGreatDoorSx17
import Derived.Maps.AppendAt
import Derived.Deep.RegionHeld3
namespace Go.Proofs.YtpheiojmcafolaaGreatDoor
set_option maxRecDepth 100000
open Go.RowKit Go.Sort
theorem pol_info : (Tryz.prog.info? 47).map (fun i => (i.zero, i.size, i.bytes)) = some (some (.agg #[.string ⟨#[]⟩, .bool false, .int .i64 0, .string ⟨#[]⟩, .string ⟨#[]⟩, .string ⟨#[]⟩, .int .i64 0, .string ⟨#[]⟩, .string ⟨#[]⟩, .string ⟨#[]⟩, .int .i64 0, .string ⟨#[]⟩, .string ⟨#[]⟩, .string ⟨#[]⟩, .slice none 0 0]), 15, 216) := by kernel_rfl
theorem cells_new_at (w : World) (l : List Value) (cs : Array Value) (t : TypeId) (h : cs.toList = l) : ∀ j u, l[j]? = some u → (w.alloc (.cells cs t)).cell? ((⟨w.heap.size, 0, none⟩ : Addr).add j) = some u := by
 intro j u hu
 rw [add_none, Nat.zero_add, World.cell?_alloc_new, ← hu, ← h, Array.getElem?_toList]
theorem filt_next {α : Type} {f : α → Bool} {ps : List α} {k : Nat} {y : α} (h : ps[k]? = some y) : (ps.take (k + 1)).filter f = (ps.take k).filter f ++ (if f y = true then [y] else []) := by
 rw [List.take_add_one, h, List.filter_append]
 congr 1
 show List.filter f [y] = _
 by_cases e : f y = true <;> simp [e]
theorem askErr_filter {x : Aq} {ps : List PoM} {f : PoM → Bool} (h : askErr x ps = 0) : askErr x (ps.filter f) = 0 := by
 obtain ⟨h1, h2, h3⟩ := firstI_zero h
 have h4 : aErr (ps.filter f) = 0 := pick_ok h2
 unfold askErr firstI
 rw [if_neg (by simp [h1]), if_neg (by simp [h4]), h3]
end Go.Proofs.YtpheiojmcafolaaGreatDoor
namespace Go.Proofs.YtpheiojmcafolaaGreatDoor
set_option maxRecDepth 100000
open Go.RowKit Go.Sort
theorem po_smallP {p : Po} {cs : List CdM} (h : polErr p = 0) (hp : p.conds = cs.map CdM.cd) : cs.length ≤ 4 ∧ ∀ x ∈ cs, x.e.length ≤ 200 := by
 unfold polErr at h
 split at h
 · rename_i hn; exact absurd h hn
 · split at h
   · cases h
   · split at h
     · cases h
     · rename_i h4
       rw [hp, List.length_map] at h4
       refine ⟨by omega, ?_⟩
       rw [hp] at h
       clear h4 hp
       induction cs with
       | nil => simp
       | cons y r ih =>
         have e : cdsErr ((y :: r).map CdM.cd) = if cdErr y.e ≠ 0 then cdErr y.e else cdsErr (r.map CdM.cd) := rfl
         rw [e] at h
         split at h
         · rename_i hn; exact absurd h hn
         · rename_i hn
           intro x hx
           rcases List.mem_cons.1 hx with rfl | hx
           · have hc : cdErr x.e = 0 := by simpa using hn
             unfold cdErr at hc
             split at hc
             · rename_i ht; exact absurd hc ht
             · rename_i ht; exact (tree_len (by simpa using ht)).1
           · exact ih h x hx
def pickB (x : Aq) (y : PoM) : Bool := scopesB x.es x.q y.p
structure PIn (x : Aq) (y : PoM) (F : Nat → Prop) (b g pb c4 : Nat) (wr wi : World) : Prop where
 row : ∃ V ds, LRow F y.cs g wi V ds
 po : Blk wi pb 47 #[.string y.p.name, .bool y.p.forbid, .int .i64 y.p.who.op, .string y.p.who.ty, .string y.p.who.uid.ty, .string y.p.who.uid.id, .int .i64 y.p.act.op, .string y.p.act.ty, .string y.p.act.uid.ty, .string y.p.act.uid.id, .int .i64 y.p.what.op, .string y.p.what.ty, .string y.p.what.uid.ty, .string y.p.what.uid.id, .slice (some ⟨g, 0, none⟩) y.cs.length c4]
 q : Blk wi b 39 (rqC x)
 below : RowKit.Below wr.heap.size wr wi
theorem PIn.get {x : Aq} {y : PoM} {F : Nat → Prop} {b g pb c4 k : Nat} {wr wi : World} (h : PIn x y F b g pb c4 wr wi) (hk : k < y.cs.length) : ∃ V ds u A c e, LRow F y.cs g wi V ds ∧ ds[k]? = some ⟨u, A, c, e⟩ ∧ (∃ z ∈ y.cs, z.e = e) := by
 obtain ⟨V, ds, hr⟩ := h.row
 have hl : ds.length = y.cs.length := by have := congrArg List.length hr.same; simpa using this
 obtain ⟨⟨u, A, c, e⟩, hx⟩ : ∃ x, ds[k]? = some x := ⟨_, List.getElem?_eq_getElem (by omega)⟩
 obtain ⟨z, hz⟩ : ∃ z, y.cs[k]? = some z := ⟨_, List.getElem?_eq_getElem hk⟩
 have h := congrArg (fun l => l[k]?) hr.same
 simp only [List.getElem?_map, hx, hz, Option.map_some, Option.some.injEq, CdM.cd, Cd.mk.injEq] at h
 exact ⟨V, ds, u, A, c, e, hr, hx, z, List.mem_of_getElem? hz, h.2.symm⟩
theorem LRow.pomf {F F' : Nat → Prop} {y : PoM} {g c4 B : Nat} {w w0 : World} {V : Array Value} {ds : List CdM} (h : LRow F y.cs g w V ds) (hy : PoMOk w0 B y) (hF : ∀ b, F' b → F b) (hg : ¬ F' g) (hl : ds.length ≤ c4) (hc : c4 ≤ 9223372036854775807) :
   PoMF F' w w.heap.size ⟨y.p, ds, some ⟨g, 0, none⟩, c4⟩ := by
 refine ⟨hy.same.trans h.same.symm, hl, hc, hy.z, ⟨fun _ => ⟨g, 0, rfl, h.row.blk.lt, hg, fun i q hq jj u hu => ?_⟩, fun q hq => (h.off q hq).mono (fun b _ hb => hF b hb), h.le⟩, fun q hq => ?_⟩
 · have hj2 : jj < 2 := (List.getElem?_eq_some_iff.1 hu).1
   rw [Nat.zero_add, h.row.blk.cell]
   match jj, hj2, hu with
   | 0, _, hu => injection hu with hu; subst hu; exact h.row.at0 i q hq
   | 1, _, hu => injection hu with hu; subst hu; exact h.row.at1 i q hq
 · have h1 : q.cd ∈ y.cs.map CdM.cd := by rw [← h.same]; exact List.mem_map_of_mem hq
   obtain ⟨q', h2, h3⟩ := List.mem_map.1 h1
   have h4 : q'.e = q.e := congrArg Cd.expr h3
   rw [← h4]; exact hy.ni q' h2
structure CeS (b i : Nat) (v : Value) (W : World) : Prop where
 c : W.cell? ⟨b, i, none⟩ = some v
set_option maxHeartbeats 51200000 in
theorem slice_Pick_ok (x : Aq) (ps : List PoM) (A : Option Addr) (c : Nat) (w : World) (hI : AqIn x w) (hP : PosIn w A ps) (hk : askErr x ps = 0) :
   Calls Tryz.prog 38 #[.slice x.Ea x.hs.length x.ec, .slice A ps.length c, .agg #[.string x.q.who.ty, .string x.q.who.id, .string x.q.act.ty, .string x.q.act.id, .string x.q.what.ty, .string x.q.what.id, .slice x.qa x.q.ctx.length x.qc]] w fun r w' => ∃ A' c' ms, r = .returned (.tuple #[.slice A' ms.length c', .nilIface]) ∧ ms.length ≤ c' ∧ c' ≤ 9223372036854775807 ∧ ms.map PoM.p = (ps.filter (pickB x)).map PoM.p ∧ PosIn w' A' ms ∧ RowKit.Below w.heap.size w w' := by
 obtain ⟨j0, hj, hy0, hy1, hy2⟩ := info_parts pol_info
 have HEC := Lib.hid (fun W (hW : RowKit.Below w.heap.size w W) => ent_Check x.hs x.es x.Ea x.ec W (hI.later hW).ents hI.ec)
 have HAC := Lib.hid (fun W (hW : RowKit.Below w.heap.size w W) => auth_Check ps A c W (hP.later hW))
 have HEA := Lib.hid (fun W (hW : RowKit.Below w.heap.size w W) => eval_Ask x.q x.qa x.qc W hI.qz.1 hI.qz.2.1 hI.qz.2.2 hI.qc.1 hI.qc.2 hI.qk (hI.later hW).ctx)
 have HPS := Lib.hid hP
 have b0 : Blk (w.alloc (.cells #[.string x.q.who.ty, .string x.q.who.id, .string x.q.act.ty, .string x.q.act.id, .string x.q.what.ty, .string x.q.what.id, .slice x.qa x.q.ctx.length x.qc] 39)) w.heap.size 39 #[.string x.q.who.ty, .string x.q.who.id, .string x.q.act.ty, .string x.q.act.id, .string x.q.what.ty, .string x.q.what.id, .slice x.qa x.q.ctx.length x.qc] := Blk.new w _ _
 have hb0 : RowKit.Below w.heap.size w (w.alloc (.cells #[.string x.q.who.ty, .string x.q.who.id, .string x.q.act.ty, .string x.q.act.id, .string x.q.what.ty, .string x.q.what.id, .slice x.qa x.q.ctx.length x.qc] 39)) := by (repeat (first | assumption | exact Below.refl _ _ | apply Below.drew | apply below_drewN | (refine Below.alloc ?_ (by first | exact Nat.le_refl _ | omega | (simp; done) | (simp; omega)) _)))
 have hS0 : RqS w.heap.size x w (w.alloc (.cells #[.string x.q.who.ty, .string x.q.who.id, .string x.q.act.ty, .string x.q.act.id, .string x.q.what.ty, .string x.q.what.id, .slice x.qa x.q.ctx.length x.qc] 39)).drew := RqS.of b0.drew hb0.drew
 have B0 := Lib.hid b0.drew
 have HB := Lib.hid hb0.drew
 have HS0 := Lib.hid hS0
 obtain ⟨hz1, hz2, hz3⟩ := firstI_zero hk
 obtain ⟨h12, hu, -⟩ := aErr_use hz2
 have HU := Lib.hid (fun y (hy : y ∈ ps) => po_smallP (hu y hy).1 (hP.each y hy).same)
 have HH := Lib.hid (fun (s : Sc) (u : Ud) (hs : UdOk s.uid) (hq : UdOk u) W (hW : RowKit.Below w.heap.size w W) => slice_holds x.hs x.es x.Ea x.ec s u W (hI.later hW).ents hI.ec hz1 hq hs)
 have HQZ := Lib.hid hI.qz
 have HFF : Hid (∀ b c W, W.cell? ⟨b, 0, none⟩ = some (errV (entErr x.es)) → W.cell? ⟨b, 1, none⟩ = some (errV (aErr ps)) → W.cell? ⟨b, 2, none⟩ = some (errV (rqErr x.q)) → Calls Tryz.prog 74 #[.slice (some ⟨b, 0, none⟩) 3 c] W fun r w' => r = .returned (errV (askErr x ps)) ∧ w' = W) := fun b c W h1 h2 h3 => slice_first _ _ _ b c W h1 h2 h3
 rw [hz1] at HEC HFF
 rw [hz2] at HAC HFF
 rw [hz3] at HEA HFF
 rw [hk] at HFF
 rw [errV_zero] at HEC HAC HEA HFF
 obtain ⟨f, hf⟩ : ∃ f, f = pickB x := ⟨_, rfl⟩
 rw [← hf]
 have HF : Hid (∀ y, f y = (fitsB x.es y.p.who x.q.who && fitsB x.es y.p.act x.q.act && fitsB x.es y.p.what x.q.what)) := fun y => by rw [hf]; rfl
 clear hI hP hk b0 hb0 hS0 hu hz1 hz2 hz3 hf
 go_enter Tryz.func38, Tryz.ntmps38
 go_wp2_with fail
 refine wp_region_ord (S := RqS w.heap.size x w) [(0, false), (2, false), (4, false), (1, true), (3, true), (5, true), (6, true), (7, true), (8, false)] (by kernel_rfl) (by kernel_rfl) (fun _ _ _ _ _ h => h) HS0.out (fun hW' => ?_)
 generalize hwd : (w.alloc (.cells #[.string x.q.who.ty, .string x.q.who.id, .string x.q.act.ty, .string x.q.act.id, .string x.q.what.ty, .string x.q.what.id, .slice x.qa x.q.ctx.length x.qc] 39)).drew = wd at B0 HB HS0 hW' ⊢
 clear hwd hW' HS0
 simp only [ordOps, List.filterMap_cons, List.filterMap_nil, List.getElem?_cons_zero, List.getElem?_cons_succ, Option.map_some]
 (repeat (first | (refine hd_take (v := ?_) (by rfl) ?_ ?_; rotate_left; (focus (intro W hW; obtain ⟨s0, s1, s2, s3, s4, s5, s6, s7⟩ := hW; go_simp; try with_reducible rfl)); simp only [Act.put, List.setIfInBounds_toArray, List.set_cons_zero, List.set_cons_succ]) | (refine hd_skip (by rfl) ?_; simp only [Act.put, List.setIfInBounds_toArray, List.set_cons_zero, List.set_cons_succ])))
 refine hd_call (fun K hK => ?_)
 go_simp
 refine (HEC.out wd HB.out).mono ?_
 rintro r w2 ⟨rfl, hb2⟩
 have C0 := Lib.hid (B0.out.below hb2 B0.out.lt)
 have HB2 := Lib.hid (HB.out.trans (hb2.mono HB.out.size))
 refine hK _ _ (RqS.of C0.out HB2.out) ?_
 clear hK K hb2 B0 HB
 refine hd_call (fun K hK => ?_)
 go_simp
 refine (HAC.out w2 HB2.out).mono ?_
 rintro r w3 ⟨rfl, hb3⟩
 have D0 := Lib.hid (C0.out.below hb3 C0.out.lt)
 have HB3 := Lib.hid (HB2.out.trans (hb3.mono HB2.out.size))
 refine hK _ _ (RqS.of D0.out HB3.out) ?_
 clear hK K hb3 C0 HB2
 refine hd_call (fun K hK => ?_)
 go_simp
 refine (HEA.out w3 HB3.out).mono ?_
 rintro r w4 ⟨rfl, hb4⟩
 have E0 := Lib.hid (D0.out.below hb4 D0.out.lt)
 have HB4 := Lib.hid (HB3.out.trans (hb4.mono HB3.out.size))
 refine hK _ _ (RqS.of E0.out HB4.out) ?_
 clear hK K hb4 D0 HB3
 refine hd_call (fun K hK => ?_)
 go_simp
 have F0 := Lib.hid (E0.out.alloc (.cells #[.nilIface, .nilIface, .nilIface] 27))
 have HB5 := Lib.hid (HB4.out.alloc HB4.out.size (.cells #[.nilIface, .nilIface, .nilIface] 27))
 have HFI := Lib.hid (HFF.out w4.heap.size 3 (w4.alloc (.cells #[.nilIface, .nilIface, .nilIface] 27)) (by rw [World.cell?_alloc_new]; rfl) (by rw [World.cell?_alloc_new]; rfl) (by rw [World.cell?_alloc_new]; rfl))
 refine hK _ _ (RqS.of F0.out HB5.out) ?_
 clear hK K E0 HB4
 refine hd_call (fun K hK => ?_)
 go_simp
 generalize hw5 : w4.alloc (.cells #[.nilIface, .nilIface, .nilIface] 27) = w5 at F0 HB5 HFI ⊢
 clear hw5
 refine HFI.out.mono ?_
 rintro r w6 ⟨rfl, rfl⟩
 obtain ⟨w5, rfl⟩ : ∃ w5 : World, w5 = w6 := ⟨_, rfl⟩
 refine hK _ _ (RqS.of F0.out HB5.out) ?_
 clear hK K HFI
 (repeat (first | (refine hd_take (v := ?_) (by rfl) ?_ ?_; rotate_left; (focus (intro W hW; obtain ⟨s0, s1, s2, s3, s4, s5, s6, s7⟩ := hW; go_simp; try with_reducible rfl)); simp only [Act.put, List.setIfInBounds_toArray, List.set_cons_zero, List.set_cons_succ]) | (refine hd_skip (by rfl) ?_; simp only [Act.put, List.setIfInBounds_toArray, List.set_cons_zero, List.set_cons_succ])))
 refine hd_nil ?_
 clear HEC HAC HEA HFF
 go_wp2_with fail
 go_loopw [9, 26] (fun ov kk wr => ∃ (k : Nat) (ms : List PoM), kk = .int .i64 k ∧ k ≤ ps.length ∧ Hid (ms.map PoM.p = ((ps.take k).filter f).map PoM.p) ∧ Hid (PkRow w5 ms ov wr)) (fun _ kk _ => ps.length - (intOf kk).toNat)
 case atStart => exact ⟨0, [], rfl, by omega, rfl, PkRow.nil w5⟩
 case round =>
   obtain ⟨k, ms, rfl, hk, HMS, HRW⟩ := hrel
   have hmk : ms.length ≤ k := by
     have := congrArg List.length HMS.out
     rw [List.length_map, List.length_map] at this
     rw [this]; exact Nat.le_trans (List.length_filter_le _ _) (List.length_take_le _ _)
   obtain ⟨-, Ao, co, hsv, hco, hcom, -⟩ := own_formG pom_ok HRW.out.own
   have hbr := HRW.out.below
   have hzr := hbr.size
   have hwr : RowKit.Below w.heap.size w wr := HB5.out.trans (hbr.mono HB5.out.size)
   by_cases hlt : k < ps.length
   case neg =>
     have HE : Hid (ps.take k = ps) := by show _ = _; rw [List.take_of_length_le (by omega)]
     rw [HE.out] at HMS
     have HWR := Lib.hid hwr
     subst hsv
     clear hbr hwr
     go_wp2_with fail
     refine bodyPost_ret (v := .tuple #[.slice Ao ms.length co, .nilIface]) (by simp [results, Tryz.results38, go_sem]) rfl ⟨Ao, co, ms, rfl, hco, hcom, HMS.out, HRW.out.pos, HWR.out⟩
   obtain ⟨y, hy⟩ : ∃ y, ps[k]? = some y := ⟨_, List.getElem?_eq_getElem hlt⟩
   have hym := List.mem_of_getElem? hy
   obtain ⟨b, o, hA, hb, d0, d1, d2, d3, d4, d5, d6, d7, d8, d9, d10, d11, d12, d13, d14⟩ := poSl_cells (HPS.out.later hwr).sl hy
   subst hA
   subst hsv
   have HYM := Lib.hid ((HPS.out.later hwr).each y hym)
   have HYW := Lib.hid ((HPS.out).each y hym)
   have HFS := Lib.hid (filt_next (f := f) hy)
   have HFy : Hid (f y = (fitsB x.es y.p.who x.q.who && fitsB x.es y.p.act x.q.act && fitsB x.es y.p.what x.q.what)) := HF.out y
   obtain ⟨hn4, hn200⟩ := HU.out y hym
   have HN2 := Lib.hid hn200
   have H1 := Lib.hid (HH.out y.p.who x.q.who HYM.out.z.2.1.2 HQZ.out.1)
   have H2 := Lib.hid (HH.out y.p.act x.q.act HYM.out.z.2.2.1.2 HQZ.out.2.1)
   have H3 := Lib.hid (HH.out y.p.what x.q.what HYM.out.z.2.2.2.2 HQZ.out.2.2)
   generalize fitsB x.es y.p.who x.q.who = F1 at H1 HFy
   generalize fitsB x.es y.p.act x.q.act = F2 at H2 HFy
   generalize fitsB x.es y.p.what x.q.what = F3 at H3 HFy
   have hal : RowKit.Below wr.heap.size wr (wr.alloc (.cells #[.string y.p.name, .bool y.p.forbid, .int .i64 y.p.who.op, .string y.p.who.ty, .string y.p.who.uid.ty, .string y.p.who.uid.id, .int .i64 y.p.act.op, .string y.p.act.ty, .string y.p.act.uid.ty, .string y.p.act.uid.id, .int .i64 y.p.what.op, .string y.p.what.ty, .string y.p.what.uid.ty, .string y.p.what.uid.id, .slice y.A y.cs.length y.c] 47)) := by (repeat (first | assumption | exact Below.refl _ _ | apply Below.drew | apply below_drewN | (refine Below.alloc ?_ (by first | exact Nat.le_refl _ | omega | (simp; done) | (simp; omega)) _)))
   have FA := (F0.out.below hbr F0.out.lt).alloc (.cells #[.string y.p.name, .bool y.p.forbid, .int .i64 y.p.who.op, .string y.p.who.ty, .string y.p.who.uid.ty, .string y.p.who.uid.id, .int .i64 y.p.act.op, .string y.p.act.ty, .string y.p.act.uid.ty, .string y.p.act.uid.id, .int .i64 y.p.what.op, .string y.p.what.ty, .string y.p.what.uid.ty, .string y.p.what.uid.id, .slice y.A y.cs.length y.c] 47)
   have BP := Lib.hid (Blk.new wr 47 #[.string y.p.name, .bool y.p.forbid, .int .i64 y.p.who.op, .string y.p.who.ty, .string y.p.who.uid.ty, .string y.p.who.uid.id, .int .i64 y.p.act.op, .string y.p.act.ty, .string y.p.act.uid.ty, .string y.p.act.uid.id, .int .i64 y.p.what.op, .string y.p.what.ty, .string y.p.what.uid.ty, .string y.p.what.uid.id, .slice y.A y.cs.length y.c])
   have FQ := Lib.hid FA
   have HAL := Lib.hid hal
   have HBA := Lib.hid (hwr.trans (hal.mono hwr.size))
   have HWR := Lib.hid hwr
   have fc := FA.cell
   have fl := FA.lt
   have pc := BP.out.cell
   have pl := BP.out.lt
   have i1 : (0 : Int) ≤ (k : Int) := by omega
   have i2 : (k : Int) < (ps.length : Int) := by omega
   clear hal FA hy hym hwr hn200 HH HQZ hbr
   go_wp2_with fail
   generalize hwa : wr.alloc (.cells #[.string y.p.name, .bool y.p.forbid, .int .i64 y.p.who.op, .string y.p.who.ty, .string y.p.who.uid.ty, .string y.p.who.uid.id, .int .i64 y.p.act.op, .string y.p.act.ty, .string y.p.act.uid.ty, .string y.p.act.uid.id, .int .i64 y.p.what.op, .string y.p.what.ty, .string y.p.what.uid.ty, .string y.p.what.uid.id, .slice y.A y.cs.length y.c] 47) = wa at FQ BP HAL HBA fc fl pc pl ⊢
   clear hwa d0 d1 d2 d3 d4 d5 d6 d7 d8 d9 d10 d11 d12 d13 d14
   refine (H1.out wa HBA.out).mono ?_
   rintro r w6 ⟨rfl, hb6⟩
   have BP6 := Lib.hid (BP.out.below hb6 BP.out.lt)
   have FQ6 := Lib.hid (FQ.out.below hb6 FQ.out.lt)
   have HL6 := Lib.hid (HAL.out.trans (hb6.mono HAL.out.size))
   have HB6 := Lib.hid (HBA.out.trans (hb6.mono HBA.out.size))
   clear hb6 fc fl pc pl BP FQ HAL HBA H1
   have fc := FQ6.out.cell
   have fl := FQ6.out.lt
   have pc := BP6.out.cell
   have pl := BP6.out.lt
   cases F1 with
   | false =>
     have HZ : Hid ((ps.take (k + 1)).filter f = (ps.take k).filter f) := by show _ = _; rw [HFS.out, if_neg (by rw [HFy.out]; simp), List.append_nil]
     have HRL := Lib.hid (HRW.out.later HL6.out)
     clear HFS HFy
     go_wp2_with fail
     exact ⟨⟨k + 1, ms, by go_num, by omega, by show _ = _; rw [HZ.out]; exact HMS.out, HRL⟩, by simp [intOf]; omega⟩
   | true =>
   go_wp2_with fail
   refine (H2.out w6 HB6.out).mono ?_
   rintro r w7 ⟨rfl, hb7⟩
   have BP7 := Lib.hid (BP6.out.below hb7 BP6.out.lt)
   have FQ7 := Lib.hid (FQ6.out.below hb7 FQ6.out.lt)
   have HL7 := Lib.hid (HL6.out.trans (hb7.mono HL6.out.size))
   have HB7 := Lib.hid (HB6.out.trans (hb7.mono HB6.out.size))
   clear hb7 fc fl pc pl BP6 FQ6 HL6 HB6 H2
   have fc := FQ7.out.cell
   have fl := FQ7.out.lt
   have pc := BP7.out.cell
   have pl := BP7.out.lt
   cases F2 with
   | false =>
     have HZ : Hid ((ps.take (k + 1)).filter f = (ps.take k).filter f) := by show _ = _; rw [HFS.out, if_neg (by rw [HFy.out]; simp), List.append_nil]
     have HRL := Lib.hid (HRW.out.later HL7.out)
     clear HFS HFy
     go_wp2_with fail
     exact ⟨⟨k + 1, ms, by go_num, by omega, by show _ = _; rw [HZ.out]; exact HMS.out, HRL⟩, by simp [intOf]; omega⟩
   | true =>
   go_wp2_with fail
   refine (H3.out w7 HB7.out).mono ?_
   rintro r w8 ⟨rfl, hb8⟩
   have BP8 := Lib.hid (BP7.out.below hb8 BP7.out.lt)
   have FQ8 := Lib.hid (FQ7.out.below hb8 FQ7.out.lt)
   have HL8 := Lib.hid (HL7.out.trans (hb8.mono HL7.out.size))
   have HB8 := Lib.hid (HB7.out.trans (hb8.mono HB7.out.size))
   clear hb8 fc fl pc pl BP7 FQ7 HL7 HB7 H3
   have fc := FQ8.out.cell
   have fl := FQ8.out.lt
   have pc := BP8.out.cell
   have pl := BP8.out.lt
   cases F3 with
   | false =>
     have HZ : Hid ((ps.take (k + 1)).filter f = (ps.take k).filter f) := by show _ = _; rw [HFS.out, if_neg (by rw [HFy.out]; simp), List.append_nil]
     have HRL := Lib.hid (HRW.out.later HL8.out)
     clear HFS HFy
     go_wp2_with fail
     exact ⟨⟨k + 1, ms, by go_num, by omega, by show _ = _; rw [HZ.out]; exact HMS.out, HRL⟩, by simp [intOf]; omega⟩
   | true =>
   go_wp2_with fail
   have HFT : Hid ((ps.take (k + 1)).filter f = (ps.take k).filter f ++ [y]) := by show _ = _; rw [HFS.out, if_pos (by rw [HFy.out]; rfl)]
   obtain ⟨HFS, -⟩ : ∃ _ : Hid ((ps.take (k + 1)).filter f = (ps.take k).filter f ++ [y]), True := ⟨HFT, trivial⟩
   refine (clone_conds y.cs y.A y.c w8 (HYW.out.at_.later HB8.out).sl hn4).mono ?_
   rintro r w9 ⟨A4, c4, rfl, hc4, hm4, hrow, hb9⟩
   have BP9 := BP8.out.below hb9 BP8.out.lt
   have FQ9 := Lib.hid (FQ8.out.below hb9 FQ8.out.lt)
   have HL9 := Lib.hid (HL8.out.trans (hb9.mono HL8.out.size))
   have BP9' := Lib.hid BP9
   have z8 : wr.heap.size < w8.heap.size := BP8.out.lt
   have c9 := BP9.cell
   have f9 := BP9.frozen
   have l9 := BP9.lt
   have HC4 := Lib.hid hc4
   have HM4 := Lib.hid hm4
   rcases hrow with hz | ⟨g, V, rfl, hgw, hcb⟩
   · have hz0 : y.cs.length = 0 := by rw [hz]; rfl
     have HZ := Lib.hid hz
     rw [hz0]
     have HBS : Hid (Blk (w9.setCell ⟨wr.heap.size, 14, none⟩ (.slice A4 0 c4)) wr.heap.size 47 #[.string y.p.name, .bool y.p.forbid, .int .i64 y.p.who.op, .string y.p.who.ty, .string y.p.who.uid.ty, .string y.p.who.uid.id, .int .i64 y.p.act.op, .string y.p.act.ty, .string y.p.act.uid.ty, .string y.p.act.uid.id, .int .i64 y.p.what.op, .string y.p.what.ty, .string y.p.what.uid.ty, .string y.p.what.uid.id, .slice A4 0 c4]) := Lib.hid (by have := BP9'.out.set 14 (.slice A4 0 c4); exact this)
     have HLS := Lib.hid (HL9.out.setCell (p := ⟨wr.heap.size, 14, none⟩) (Nat.le_refl _) (.slice A4 0 c4))
     clear hz hb9
     go_wp2_with fail
     generalize hwi : w9.setCell ⟨wr.heap.size, 14, none⟩ (.slice A4 0 c4) = wi at HBS HLS ⊢
     clear hwi c9 f9 l9
     have HAP := Lib.hid ((HRW.out.later HLS.out).later (show RowKit.Below wi.heap.size wi (wi.alloc (.cells #[.string y.p.name, .bool y.p.forbid, .int .i64 y.p.who.op, .string y.p.who.ty, .string y.p.who.uid.ty, .string y.p.who.uid.id, .int .i64 y.p.act.op, .string y.p.act.ty, .string y.p.act.uid.ty, .string y.p.act.uid.id, .int .i64 y.p.what.op, .string y.p.what.ty, .string y.p.what.uid.ty, .string y.p.what.uid.id, .slice A4 0 c4] 47)) by (repeat (first | assumption | exact Below.refl _ _ | apply Below.drew | apply below_drewN | (refine Below.alloc ?_ (by first | exact Nat.le_refl _ | omega | (simp; done) | (simp; omega)) _)))))
     have HZF : Hid (PoMF (OwnB (.slice Ao ms.length co)) (wi.alloc (.cells #[.string y.p.name, .bool y.p.forbid, .int .i64 y.p.who.op, .string y.p.who.ty, .string y.p.who.uid.ty, .string y.p.who.uid.id, .int .i64 y.p.act.op, .string y.p.act.ty, .string y.p.act.uid.ty, .string y.p.act.uid.id, .int .i64 y.p.what.op, .string y.p.what.ty, .string y.p.what.uid.ty, .string y.p.what.uid.id, .slice A4 0 c4] 47)) (wi.alloc (.cells #[.string y.p.name, .bool y.p.forbid, .int .i64 y.p.who.op, .string y.p.who.ty, .string y.p.who.uid.ty, .string y.p.who.uid.id, .int .i64 y.p.act.op, .string y.p.act.ty, .string y.p.act.uid.ty, .string y.p.act.uid.id, .int .i64 y.p.what.op, .string y.p.what.ty, .string y.p.what.uid.ty, .string y.p.what.uid.id, .slice A4 0 c4] 47)).heap.size (⟨y.p, [], A4, c4⟩ : PoM)) := Lib.hid ((show PoMF (OwnB (.slice Ao ms.length co)) wi wi.heap.size ⟨y.p, [], A4, c4⟩ from ⟨by rw [HYW.out.same, HZ.out], by simp, HM4.out, HYW.out.z, ⟨fun h => absurd rfl h, by simp, by simp⟩, by simp⟩).keep (fun p hp _ => (show RowKit.Below wi.heap.size wi (wi.alloc (.cells #[.string y.p.name, .bool y.p.forbid, .int .i64 y.p.who.op, .string y.p.who.ty, .string y.p.who.uid.ty, .string y.p.who.uid.id, .int .i64 y.p.act.op, .string y.p.act.ty, .string y.p.act.uid.ty, .string y.p.act.uid.id, .int .i64 y.p.what.op, .string y.p.what.ty, .string y.p.what.uid.ty, .string y.p.what.uid.id, .slice A4 0 c4] 47)) by (repeat (first | assumption | exact Below.refl _ _ | apply Below.drew | apply below_drewN | (refine Below.alloc ?_ (by first | exact Nat.le_refl _ | omega | (simp; done) | (simp; omega)) _)))).cell hp) (by simp))
     have fb := HBS.out
     have cb := fb.cell
     have lb := fb.lt
     clear fb
     refine wp_loop_rounds 1 ?_
     rw [rounds_succ]
     go_wp2_with (at_builtin; refine wpList_append_own_at _ rfl (.tmp 78) (.tmp 80) 67 rfl w5.heap.size 47 j0 _ 15 216 Tryz.underlying67 hj hy0 hy1 hy2 rfl (by omega) _ ms.length (flatG PoM.cells ms) rfl HAP.out.own ⟨wi.heap.size, 0, none⟩ 1 1 (PoM.cells (⟨y.p, [], A4, c4⟩ : PoM)) rfl rfl (cells_new_at _ _ _ _ rfl) (pom_ok.one (⟨y.p, [], A4, c4⟩ : PoM)) (by unfold maxLen; omega) (by omega) HAP.out.below.size ?_; intro v6 w6 hown6 hgrow6 _ hloc6; have HN := Lib.hid (HAP.out.more HZF.out hown6 hgrow6 hloc6); clear hown6 hgrow6 hloc6)
     exact ⟨⟨k + 1, ms ++ [(⟨y.p, [], A4, c4⟩ : PoM)], by go_num, by omega, by show _ = _; rw [HFS.out, List.map_append, HMS.out, List.map_append]; rfl, HN⟩, by simp [intOf]; omega⟩
   · have hgp : g ≠ wr.heap.size := by omega
     have hgq : wr.heap.size ≤ g := by omega
     have hq5 : w.heap.size < w5.heap.size := F0.out.lt
     have hqw : w.heap.size < wr.heap.size := by omega
     obtain ⟨F, hF⟩ : ∃ F : Nat → Prop, F = fun b => b = g ∨ b = wr.heap.size ∨ OwnB (.slice Ao ms.length co) b := ⟨_, rfl⟩
     have HFI := Lib.hid hF
     have hFb : ∀ b, F b → w.heap.size ≤ b ∧ b < w9.heap.size := fun b h => by
       have hz9 := hb9.size
       have hgl := hcb.blk.lt
       rw [hF] at h
       rcases h with rfl | rfl | h
       · omega
       · omega
       · have := own_lt HRW.out.own h; omega
     have HBS : Hid (Blk (w9.setCell ⟨wr.heap.size, 14, none⟩ (.slice (some ⟨g, 0, none⟩) y.cs.length c4)) wr.heap.size 47 #[.string y.p.name, .bool y.p.forbid, .int .i64 y.p.who.op, .string y.p.who.ty, .string y.p.who.uid.ty, .string y.p.who.uid.id, .int .i64 y.p.act.op, .string y.p.act.ty, .string y.p.act.uid.ty, .string y.p.act.uid.id, .int .i64 y.p.what.op, .string y.p.what.ty, .string y.p.what.uid.ty, .string y.p.what.uid.id, .slice (some ⟨g, 0, none⟩) y.cs.length c4]) := Lib.hid (by have := BP9'.out.set 14 (.slice (some ⟨g, 0, none⟩) y.cs.length c4); exact this)
     have HLS := Lib.hid (HL9.out.setCell (p := ⟨wr.heap.size, 14, none⟩) (Nat.le_refl _) (.slice (some ⟨g, 0, none⟩) y.cs.length c4))
     have hbw : RowKit.Below w.heap.size w (w9.setCell ⟨wr.heap.size, 14, none⟩ (.slice (some ⟨g, 0, none⟩) y.cs.length c4)) := (HB8.out.trans (hb9.mono HB8.out.size)).setCell (p := ⟨wr.heap.size, 14, none⟩) (by show w.heap.size ≤ wr.heap.size; omega) _
     have HI0 : Hid (PIn x y F w.heap.size g wr.heap.size c4 wr (w9.setCell ⟨wr.heap.size, 14, none⟩ (.slice (some ⟨g, 0, none⟩) y.cs.length c4))) := Lib.hid ⟨⟨V, y.cs, ⟨⟨hcb.blk.far (p := ⟨wr.heap.size, 14, none⟩) hgp _, hcb.at0, hcb.at1⟩, rfl, fun q hq => ((HYW.out.at_.good q hq).sl.below hbw).off (fun b h => (hFb b h).1) hbw.size, fun q hq => ⟨(HYW.out.at_.good q hq).le, (HYW.out.at_.good q hq).max, (HYW.out.at_.good q hq).ok⟩⟩⟩, HBS.out, FQ9.out.far (p := ⟨wr.heap.size, 14, none⟩) (by show w.heap.size ≠ wr.heap.size; omega) _, HLS.out⟩
     have HFB : Hid (∀ b, F b → b < w9.heap.size) := fun b h => (hFb b h).2
     have HNO : Hid (∀ b, OwnB (.slice Ao ms.length co) b → b < wr.heap.size) := fun b h => (own_lt HRW.out.own h).2
     have hz9 : w9.heap.size ≤ (w9.setCell ⟨wr.heap.size, 14, none⟩ (.slice (some ⟨g, 0, none⟩) y.cs.length c4)).heap.size := by simp
     clear hcb hb9 hF hFb hbw HBS HLS
     go_wp2_with fail
     generalize hwi : w9.setCell ⟨wr.heap.size, 14, none⟩ (.slice (some ⟨g, 0, none⟩) y.cs.length c4) = wi0 at HI0 hz9 ⊢
     clear hwi c9 f9 l9
     obtain ⟨wo, rfl⟩ : ∃ wo : World, wo = wr := ⟨_, rfl⟩
     go_loopw [62] (fun ii wi => ∃ j : Nat, ii = .int .i64 j ∧ j ≤ y.cs.length ∧ w9.heap.size ≤ wi.heap.size ∧ Hid (PIn x y F w.heap.size g wo.heap.size c4 wo wi)) (fun ii _ => y.cs.length - (intOf ii).toNat)
     case atStart => exact ⟨0, rfl, by omega, hz9, HI0.out⟩
     case round =>
       clear HI0 hz9
       obtain ⟨j, rfl, hj', hzi, HI⟩ := hrel
       by_cases hjl : j < y.cs.length
       · have HID : Hid (PIn x y F w.heap.size g wo.heap.size c4 wo wr.drew) := Lib.hid ⟨by obtain ⟨V', ds', h'⟩ := HI.out.row; exact ⟨V', ds', ⟨h'.row.blk.drew, h'.row.at0, h'.row.at1⟩, h'.same, fun q hq => (h'.off q hq).keep (fun _ _ _ => rfl) (Nat.le_refl _), h'.le⟩, HI.out.po.drew, HI.out.q.drew, HI.out.below.drew⟩
         obtain ⟨V2, ds, u, Ax, cx, e, hr, hx, z, hzc, rfl⟩ := HID.out.get hjl
         have HS : Hid (CeS wo.heap.size 14 (.slice (some ⟨g, 0, none⟩) y.cs.length c4) wr.drew) := Lib.hid ⟨HID.out.po.cell 14⟩
         have ec : wr.drew.cell? ⟨g, j * 2 + 1, none⟩ = some (.slice Ax z.e.length cx) := (hr.row.blk.cell (j * 2 + 1)).trans (hr.row.at1 j _ hx)
         have el : g < wr.drew.heap.size := hr.row.blk.lt
         have HK1 := Lib.hid (clone_nodes z.e Ax cx wr.drew (hr.off _ (List.mem_of_getElem? hx)).sl (HN2.out z hzc))
         have HST := Lib.hid (fun w10 (A5 : Option Addr) c5 hb ho h1 h2 => LRow.step (w5 := w10) (A5 := A5) (c5 := c5) hr (by rw [HFI.out]; exact .inl rfl) hx hb ho h1 h2)
         have hFd : ∀ b, F b → b < wr.drew.heap.size := fun b h => Nat.lt_of_lt_of_le (HFB.out b h) hzi
         have HFD := Lib.hid hFd
         have ef := hr.row.blk.frozen (j * 2 + 1)
         have HEF := Lib.hid ef
         have i3 : (0 : Int) ≤ (j : Int) := by omega
         have i4 : (j : Int) < (y.cs.length : Int) := by omega
         have hzd : w9.heap.size ≤ wr.drew.heap.size := hzi
         clear hr hx hFd ef HI
         go_wp2_with fail
         refine wp_region_ord (S := CeS wo.heap.size 14 (.slice (some ⟨g, 0, none⟩) y.cs.length c4)) [(0, false), (1, false), (2, false), (3, false), (4, false), (5, false), (6, false), (7, false), (8, true), (9, true), (10, false), (11, false), (12, true)] (by kernel_rfl) (by kernel_rfl) (fun _ _ _ _ _ h => h) HS.out (fun hW' => ?_)
         clear hW' HS
         generalize hwd : wr.drew = wd at HID HK1 HST HFD HEF ec el hzd ⊢
         clear hwd
         simp only [ordOps, List.filterMap_cons, List.filterMap_nil, List.getElem?_cons_zero, List.getElem?_cons_succ, Option.map_some]
         (repeat (first | (refine hd_take (v := ?_) (by rfl) ?_ ?_; rotate_left; (focus (intro W hW; obtain ⟨s0⟩ := hW; go_simp; try with_reducible rfl)); simp only [Act.put, List.setIfInBounds_toArray, List.set_cons_zero, List.set_cons_succ]) | (refine hd_skip (by rfl) ?_; simp only [Act.put, List.setIfInBounds_toArray, List.set_cons_zero, List.set_cons_succ])))
         refine hd_call (fun K hK => ?_)
         go_simp
         refine hK _ _ ⟨HID.out.po.cell 14⟩ ?_
         clear hK K
         refine hd_call (fun K hK => ?_)
         go_simp
         refine HK1.out.mono ?_
         rintro r w10 ⟨A5, c5, rfl, hc5, hm5, hof, hb10⟩
         have P10 := Lib.hid (HID.out.po.below hb10 HID.out.po.lt)
         have Q10 := Lib.hid (HID.out.q.below hb10 HID.out.q.lt)
         have L10 := Lib.hid (HID.out.below.trans (hb10.mono HID.out.below.size))
         have ec10 := (hb10.cell (p := ⟨g, j * 2 + 1, none⟩) el).trans ec
         have ef10 := (hb10.frozen (p := ⟨g, j * 2 + 1, none⟩) el).trans HEF.out
         have hzt := hb10.size
         have el10 : g < w10.heap.size := by omega
         have HN := Lib.hid (HST.out w10 A5 c5 hb10 (hof _ HFD.out) hc5 hm5)
         refine hK _ _ ⟨P10.out.cell 14⟩ ?_
         clear hK K hof hb10 ec el HST HK1 HFD HEF hc5 HID
         (repeat (first | (refine hd_take (v := ?_) (by rfl) ?_ ?_; rotate_left; (focus (intro W hW; obtain ⟨s0⟩ := hW; go_simp; try with_reducible rfl)); simp only [Act.put, List.setIfInBounds_toArray, List.set_cons_zero, List.set_cons_succ]) | (refine hd_skip (by rfl) ?_; simp only [Act.put, List.setIfInBounds_toArray, List.set_cons_zero, List.set_cons_succ])))
         refine hd_call (fun K hK => ?_)
         go_simp
         have HPN : Hid (PIn x y F w.heap.size g wo.heap.size c4 wo (w10.setCell ⟨g, j * 2 + 1, none⟩ (.slice A5 z.e.length c5))) := Lib.hid ⟨⟨_, _, HN.out⟩, P10.out.far (p := ⟨g, j * 2 + 1, none⟩) (by show wo.heap.size ≠ g; omega) _, Q10.out.far (p := ⟨g, j * 2 + 1, none⟩) (by show w.heap.size ≠ g; omega) _, L10.out.setCell (p := ⟨g, j * 2 + 1, none⟩) hgq _⟩
         refine hK _ _ ⟨HPN.out.po.cell 14⟩ ?_
         clear hK K P10 Q10 L10 HN ec10 ef10
         refine hd_nil ?_
         go_wp2_with fail
         exact ⟨⟨j + 1, by go_num, by omega, by simp; omega, HPN⟩, by simp [intOf]; omega⟩
       · obtain ⟨V2, ds, hr⟩ := HI.out.row
         have hln : ds.length = y.cs.length := by have := congrArg List.length hr.same; simpa using this
         have HRR := Lib.hid hr
         have HPB : Hid (Blk wr wo.heap.size 47 #[.string y.p.name, .bool y.p.forbid, .int .i64 y.p.who.op, .string y.p.who.ty, .string y.p.who.uid.ty, .string y.p.who.uid.id, .int .i64 y.p.act.op, .string y.p.act.ty, .string y.p.act.uid.ty, .string y.p.act.uid.id, .int .i64 y.p.what.op, .string y.p.what.ty, .string y.p.what.uid.ty, .string y.p.what.uid.id, .slice (some ⟨g, 0, none⟩) ds.length c4]) := by show Blk _ _ _ _; rw [hln]; exact HI.out.po
         have HLN := Lib.hid hln
         clear hr hln
         have HAP := Lib.hid ((HRW.out.later HI.out.below).later (show RowKit.Below wr.heap.size wr (wr.alloc (.cells #[.string y.p.name, .bool y.p.forbid, .int .i64 y.p.who.op, .string y.p.who.ty, .string y.p.who.uid.ty, .string y.p.who.uid.id, .int .i64 y.p.act.op, .string y.p.act.ty, .string y.p.act.uid.ty, .string y.p.act.uid.id, .int .i64 y.p.what.op, .string y.p.what.ty, .string y.p.what.uid.ty, .string y.p.what.uid.id, .slice (some ⟨g, 0, none⟩) ds.length c4] 47)) by (repeat (first | assumption | exact Below.refl _ _ | apply Below.drew | apply below_drewN | (refine Below.alloc ?_ (by first | exact Nat.le_refl _ | omega | (simp; done) | (simp; omega)) _)))))
         have HZF : Hid (PoMF (OwnB (.slice Ao ms.length co)) (wr.alloc (.cells #[.string y.p.name, .bool y.p.forbid, .int .i64 y.p.who.op, .string y.p.who.ty, .string y.p.who.uid.ty, .string y.p.who.uid.id, .int .i64 y.p.act.op, .string y.p.act.ty, .string y.p.act.uid.ty, .string y.p.act.uid.id, .int .i64 y.p.what.op, .string y.p.what.ty, .string y.p.what.uid.ty, .string y.p.what.uid.id, .slice (some ⟨g, 0, none⟩) ds.length c4] 47)) (wr.alloc (.cells #[.string y.p.name, .bool y.p.forbid, .int .i64 y.p.who.op, .string y.p.who.ty, .string y.p.who.uid.ty, .string y.p.who.uid.id, .int .i64 y.p.act.op, .string y.p.act.ty, .string y.p.act.uid.ty, .string y.p.act.uid.id, .int .i64 y.p.what.op, .string y.p.what.ty, .string y.p.what.uid.ty, .string y.p.what.uid.id, .slice (some ⟨g, 0, none⟩) ds.length c4] 47)).heap.size (⟨y.p, ds, some ⟨g, 0, none⟩, c4⟩ : PoM)) := Lib.hid ((HRR.out.pomf HYW.out (F' := OwnB (.slice Ao ms.length co)) (fun b h => by rw [HFI.out]; exact .inr (.inr h)) (fun h => by have := HNO.out g h; omega) (by rw [HLN.out]; exact HC4.out) HM4.out).keep (fun p hp _ => (show RowKit.Below wr.heap.size wr (wr.alloc (.cells #[.string y.p.name, .bool y.p.forbid, .int .i64 y.p.who.op, .string y.p.who.ty, .string y.p.who.uid.ty, .string y.p.who.uid.id, .int .i64 y.p.act.op, .string y.p.act.ty, .string y.p.act.uid.ty, .string y.p.act.uid.id, .int .i64 y.p.what.op, .string y.p.what.ty, .string y.p.what.uid.ty, .string y.p.what.uid.id, .slice (some ⟨g, 0, none⟩) ds.length c4] 47)) by (repeat (first | assumption | exact Below.refl _ _ | apply Below.drew | apply below_drewN | (refine Below.alloc ?_ (by first | exact Nat.le_refl _ | omega | (simp; done) | (simp; omega)) _)))).cell hp) (by simp))
         have fb := HPB.out
         have cb := fb.cell
         have lb := fb.lt
         clear fb
         go_wp2_with (at_builtin; refine wpList_append_own_at _ rfl (.tmp 78) (.tmp 80) 67 rfl w5.heap.size 47 j0 _ 15 216 Tryz.underlying67 hj hy0 hy1 hy2 rfl (by omega) _ ms.length (flatG PoM.cells ms) rfl HAP.out.own ⟨wr.heap.size, 0, none⟩ 1 1 (PoM.cells (⟨y.p, ds, some ⟨g, 0, none⟩, c4⟩ : PoM)) rfl rfl (cells_new_at _ _ _ _ rfl) (pom_ok.one (⟨y.p, ds, some ⟨g, 0, none⟩, c4⟩ : PoM)) (by unfold maxLen; omega) (by omega) HAP.out.below.size ?_; intro v6 w6 hown6 hgrow6 _ hloc6; have HN := Lib.hid (HAP.out.more HZF.out hown6 hgrow6 hloc6); clear hown6 hgrow6 hloc6)
         exact ⟨⟨k + 1, ms ++ [(⟨y.p, ds, some ⟨g, 0, none⟩, c4⟩ : PoM)], by go_num, by omega, by show _ = _; rw [HFS.out, List.map_append, HMS.out, List.map_append]; rfl, HN⟩, by simp [intOf]; omega⟩
end Go.Proofs.YtpheiojmcafolaaGreatDoor
