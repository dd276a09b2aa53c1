/-
  THE WALKS: auth.Ask.
-/
import Derived.Test.YtpheiojmcafolaaGreatDoorSx14
namespace Go.Proofs.YtpheiojmcafolaaGreatDoor
set_option maxRecDepth 100000
open Go.RowKit Go.Sort
set_option maxHeartbeats 12800000 in
theorem auth_Ask_bad (x : Aq) (ps : List PoM) (A : Option Addr) (c : Nat) (w : World) (hI : AqIn x w) (hP : PosIn w A ps) (hk : ¬ askErr x ps = 0) :
   Calls Tryz.prog 34 #[.slice x.Ea x.hs.length x.ec, .slice A ps.length c, .agg #[.string x.q.who.ty, .string x.q.who.id, .string x.q.act.ty, .string x.q.act.id, .string x.q.what.ty, .string x.q.what.id, .slice x.qa x.q.ctx.length x.qc]] w fun r w' => AnsBack w r w' false [] [] (askErr x ps) := by
 have HEC := Lib.hid (fun W (hW : RowKit.Below w.heap.size w W) => ent_Check x.hs x.es x.Ea x.ec W (hI.later hW).ents hI.ec)
 have HAC := Lib.hid (fun W (hW : RowKit.Below w.heap.size w W) => auth_Check ps A c W (hP.later hW))
 have HEA := Lib.hid (fun W (hW : RowKit.Below w.heap.size w W) => eval_Ask x.q x.qa x.qc W hI.qz.1 hI.qz.2.1 hI.qz.2.2 hI.qc.1 hI.qc.2 hI.qk (hI.later hW).ctx)
 have HI := Lib.hid hI
 have HPS := Lib.hid hP
 have b0 : Blk ((w.alloc (.cells #[.string x.q.who.ty, .string x.q.who.id, .string x.q.act.ty, .string x.q.act.id, .string x.q.what.ty, .string x.q.what.id, .slice x.qa x.q.ctx.length x.qc] 39)).alloc (.cells #[.bool false, .slice none 0 0, .slice none 0 0] 70)) w.heap.size 39 #[.string x.q.who.ty, .string x.q.who.id, .string x.q.act.ty, .string x.q.act.id, .string x.q.what.ty, .string x.q.what.id, .slice x.qa x.q.ctx.length x.qc] := (Blk.new w _ _).alloc _
 have b1 : Blk ((w.alloc (.cells #[.string x.q.who.ty, .string x.q.who.id, .string x.q.act.ty, .string x.q.act.id, .string x.q.what.ty, .string x.q.what.id, .slice x.qa x.q.ctx.length x.qc] 39)).alloc (.cells #[.bool false, .slice none 0 0, .slice none 0 0] 70)) (w.heap.size + 1) 70 #[.bool false, .slice none 0 0, .slice none 0 0] := by
   have := Blk.new (w.alloc (.cells #[.string x.q.who.ty, .string x.q.who.id, .string x.q.act.ty, .string x.q.act.id, .string x.q.what.ty, .string x.q.what.id, .slice x.qa x.q.ctx.length x.qc] 39)) 70 #[.bool false, .slice none 0 0, .slice none 0 0]
   rwa [World.size_alloc] at this
 have hb0 : RowKit.Below w.heap.size w ((w.alloc (.cells #[.string x.q.who.ty, .string x.q.who.id, .string x.q.act.ty, .string x.q.act.id, .string x.q.what.ty, .string x.q.what.id, .slice x.qa x.q.ctx.length x.qc] 39)).alloc (.cells #[.bool false, .slice none 0 0, .slice none 0 0] 70)) := by (repeat (first | assumption | exact Below.refl _ _ | apply Below.drew | apply below_drewN | (refine Below.alloc ?_ (by first | exact Nat.le_refl _ | omega | (simp; done) | (simp; omega)) _)))
 have hS0 : RqS w.heap.size x w ((w.alloc (.cells #[.string x.q.who.ty, .string x.q.who.id, .string x.q.act.ty, .string x.q.act.id, .string x.q.what.ty, .string x.q.what.id, .slice x.qa x.q.ctx.length x.qc] 39)).alloc (.cells #[.bool false, .slice none 0 0, .slice none 0 0] 70)).drew := RqS.of b0.drew hb0.drew
 have B0 := Lib.hid b0.drew
 have B1 := Lib.hid b1.drew
 have HB := Lib.hid hb0.drew
 have HS0 := Lib.hid hS0
 have tk : (askErr x ps != 0) = true := by simpa using hk
 have he1 : errV (askErr x ps) = .iface 96 (.int .i64 (askErr x ps)) := by unfold errV; rw [if_neg hk]
 have HE1 := Lib.hid he1
 have HFF : Hid (∀ b c W, W.cell? ⟨b, 0, none⟩ = some (errV (entErr x.es)) → W.cell? ⟨b, 1, none⟩ = some (errV (aErr ps)) → W.cell? ⟨b, 2, none⟩ = some (errV (rqErr x.q)) → Calls Tryz.prog 71 #[.slice (some ⟨b, 0, none⟩) 3 c] W fun r w' => r = .returned (errV (askErr x ps)) ∧ w' = W) := fun b c W h1 h2 h3 => auth_first _ _ _ b c W h1 h2 h3
 unfold AnsBack
 clear hI hP hk b0 b1 hb0 hS0 he1
 generalize askErr x ps = k at tk HE1 HFF ⊢
 generalize entErr x.es = k1 at HEC HFF
 generalize aErr ps = k2 at HAC HFF
 generalize rqErr x.q = k3 at HEA HFF
 rcases errV_shape k1 with e1 | e1 <;> rcases errV_shape k2 with e2 | e2 <;> rcases errV_shape k3 with e3 | e3
 all_goals
   rw [e1] at HEC HFF
   rw [e2] at HAC HFF
   rw [e3] at HEA HFF
   clear e1 e2 e3
   go_enter Tryz.func34, Tryz.ntmps34
   go_wp2_with fail
   refine wp_region_ord (S := RqS w.heap.size x w) [(0, false), (2, false), (4, false), (1, true), (3, true), (5, true), (6, true), (7, true), (8, false)] (by kernel_rfl) (by kernel_rfl) (fun _ _ _ _ _ h => h) HS0.out (fun hW' => ?_)
   generalize hwd : ((w.alloc (.cells #[.string x.q.who.ty, .string x.q.who.id, .string x.q.act.ty, .string x.q.act.id, .string x.q.what.ty, .string x.q.what.id, .slice x.qa x.q.ctx.length x.qc] 39)).alloc (.cells #[.bool false, .slice none 0 0, .slice none 0 0] 70)).drew = wd at B0 B1 HB HS0 hW' ⊢
   clear hwd hW' HS0
   simp only [ordOps, List.filterMap_cons, List.filterMap_nil, List.getElem?_cons_zero, List.getElem?_cons_succ, Option.map_some]
   (repeat (first | (refine hd_take (v := ?_) (by rfl) ?_ ?_; rotate_left; (focus (intro W hW; obtain ⟨s0, s1, s2, s3, s4, s5, s6, s7⟩ := hW; go_simp; try with_reducible rfl)); simp only [Act.put, List.setIfInBounds_toArray, List.set_cons_zero, List.set_cons_succ]) | (refine hd_skip (by rfl) ?_; simp only [Act.put, List.setIfInBounds_toArray, List.set_cons_zero, List.set_cons_succ])))
   refine hd_call (fun K hK => ?_)
   go_simp
   refine (HEC.out wd HB.out).mono ?_
   rintro r w2 ⟨rfl, hb2⟩
   have C0 := Lib.hid (B0.out.below hb2 B0.out.lt)
   have C1 := Lib.hid (B1.out.below hb2 B1.out.lt)
   have HB2 := Lib.hid (HB.out.trans (hb2.mono HB.out.size))
   refine hK _ _ (RqS.of C0.out HB2.out) ?_
   clear hK K hb2 B0 B1 HB
   refine hd_call (fun K hK => ?_)
   go_simp
   refine (HAC.out w2 HB2.out).mono ?_
   rintro r w3 ⟨rfl, hb3⟩
   have D0 := Lib.hid (C0.out.below hb3 C0.out.lt)
   have D1 := Lib.hid (C1.out.below hb3 C1.out.lt)
   have HB3 := Lib.hid (HB2.out.trans (hb3.mono HB2.out.size))
   refine hK _ _ (RqS.of D0.out HB3.out) ?_
   clear hK K hb3 C0 C1 HB2
   refine hd_call (fun K hK => ?_)
   go_simp
   refine (HEA.out w3 HB3.out).mono ?_
   rintro r w4 ⟨rfl, hb4⟩
   have E0 := Lib.hid (D0.out.below hb4 D0.out.lt)
   have E1 := Lib.hid (D1.out.below hb4 D1.out.lt)
   have HB4 := Lib.hid (HB3.out.trans (hb4.mono HB3.out.size))
   refine hK _ _ (RqS.of E0.out HB4.out) ?_
   clear hK K hb4 D0 D1 HB3
   refine hd_call (fun K hK => ?_)
   go_simp
   refine hK _ _ (RqS.of (E0.out.alloc _) (HB4.out.alloc HB4.out.size _)) ?_
   clear hK K
   refine hd_call (fun K hK => ?_)
   go_simp
   generalize hw5 : w4.alloc _ = w5
   have F0 : Hid (Blk w5 w.heap.size 39 #[.string x.q.who.ty, .string x.q.who.id, .string x.q.act.ty, .string x.q.act.id, .string x.q.what.ty, .string x.q.what.id, .slice x.qa x.q.ctx.length x.qc]) := by show Blk _ _ _ _; rw [← hw5]; exact E0.out.alloc _
   have F1 : Hid (Blk w5 (w.heap.size + 1) 70 #[.bool false, .slice none 0 0, .slice none 0 0]) := by show Blk _ _ _ _; rw [← hw5]; exact E1.out.alloc _
   have HB5 : Hid (RowKit.Below w.heap.size w w5) := by show RowKit.Below _ _ _; rw [← hw5]; exact HB4.out.alloc HB4.out.size _
   have HFI : Hid (Calls Tryz.prog 71 #[.slice (some ⟨w4.heap.size, 0, none⟩) 3 3] w5 fun r w' => r = .returned (errV k) ∧ w' = w5) := by
     show Calls _ _ _ _ _
     rw [← hw5]
     exact HFF.out w4.heap.size 3 _ (by rw [World.cell?_alloc_new]; rfl) (by rw [World.cell?_alloc_new]; rfl) (by rw [World.cell?_alloc_new]; rfl)
   clear hw5 E0 E1 HB4
   refine HFI.out.mono ?_
   rintro r w6 ⟨rfl, rfl⟩
   obtain ⟨w5, rfl⟩ : ∃ w5 : World, w5 = w6 := ⟨_, rfl⟩
   refine hK _ _ (RqS.of F0.out HB5.out) ?_
   clear hK K HFI
   (repeat (first | (refine hd_take (v := ?_) (by rfl) ?_ ?_; rotate_left; (focus (intro W hW; obtain ⟨s0, s1, s2, s3, s4, s5, s6, s7⟩ := hW; go_simp; try with_reducible rfl)); simp only [Act.put, List.setIfInBounds_toArray, List.set_cons_zero, List.set_cons_succ]) | (refine hd_skip (by rfl) ?_; simp only [Act.put, List.setIfInBounds_toArray, List.set_cons_zero, List.set_cons_succ])))
   refine hd_nil ?_
   rw [HE1.out]
   have cc := F1.out.cell
   have cf := F1.out.frozen
   have cl := F1.out.lt
   go_wp2_with fail
   refine bodyPost_ret (v := .tuple #[.agg #[.bool false, .slice none 0 0, .slice none 0 0], .iface 96 (.int .i64 k)]) (by simp [results, Tryz.results34, go_sem, cc]) rfl ⟨none, 0, none, 0, by rw [HE1.out], by omega, by omega, by omega, by omega, StrSl.nil _ _ _, StrSl.nil _ _ _, ?_⟩
   exact ((HB5.out.setCell (by simp) _).setCell (by simp) _).setCell (by simp) _
set_option maxHeartbeats 12800000 in
theorem auth_Ask_ok (x : Aq) (ps : List PoM) (A : Option Addr) (c : Nat) (w : World) (hI : AqIn x w) (hP : PosIn w A ps) (hk : askErr x ps = 0) :
   Calls Tryz.prog 34 #[.slice x.Ea x.hs.length x.ec, .slice A ps.length c, .agg #[.string x.q.who.ty, .string x.q.who.id, .string x.q.act.ty, .string x.q.act.id, .string x.q.what.ty, .string x.q.what.id, .slice x.qa x.q.ctx.length x.qc]] w fun r w' => AnsBack w r w' (allowP nmQ fbQ (vtQ x.es x.q) ps) (byP nmQ fbQ (vtQ x.es x.q) ps) (wrongs nmQ (vtQ x.es x.q) ps) 0 := by
 have HEC := Lib.hid (fun W (hW : RowKit.Below w.heap.size w W) => ent_Check x.hs x.es x.Ea x.ec W (hI.later hW).ents hI.ec)
 have HAC := Lib.hid (fun W (hW : RowKit.Below w.heap.size w W) => auth_Check ps A c W (hP.later hW))
 have HEA := Lib.hid (fun W (hW : RowKit.Below w.heap.size w W) => eval_Ask x.q x.qa x.qc W hI.qz.1 hI.qz.2.1 hI.qz.2.2 hI.qc.1 hI.qc.2 hI.qk (hI.later hW).ctx)
 have HI := Lib.hid hI
 have HPS := Lib.hid hP
 have b0 : Blk ((w.alloc (.cells #[.string x.q.who.ty, .string x.q.who.id, .string x.q.act.ty, .string x.q.act.id, .string x.q.what.ty, .string x.q.what.id, .slice x.qa x.q.ctx.length x.qc] 39)).alloc (.cells #[.bool false, .slice none 0 0, .slice none 0 0] 70)) w.heap.size 39 #[.string x.q.who.ty, .string x.q.who.id, .string x.q.act.ty, .string x.q.act.id, .string x.q.what.ty, .string x.q.what.id, .slice x.qa x.q.ctx.length x.qc] := (Blk.new w _ _).alloc _
 have b1 : Blk ((w.alloc (.cells #[.string x.q.who.ty, .string x.q.who.id, .string x.q.act.ty, .string x.q.act.id, .string x.q.what.ty, .string x.q.what.id, .slice x.qa x.q.ctx.length x.qc] 39)).alloc (.cells #[.bool false, .slice none 0 0, .slice none 0 0] 70)) (w.heap.size + 1) 70 #[.bool false, .slice none 0 0, .slice none 0 0] := by
   have := Blk.new (w.alloc (.cells #[.string x.q.who.ty, .string x.q.who.id, .string x.q.act.ty, .string x.q.act.id, .string x.q.what.ty, .string x.q.what.id, .slice x.qa x.q.ctx.length x.qc] 39)) 70 #[.bool false, .slice none 0 0, .slice none 0 0]
   rwa [World.size_alloc] at this
 have hb0 : RowKit.Below w.heap.size w ((w.alloc (.cells #[.string x.q.who.ty, .string x.q.who.id, .string x.q.act.ty, .string x.q.act.id, .string x.q.what.ty, .string x.q.what.id, .slice x.qa x.q.ctx.length x.qc] 39)).alloc (.cells #[.bool false, .slice none 0 0, .slice none 0 0] 70)) := by (repeat (first | assumption | exact Below.refl _ _ | apply Below.drew | apply below_drewN | (refine Below.alloc ?_ (by first | exact Nat.le_refl _ | omega | (simp; done) | (simp; omega)) _)))
 have hS0 : RqS w.heap.size x w ((w.alloc (.cells #[.string x.q.who.ty, .string x.q.who.id, .string x.q.act.ty, .string x.q.act.id, .string x.q.what.ty, .string x.q.what.id, .slice x.qa x.q.ctx.length x.qc] 39)).alloc (.cells #[.bool false, .slice none 0 0, .slice none 0 0] 70)).drew := RqS.of b0.drew hb0.drew
 have B0 := Lib.hid b0.drew
 have B1 := Lib.hid b1.drew
 have HB := Lib.hid hb0.drew
 have HS0 := Lib.hid hS0
 obtain ⟨hz1, hz2, hz3⟩ := firstI_zero hk
 obtain ⟨h12, hu, -⟩ := aErr_use hz2
 have HU := Lib.hid hu
 have HV := Lib.hid (fun W (hW : RowKit.Below w.heap.size w W) y (hy : y ∈ ps) => auth_vote x y W (hI.later hW) ((hP.later hW).each y hy) (hu y hy).2.1)
 have HK := Lib.hid hk
 obtain ⟨i0, hi, hi0, hi1, hi2⟩ := info_parts string_info
 have HFF : Hid (∀ b c W, W.cell? ⟨b, 0, none⟩ = some (errV (entErr x.es)) → W.cell? ⟨b, 1, none⟩ = some (errV (aErr ps)) → W.cell? ⟨b, 2, none⟩ = some (errV (rqErr x.q)) → Calls Tryz.prog 71 #[.slice (some ⟨b, 0, none⟩) 3 c] W fun r w' => r = .returned (errV (askErr x ps)) ∧ w' = W) := fun b c W h1 h2 h3 => auth_first _ _ _ b c W h1 h2 h3
 rw [hz1] at HEC HFF
 rw [hz2] at HAC HFF
 rw [hz3] at HEA HFF
 rw [hk] at HFF
 rw [errV_zero] at HEC HAC HEA HFF
 obtain ⟨vt, hvt⟩ : ∃ vt, vt = vtQ x.es x.q := ⟨_, rfl⟩
 have HVT := Lib.hid hvt
 rw [← hvt]
 clear hvt
 obtain ⟨OB, hOB⟩ : ∃ q, allowP nmQ fbQ vt ps = q := ⟨_, rfl⟩
 obtain ⟨BY, hBY⟩ : ∃ q, byP nmQ fbQ vt ps = q := ⟨_, rfl⟩
 obtain ⟨WR, hWR⟩ : ∃ q, wrongs nmQ vt ps = q := ⟨_, rfl⟩
 rw [hOB, hBY, hWR]
 have HOB := Lib.hid hOB
 have HBY := Lib.hid hBY
 have HWR := Lib.hid hWR
 clear hOB hBY hWR
 unfold AnsBack
 clear hI hP hk b0 b1 hb0 hS0 hu hz1 hz2 hz3
 go_enter Tryz.func34, Tryz.ntmps34
 go_wp2_with fail
 refine wp_region_ord (S := RqS w.heap.size x w) [(0, false), (2, false), (4, false), (1, true), (3, true), (5, true), (6, true), (7, true), (8, false)] (by kernel_rfl) (by kernel_rfl) (fun _ _ _ _ _ h => h) HS0.out (fun hW' => ?_)
 generalize hwd : ((w.alloc (.cells #[.string x.q.who.ty, .string x.q.who.id, .string x.q.act.ty, .string x.q.act.id, .string x.q.what.ty, .string x.q.what.id, .slice x.qa x.q.ctx.length x.qc] 39)).alloc (.cells #[.bool false, .slice none 0 0, .slice none 0 0] 70)).drew = wd at B0 B1 HB HS0 hW' ⊢
 clear hwd hW' HS0
 simp only [ordOps, List.filterMap_cons, List.filterMap_nil, List.getElem?_cons_zero, List.getElem?_cons_succ, Option.map_some]
 (repeat (first | (refine hd_take (v := ?_) (by rfl) ?_ ?_; rotate_left; (focus (intro W hW; obtain ⟨s0, s1, s2, s3, s4, s5, s6, s7⟩ := hW; go_simp; try with_reducible rfl)); simp only [Act.put, List.setIfInBounds_toArray, List.set_cons_zero, List.set_cons_succ]) | (refine hd_skip (by rfl) ?_; simp only [Act.put, List.setIfInBounds_toArray, List.set_cons_zero, List.set_cons_succ])))
 refine hd_call (fun K hK => ?_)
 go_simp
 refine (HEC.out wd HB.out).mono ?_
 rintro r w2 ⟨rfl, hb2⟩
 have C0 := Lib.hid (B0.out.below hb2 B0.out.lt)
 have C1 := Lib.hid (B1.out.below hb2 B1.out.lt)
 have HB2 := Lib.hid (HB.out.trans (hb2.mono HB.out.size))
 refine hK _ _ (RqS.of C0.out HB2.out) ?_
 clear hK K hb2 B0 B1 HB
 refine hd_call (fun K hK => ?_)
 go_simp
 refine (HAC.out w2 HB2.out).mono ?_
 rintro r w3 ⟨rfl, hb3⟩
 have D0 := Lib.hid (C0.out.below hb3 C0.out.lt)
 have D1 := Lib.hid (C1.out.below hb3 C1.out.lt)
 have HB3 := Lib.hid (HB2.out.trans (hb3.mono HB2.out.size))
 refine hK _ _ (RqS.of D0.out HB3.out) ?_
 clear hK K hb3 C0 C1 HB2
 refine hd_call (fun K hK => ?_)
 go_simp
 refine (HEA.out w3 HB3.out).mono ?_
 rintro r w4 ⟨rfl, hb4⟩
 have E0 := Lib.hid (D0.out.below hb4 D0.out.lt)
 have E1 := Lib.hid (D1.out.below hb4 D1.out.lt)
 have HB4 := Lib.hid (HB3.out.trans (hb4.mono HB3.out.size))
 refine hK _ _ (RqS.of E0.out HB4.out) ?_
 clear hK K hb4 D0 D1 HB3
 refine hd_call (fun K hK => ?_)
 go_simp
 have F0 := Lib.hid (E0.out.alloc (.cells #[.nilIface, .nilIface, .nilIface] 27))
 have F1 := Lib.hid (E1.out.alloc (.cells #[.nilIface, .nilIface, .nilIface] 27))
 have HB5 := Lib.hid (HB4.out.alloc HB4.out.size (.cells #[.nilIface, .nilIface, .nilIface] 27))
 have HFI := Lib.hid (HFF.out w4.heap.size 3 (w4.alloc (.cells #[.nilIface, .nilIface, .nilIface] 27)) (by rw [World.cell?_alloc_new]; rfl) (by rw [World.cell?_alloc_new]; rfl) (by rw [World.cell?_alloc_new]; rfl))
 refine hK _ _ (RqS.of F0.out HB5.out) ?_
 clear hK K E0 E1 HB4
 refine hd_call (fun K hK => ?_)
 go_simp
 generalize hw5 : w4.alloc (.cells #[.nilIface, .nilIface, .nilIface] 27) = w5 at F0 F1 HB5 HFI ⊢
 clear hw5
 refine HFI.out.mono ?_
 rintro r w6 ⟨rfl, rfl⟩
 obtain ⟨w5, rfl⟩ : ∃ w5 : World, w5 = w6 := ⟨_, rfl⟩
 refine hK _ _ (RqS.of F0.out HB5.out) ?_
 clear hK K HFI
 (repeat (first | (refine hd_take (v := ?_) (by rfl) ?_ ?_; rotate_left; (focus (intro W hW; obtain ⟨s0, s1, s2, s3, s4, s5, s6, s7⟩ := hW; go_simp; try with_reducible rfl)); simp only [Act.put, List.setIfInBounds_toArray, List.set_cons_zero, List.set_cons_succ]) | (refine hd_skip (by rfl) ?_; simp only [Act.put, List.setIfInBounds_toArray, List.set_cons_zero, List.set_cons_succ])))
 refine hd_nil ?_
 clear HEC HAC HEA HFF
 have HR0 : Hid (Rows3 (w5.alloc (.cells #[.bool false, .slice none 0 0, .slice none 0 0] 70)) w5.heap.size (.slice none 0 0) (.slice none 0 0) (.slice none 0 0) [] [] []) := Rows3.mk (World.ownsRow_nil _ _ _ _) (World.ownsRow_nil _ _ _ _) (World.ownsRow_nil _ _ _ _) (fun b hb => by cases hb) (fun b hb => by cases hb) (fun b hb => by cases hb) (Blk.new _ _ _)
 have HBL : Hid (RowKit.Below w5.heap.size w5 (w5.alloc (.cells #[.bool false, .slice none 0 0, .slice none 0 0] 70))) := by show RowKit.Below _ _ _; (repeat (first | assumption | exact Below.refl _ _ | apply Below.drew | apply below_drewN | (refine Below.alloc ?_ (by first | exact Nat.le_refl _ | omega | (simp; done) | (simp; omega)) _)))
 go_wp2_with fail
 go_loopw [10, 11, 30] (fun pv fv kk wr => ∃ (k : Nat) (wv : Value), kk = .int .i64 k ∧ k ≤ ps.length ∧ Hid (Rows3 wr w5.heap.size pv fv wv (permits nmQ fbQ vt (ps.take k)) (forbids nmQ fbQ vt (ps.take k)) (wrongs nmQ vt (ps.take k))) ∧ RowKit.Below w5.heap.size w5 wr) (fun _ _ kk _ => ps.length - (intOf kk).toNat)
 case atStart => exact ⟨0, _, rfl, by omega, HR0.out, HBL.out⟩
 case round =>
   obtain ⟨k, wv, rfl, hk, HR, hbr⟩ := hrel
   have hzr := hbr.size
   have hwr : RowKit.Below w.heap.size w wr := HB5.out.trans (hbr.mono HB5.out.size)
   obtain ⟨Ap, cp, hpv, hcp⟩ := own_sl HR.out.p
   subst hpv
   obtain ⟨Af, cf, hfv, hcf⟩ := own_sl HR.out.f
   subst hfv
   obtain ⟨Aw, cw, hwv, hcw⟩ := own_sl HR.out.ww
   subst hwv
   by_cases hlt : k < ps.length
   · obtain ⟨y, hy⟩ : ∃ y, ps[k]? = some y := ⟨_, List.getElem?_eq_getElem hlt⟩
     obtain ⟨b, o, hA, hb, d0, d1, d2, d3, d4, d5, d6, d7, d8, d9, d10, d11, d12, d13, d14⟩ := poSl_cells (HPS.out.later hwr).sl hy
     subst hA
     have HVY := Lib.hid (fun W hW => HV.out W hW y (List.mem_of_getElem? hy))
     have hv3 := vtQ_cases x.es x.q y
     rw [← HVT.out] at HVY hv3
     have HP1 : Hid (permits nmQ fbQ vt (ps.take (k + 1)) = permits nmQ fbQ vt (ps.take k) ++ (if (vt y == 1 && !fbQ y) = true then [nmQ y] else [])) := filt_step hy
     have HF1 : Hid (forbids nmQ fbQ vt (ps.take (k + 1)) = forbids nmQ fbQ vt (ps.take k) ++ (if (vt y == 1 && fbQ y) = true then [nmQ y] else [])) := filt_step hy
     have HQ1 : Hid (wrongs nmQ vt (ps.take (k + 1)) = wrongs nmQ vt (ps.take k) ++ (if (vt y == -1) = true then [nmQ y] else [])) := filt_step hy
     have n1 : (permits nmQ fbQ vt (ps.take k)).length ≤ k := filt_len
     have n2 : (forbids nmQ fbQ vt (ps.take k)).length ≤ k := filt_len
     have n3 : (wrongs nmQ vt (ps.take k)).length ≤ k := filt_len
     have HEN : Hid (Value.string y.p.name = encStr (nmQ y)) := (encStr_of _).symm
     have FA := (F0.out.below hbr F0.out.lt).alloc (.cells #[.string y.p.name, .bool y.p.forbid, .int .i64 y.p.who.op, .string y.p.who.ty, .string y.p.who.uid.ty, .string y.p.who.uid.id, .int .i64 y.p.act.op, .string y.p.act.ty, .string y.p.act.uid.ty, .string y.p.act.uid.id, .int .i64 y.p.what.op, .string y.p.what.ty, .string y.p.what.uid.ty, .string y.p.what.uid.id, .slice y.A y.cs.length y.c] 47)
     have BP := Lib.hid (Blk.new wr 47 #[.string y.p.name, .bool y.p.forbid, .int .i64 y.p.who.op, .string y.p.who.ty, .string y.p.who.uid.ty, .string y.p.who.uid.id, .int .i64 y.p.act.op, .string y.p.act.ty, .string y.p.act.uid.ty, .string y.p.act.uid.id, .int .i64 y.p.what.op, .string y.p.what.ty, .string y.p.what.uid.ty, .string y.p.what.uid.id, .slice y.A y.cs.length y.c])
     have hal : RowKit.Below wr.heap.size wr (wr.alloc (.cells #[.string y.p.name, .bool y.p.forbid, .int .i64 y.p.who.op, .string y.p.who.ty, .string y.p.who.uid.ty, .string y.p.who.uid.id, .int .i64 y.p.act.op, .string y.p.act.ty, .string y.p.act.uid.ty, .string y.p.act.uid.id, .int .i64 y.p.what.op, .string y.p.what.ty, .string y.p.what.uid.ty, .string y.p.what.uid.id, .slice y.A y.cs.length y.c] 47)) := by (repeat (first | assumption | exact Below.refl _ _ | apply Below.drew | apply below_drewN | (refine Below.alloc ?_ (by first | exact Nat.le_refl _ | omega | (simp; done) | (simp; omega)) _)))
     have HAL := Lib.hid hal
     have HRA := Lib.hid (HR.out.later hal)
     have HBA := Lib.hid (hwr.trans (hal.mono hwr.size))
     have fc := FA.cell
     have fl := FA.lt
     generalize vt y = v at HVY hv3 HP1 HF1 HQ1
     obtain ⟨S1, hS1⟩ : ∃ S1, permits nmQ fbQ vt (ps.take k) = S1 := ⟨_, rfl⟩
     obtain ⟨S2, hS2⟩ : ∃ S2, forbids nmQ fbQ vt (ps.take k) = S2 := ⟨_, rfl⟩
     obtain ⟨S3, hS3⟩ : ∃ S3, wrongs nmQ vt (ps.take k) = S3 := ⟨_, rfl⟩
     rw [hS1] at HP1 HRA n1 ⊢
     rw [hS2] at HF1 HRA n2 ⊢
     rw [hS3] at HQ1 HRA n3
     clear hS1 hS2 hS3 hy HR FA hal
     go_wp2_with fail
     refine (HVY.out _ HBA.out).mono ?_
     rintro r w2 ⟨rfl, hb2⟩
     have HR2 := Lib.hid (HRA.out.later hb2)
     have BP2 := Lib.hid (BP.out.below hb2 BP.out.lt)
     have HB2 : Hid (RowKit.Below w5.heap.size w5 w2) := (hbr.trans (HAL.out.mono hzr)).trans (hb2.mono (hbr.trans (HAL.out.mono hzr)).size)
     have hab : w5.heap.size < w2.heap.size := HR2.out.a.lt
     have HX2 : Hid (RowKit.Below w2.heap.size w2 (w2.alloc (.cells #[.string y.p.name] 9))) := by show RowKit.Below _ _ _; (repeat (first | assumption | exact Below.refl _ _ | apply Below.drew | apply below_drewN | (refine Below.alloc ?_ (by first | exact Nat.le_refl _ | omega | (simp; done) | (simp; omega)) _)))
     have HRX := Lib.hid (HR2.out.later HX2.out)
     have ac := HR2.out.a.cell
     have pc := BP2.out.cell
     have pl := BP2.out.lt
     clear hb2 HRA BP HBA HAL fc fl HVY
     rcases hv3 with rfl | rfl | rfl
     · cases hfb : y.p.forbid with
       | true =>
         rw [hfb] at pc
         have hq : fbQ y = true := hfb
         have HP2 : Hid (permits nmQ fbQ vt (ps.take (k + 1)) = S1) := by show _ = _; rw [HP1.out, hq]; simp
         have HF2 : Hid (forbids nmQ fbQ vt (ps.take (k + 1)) = S2 ++ [nmQ y]) := by show _ = _; rw [HF1.out, hq]; simp
         have HW2 : Hid (wrongs nmQ vt (ps.take (k + 1)) = S3) := by show _ = _; rw [HQ1.out]; simp
         clear HP1 HF1 HQ1 hfb hq
         go_wp2_with (at_builtin; refine wpList_append_own_at _ rfl (.tmp 56) (.tmp 59) 23 rfl (w5.heap.size + 1) 9 i0 _ 1 16 Tryz.underlying23 hi hi0 hi1 hi2 rfl (by omega) _ S2.length (S2.map encStr) rfl HRX.out.f ⟨w2.heap.size, 0, none⟩ 1 1 [.string y.p.name] rfl rfl (cell_one_new _ _ _) (by simp [Value.oneCell']) (by unfold maxLen; omega) (by omega) (by simp; omega) ?_; intro v6 w6 hown6 hgrow6 _ hloc6; obtain ⟨A6, c6, hv6, -⟩ := own_sl hown6; subst hv6; rw [HEN.out] at hown6; have HR6 := Lib.hid (HRX.out.growF hown6 hgrow6 hloc6); have HB6 : Hid (RowKit.Below w5.heap.size w5 w6) := (HB2.out.trans (HX2.out.mono HB2.out.size)).grown hgrow6 (by have := HB2.out.size; simp; omega) (fun q hq => by have := (own_lt HRX.out.f hq).1; omega); clear hown6 hgrow6 hloc6)
         exact ⟨⟨k + 1, _, by go_num, by omega, by rw [HP2.out, HF2.out, HW2.out]; exact HR6, HB6.out⟩, by simp [intOf]; omega⟩
       | false =>
         rw [hfb] at pc
         have hq : fbQ y = false := hfb
         have HP2 : Hid (permits nmQ fbQ vt (ps.take (k + 1)) = S1 ++ [nmQ y]) := by show _ = _; rw [HP1.out, hq]; simp
         have HF2 : Hid (forbids nmQ fbQ vt (ps.take (k + 1)) = S2) := by show _ = _; rw [HF1.out, hq]; simp
         have HW2 : Hid (wrongs nmQ vt (ps.take (k + 1)) = S3) := by show _ = _; rw [HQ1.out]; simp
         clear HP1 HF1 HQ1 hfb hq
         go_wp2_with (at_builtin; refine wpList_append_own_at _ rfl (.tmp 63) (.tmp 66) 23 rfl (w5.heap.size + 1) 9 i0 _ 1 16 Tryz.underlying23 hi hi0 hi1 hi2 rfl (by omega) _ S1.length (S1.map encStr) rfl HRX.out.p ⟨w2.heap.size, 0, none⟩ 1 1 [.string y.p.name] rfl rfl (cell_one_new _ _ _) (by simp [Value.oneCell']) (by unfold maxLen; omega) (by omega) (by simp; omega) ?_; intro v6 w6 hown6 hgrow6 _ hloc6; obtain ⟨A6, c6, hv6, -⟩ := own_sl hown6; subst hv6; rw [HEN.out] at hown6; have HR6 := Lib.hid (HRX.out.growP hown6 hgrow6 hloc6); have HB6 : Hid (RowKit.Below w5.heap.size w5 w6) := (HB2.out.trans (HX2.out.mono HB2.out.size)).grown hgrow6 (by have := HB2.out.size; simp; omega) (fun q hq => by have := (own_lt HRX.out.p hq).1; omega); clear hown6 hgrow6 hloc6)
         exact ⟨⟨k + 1, _, by go_num, by omega, by rw [HP2.out, HF2.out, HW2.out]; exact HR6, HB6.out⟩, by simp [intOf]; omega⟩
     · have HP2 : Hid (permits nmQ fbQ vt (ps.take (k + 1)) = S1) := by show _ = _; rw [HP1.out]; simp
       have HF2 : Hid (forbids nmQ fbQ vt (ps.take (k + 1)) = S2) := by show _ = _; rw [HF1.out]; simp
       have HW2 : Hid (wrongs nmQ vt (ps.take (k + 1)) = S3) := by show _ = _; rw [HQ1.out]; simp
       clear HP1 HF1 HQ1
       go_wp2_with fail
       exact ⟨⟨k + 1, _, by go_num, by omega, by rw [HP2.out, HF2.out, HW2.out]; exact HR2, HB2.out⟩, by simp [intOf]; omega⟩
     · have HP2 : Hid (permits nmQ fbQ vt (ps.take (k + 1)) = S1) := by show _ = _; rw [HP1.out]; simp
       have HF2 : Hid (forbids nmQ fbQ vt (ps.take (k + 1)) = S2) := by show _ = _; rw [HF1.out]; simp
       have HW2 : Hid (wrongs nmQ vt (ps.take (k + 1)) = S3 ++ [nmQ y]) := by show _ = _; rw [HQ1.out]; simp
       clear HP1 HF1 HQ1
       go_wp2_with (at_builtin; refine wpList_append_own_at _ rfl (.tmp 44) (.tmp 47) 23 rfl (w5.heap.size + 1) 9 i0 _ 1 16 Tryz.underlying23 hi hi0 hi1 hi2 rfl (by omega) _ S3.length (S3.map encStr) rfl HRX.out.ww ⟨w2.heap.size, 0, none⟩ 1 1 [.string y.p.name] rfl rfl (cell_one_new _ _ _) (by simp [Value.oneCell']) (by unfold maxLen; omega) (by omega) (by simp; omega) ?_; intro v6 w6 hown6 hgrow6 _ hloc6; obtain ⟨A6, c6, hv6, -⟩ := own_sl hown6; subst hv6; rw [HEN.out] at hown6; obtain ⟨hA6, hR6⟩ := HRX.out.growW hown6 hgrow6 hloc6; have HR6 := Lib.hid hR6; have HB6 : Hid (RowKit.Below w5.heap.size w5 w6) := (HB2.out.trans (HX2.out.mono HB2.out.size)).grown hgrow6 (by have := HB2.out.size; simp; omega) (fun q hq => by have := (own_lt HRX.out.ww hq).1; omega); have ac6 := hA6.cell; have af6 := hA6.frozen; have al6 := hA6.lt; clear hA6 hR6 hown6 hgrow6 hloc6)
       exact ⟨⟨k + 1, _, by go_num, by omega, by rw [HP2.out, HF2.out, HW2.out]; exact HR6, HB6.out.setCell (Nat.le_refl _) _⟩, by simp [intOf]; omega⟩
   · have HTK : Hid (ps.take k = ps) := by show _ = _; rw [List.take_of_length_le (by omega)]
     rw [HTK.out] at HR ⊢
     rw [HWR.out] at HR
     have rb := F1.out.below hbr F1.out.lt
     have rc := rb.cell
     have rf := rb.frozen
     have rl := rb.lt
     have ac := HR.out.a.cell
     have af := HR.out.a.frozen
     have al := HR.out.a.lt
     have hne : w.heap.size + 1 < w5.heap.size := F1.out.lt
     have HWr : Hid (RowKit.Below w.heap.size w wr) := hwr
     have hOB := HOB.out
     have hBY := HBY.out
     unfold allowP at hOB
     unfold byP at hBY
     generalize permits nmQ fbQ vt ps = S1 at HR hOB hBY ⊢
     generalize forbids nmQ fbQ vt ps = S2 at HR hOB hBY ⊢
     obtain ⟨A1', c1', e1, l1, m1, -⟩ := own_strs2 HR.out.p rfl
     injection e1 with e1 _ e1'
     subst e1 e1'
     obtain ⟨A2', c2', e2, l2, m2, -⟩ := own_strs2 HR.out.f rfl
     injection e2 with e2 _ e2'
     subst e2 e2'
     obtain ⟨A3', c3', e3, l3, m3, -⟩ := own_strs2 HR.out.ww rfl
     injection e3 with e3 _ e3'
     subst e3 e3'
     have HP1 : Hid (∀ b, (Value.slice Ap S1.length cp).ownBlock = some b → w5.heap.size + 1 ≤ b) := fun b h => (own_lt HR.out.p h).1
     have HP2 : Hid (∀ b, (Value.slice Af S2.length cf).ownBlock = some b → w5.heap.size + 1 ≤ b) := fun b h => (own_lt HR.out.f h).1
     have HP3 : Hid (∀ b, (Value.slice Aw WR.length cw).ownBlock = some b → w5.heap.size + 1 ≤ b) := fun b h => (own_lt HR.out.ww h).1
     clear hwr hbr rb hcp hcf hcw HOB HBY HWR
     by_cases g2 : S2 = []
     · rw [if_pos g2] at hBY
       subst hBY
       by_cases g1 : S1 = []
       · have hb : OB = false := by rw [← hOB, g1]; simp
         subst hb
         subst g1
         subst g2
         clear hOB
         go_wp2_with fail
         refine bodyPost_ret (v := .tuple #[.agg #[.bool false, .slice Ap 0 cp, .slice Aw WR.length cw], .nilIface]) (by simp [results, Tryz.results34, go_sem, rc]) rfl ⟨Ap, cp, Aw, cw, rfl, m1, l3, m3, ?_, ?_, ?_⟩
         · refine own_sl_str (base := w5.heap.size + 1) (c := cp) ?_
           (repeat (refine own_far2 ?_ (fun e => by first | exact absurd (HP1.out _ e) (by show ¬ (w5.heap.size + 1 ≤ w5.heap.size); omega) | exact absurd (HP1.out _ e) (by show ¬ (w5.heap.size + 1 ≤ w.heap.size + 1); omega)) _))
           exact HR.out.p
         · refine own_sl_str (base := w5.heap.size + 1) (c := cw) ?_
           (repeat (refine own_far2 ?_ (fun e => by first | exact absurd (HP3.out _ e) (by show ¬ (w5.heap.size + 1 ≤ w5.heap.size); omega) | exact absurd (HP3.out _ e) (by show ¬ (w5.heap.size + 1 ≤ w.heap.size + 1); omega)) _))
           exact HR.out.ww
         · repeat (first | exact HWr.out | (refine RowKit.Below.setCell ?_ (by first | (simp; done) | (simp; omega)) _))
       · have hb : OB = true := by rw [← hOB, g2]; cases S1 with | nil => exact absurd rfl g1 | cons a r => rfl
         subst hb
         subst g2
         have q0 := List.length_pos_iff.2 g1
         have q1 : (0 : Int) < (S1.length : Int) := by omega
         clear hOB g1
         go_wp2_with fail
         refine bodyPost_ret (v := .tuple #[.agg #[.bool true, .slice Ap S1.length cp, .slice Aw WR.length cw], .nilIface]) (by simp [results, Tryz.results34, go_sem, rc]) rfl ⟨Ap, cp, Aw, cw, rfl, l1, m1, l3, m3, ?_, ?_, ?_⟩
         · refine own_sl_str (base := w5.heap.size + 1) (c := cp) ?_
           (repeat (refine own_far2 ?_ (fun e => by first | exact absurd (HP1.out _ e) (by show ¬ (w5.heap.size + 1 ≤ w5.heap.size); omega) | exact absurd (HP1.out _ e) (by show ¬ (w5.heap.size + 1 ≤ w.heap.size + 1); omega)) _))
           exact HR.out.p
         · refine own_sl_str (base := w5.heap.size + 1) (c := cw) ?_
           (repeat (refine own_far2 ?_ (fun e => by first | exact absurd (HP3.out _ e) (by show ¬ (w5.heap.size + 1 ≤ w5.heap.size); omega) | exact absurd (HP3.out _ e) (by show ¬ (w5.heap.size + 1 ≤ w.heap.size + 1); omega)) _))
           exact HR.out.ww
         · repeat (first | exact HWr.out | (refine RowKit.Below.setCell ?_ (by first | (simp; done) | (simp; omega)) _))
     · rw [if_neg g2] at hBY
       subst hBY
       have hb : OB = false := by rw [← hOB]; cases S2 with | nil => exact absurd rfl g2 | cons a r => rfl
       subst hb
       have q2 : (0 : Int) < (S2.length : Int) := by have := List.length_pos_iff.2 g2; omega
       have q3 : ((S2.length : Int) == 0) = false := by simpa using g2
       clear hOB g2
       go_wp2_with fail
       refine bodyPost_ret (v := .tuple #[.agg #[.bool false, .slice Af S2.length cf, .slice Aw WR.length cw], .nilIface]) (by simp [results, Tryz.results34, go_sem, rc]) rfl ⟨Af, cf, Aw, cw, rfl, l2, m2, l3, m3, ?_, ?_, ?_⟩
       · refine own_sl_str (base := w5.heap.size + 1) (c := cf) ?_
         (repeat (refine own_far2 ?_ (fun e => by first | exact absurd (HP2.out _ e) (by show ¬ (w5.heap.size + 1 ≤ w5.heap.size); omega) | exact absurd (HP2.out _ e) (by show ¬ (w5.heap.size + 1 ≤ w.heap.size + 1); omega)) _))
         exact HR.out.f
       · refine own_sl_str (base := w5.heap.size + 1) (c := cw) ?_
         (repeat (refine own_far2 ?_ (fun e => by first | exact absurd (HP3.out _ e) (by show ¬ (w5.heap.size + 1 ≤ w5.heap.size); omega) | exact absurd (HP3.out _ e) (by show ¬ (w5.heap.size + 1 ≤ w.heap.size + 1); omega)) _))
         exact HR.out.ww
       · repeat (first | exact HWr.out | (refine RowKit.Below.setCell ?_ (by first | (simp; done) | (simp; omega)) _))
end Go.Proofs.YtpheiojmcafolaaGreatDoor
