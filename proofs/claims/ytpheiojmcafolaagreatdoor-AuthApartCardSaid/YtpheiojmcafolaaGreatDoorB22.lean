/-
  THE WALKS: auth.Ask.
  THE WALKS of the laws' own small functions: permitted, among.
  THE WALK: the laws' comparison of texts.
  PLAIN LAWS for SliceSame, SliceAgain: what is left out does not matter.
-/
import Derived.Test.YtpheiojmcafolaaGreatDoorB21
import Derived.Test.YtpheiojmcafolaaGreatDoorB18
namespace Go.Proofs.YtpheiojmcafolaaGreatDoor
set_option maxRecDepth 100000
open Go.RowKit Go.Sort
set_option maxHeartbeats 12800000 in
theorem auth_Ask_bad (x : Aq) (ps : List PoM) (A : Option Addr) (c : Nat) (w : World) (hI : AqIn x w) (hP : PosIn w A ps) (hk : ¬ askErr x ps = 0) :
   Calls Tryz.prog 34 #[.slice x.Ea x.hs.length x.ec, .slice A ps.length c, .agg #[.string x.q.who.ty, .string x.q.who.id, .string x.q.act.ty, .string x.q.act.id, .string x.q.what.ty, .string x.q.what.id, .slice x.qa x.q.ctx.length x.qc]] w fun r w' => AnsBack w r w' false [] [] (askErr x ps) := by
 have HEC := Lib.hid (fun W (hW : RowKit.Below w.heap.size w W) => ent_Check x.hs x.es x.Ea x.ec W (hI.later hW).ents hI.ec)
 have HAC := Lib.hid (fun W (hW : RowKit.Below w.heap.size w W) => auth_Check ps A c W (hP.later hW))
 have HEA := Lib.hid (fun W (hW : RowKit.Below w.heap.size w W) => eval_Ask x.q x.qa x.qc W hI.qz.1 hI.qz.2.1 hI.qz.2.2 hI.qc.1 hI.qc.2 hI.qk (hI.later hW).ctx)
 have HI := Lib.hid hI
 have HPS := Lib.hid hP
 have b0 : Blk ((w.alloc (.cells #[.string x.q.who.ty, .string x.q.who.id, .string x.q.act.ty, .string x.q.act.id, .string x.q.what.ty, .string x.q.what.id, .slice x.qa x.q.ctx.length x.qc] 39)).alloc (.cells #[.bool false, .slice none 0 0, .slice none 0 0] 70)) w.heap.size 39 #[.string x.q.who.ty, .string x.q.who.id, .string x.q.act.ty, .string x.q.act.id, .string x.q.what.ty, .string x.q.what.id, .slice x.qa x.q.ctx.length x.qc] := (Blk.new w _ _).alloc _
 have b1 : Blk ((w.alloc (.cells #[.string x.q.who.ty, .string x.q.who.id, .string x.q.act.ty, .string x.q.act.id, .string x.q.what.ty, .string x.q.what.id, .slice x.qa x.q.ctx.length x.qc] 39)).alloc (.cells #[.bool false, .slice none 0 0, .slice none 0 0] 70)) (w.heap.size + 1) 70 #[.bool false, .slice none 0 0, .slice none 0 0] := by
   have := Blk.new (w.alloc (.cells #[.string x.q.who.ty, .string x.q.who.id, .string x.q.act.ty, .string x.q.act.id, .string x.q.what.ty, .string x.q.what.id, .slice x.qa x.q.ctx.length x.qc] 39)) 70 #[.bool false, .slice none 0 0, .slice none 0 0]
   rwa [World.size_alloc] at this
 have hb0 : RowKit.Below w.heap.size w ((w.alloc (.cells #[.string x.q.who.ty, .string x.q.who.id, .string x.q.act.ty, .string x.q.act.id, .string x.q.what.ty, .string x.q.what.id, .slice x.qa x.q.ctx.length x.qc] 39)).alloc (.cells #[.bool false, .slice none 0 0, .slice none 0 0] 70)) := by (repeat (first | assumption | exact Below.refl _ _ | apply Below.drew | apply below_drewN | (refine Below.alloc ?_ (by first | exact Nat.le_refl _ | omega | (simp; done) | (simp; omega)) _)))
 have hS0 : RqS w.heap.size x w ((w.alloc (.cells #[.string x.q.who.ty, .string x.q.who.id, .string x.q.act.ty, .string x.q.act.id, .string x.q.what.ty, .string x.q.what.id, .slice x.qa x.q.ctx.length x.qc] 39)).alloc (.cells #[.bool false, .slice none 0 0, .slice none 0 0] 70)).drew := RqS.of b0.drew hb0.drew
 have B0 := Lib.hid b0.drew
 have B1 := Lib.hid b1.drew
 have HB := Lib.hid hb0.drew
 have HS0 := Lib.hid hS0
 have tk : (askErr x ps != 0) = true := by simpa using hk
 have he1 : errV (askErr x ps) = .iface 96 (.int .i64 (askErr x ps)) := by unfold errV; rw [if_neg hk]
 have HE1 := Lib.hid he1
 have HFF : Hid (∀ b c W, W.cell? ⟨b, 0, none⟩ = some (errV (entErr x.es)) → W.cell? ⟨b, 1, none⟩ = some (errV (aErr ps)) → W.cell? ⟨b, 2, none⟩ = some (errV (rqErr x.q)) → Calls Tryz.prog 71 #[.slice (some ⟨b, 0, none⟩) 3 c] W fun r w' => r = .returned (errV (askErr x ps)) ∧ w' = W) := fun b c W h1 h2 h3 => auth_first _ _ _ b c W h1 h2 h3
 unfold AnsBack
 clear hI hP hk b0 b1 hb0 hS0 he1
 generalize askErr x ps = k at tk HE1 HFF ⊢
 generalize entErr x.es = k1 at HEC HFF
 generalize aErr ps = k2 at HAC HFF
 generalize rqErr x.q = k3 at HEA HFF
 rcases errV_shape k1 with e1 | e1 <;> rcases errV_shape k2 with e2 | e2 <;> rcases errV_shape k3 with e3 | e3
 all_goals
   rw [e1] at HEC HFF
   rw [e2] at HAC HFF
   rw [e3] at HEA HFF
   clear e1 e2 e3
   go_enter Tryz.func34, Tryz.ntmps34
   go_wp2_with fail
   refine wp_region_ord (S := RqS w.heap.size x w) [(0, false), (2, false), (4, false), (1, true), (3, true), (5, true), (6, true), (7, true), (8, false)] (by kernel_rfl) (by kernel_rfl) (fun _ _ _ _ _ h => h) HS0.out (fun hW' => ?_)
   generalize hwd : ((w.alloc (.cells #[.string x.q.who.ty, .string x.q.who.id, .string x.q.act.ty, .string x.q.act.id, .string x.q.what.ty, .string x.q.what.id, .slice x.qa x.q.ctx.length x.qc] 39)).alloc (.cells #[.bool false, .slice none 0 0, .slice none 0 0] 70)).drew = wd at B0 B1 HB HS0 hW' ⊢
   clear hwd hW' HS0
   simp only [ordOps, List.filterMap_cons, List.filterMap_nil, List.getElem?_cons_zero, List.getElem?_cons_succ, Option.map_some]
   (repeat (first | (refine hd_take (v := ?_) (by rfl) ?_ ?_; rotate_left; (focus (intro W hW; obtain ⟨s0, s1, s2, s3, s4, s5, s6, s7⟩ := hW; go_simp; try with_reducible rfl)); simp only [Act.put, List.setIfInBounds_toArray, List.set_cons_zero, List.set_cons_succ]) | (refine hd_skip (by rfl) ?_; simp only [Act.put, List.setIfInBounds_toArray, List.set_cons_zero, List.set_cons_succ])))
   refine hd_call (fun K hK => ?_)
   go_simp
   refine (HEC.out wd HB.out).mono ?_
   rintro r w2 ⟨rfl, hb2⟩
   have C0 := Lib.hid (B0.out.below hb2 B0.out.lt)
   have C1 := Lib.hid (B1.out.below hb2 B1.out.lt)
   have HB2 := Lib.hid (HB.out.trans (hb2.mono HB.out.size))
   refine hK _ _ (RqS.of C0.out HB2.out) ?_
   clear hK K hb2 B0 B1 HB
   refine hd_call (fun K hK => ?_)
   go_simp
   refine (HAC.out w2 HB2.out).mono ?_
   rintro r w3 ⟨rfl, hb3⟩
   have D0 := Lib.hid (C0.out.below hb3 C0.out.lt)
   have D1 := Lib.hid (C1.out.below hb3 C1.out.lt)
   have HB3 := Lib.hid (HB2.out.trans (hb3.mono HB2.out.size))
   refine hK _ _ (RqS.of D0.out HB3.out) ?_
   clear hK K hb3 C0 C1 HB2
   refine hd_call (fun K hK => ?_)
   go_simp
   refine (HEA.out w3 HB3.out).mono ?_
   rintro r w4 ⟨rfl, hb4⟩
   have E0 := Lib.hid (D0.out.below hb4 D0.out.lt)
   have E1 := Lib.hid (D1.out.below hb4 D1.out.lt)
   have HB4 := Lib.hid (HB3.out.trans (hb4.mono HB3.out.size))
   refine hK _ _ (RqS.of E0.out HB4.out) ?_
   clear hK K hb4 D0 D1 HB3
   refine hd_call (fun K hK => ?_)
   go_simp
   refine hK _ _ (RqS.of (E0.out.alloc _) (HB4.out.alloc HB4.out.size _)) ?_
   clear hK K
   refine hd_call (fun K hK => ?_)
   go_simp
   generalize hw5 : w4.alloc _ = w5
   have F0 : Hid (Blk w5 w.heap.size 39 #[.string x.q.who.ty, .string x.q.who.id, .string x.q.act.ty, .string x.q.act.id, .string x.q.what.ty, .string x.q.what.id, .slice x.qa x.q.ctx.length x.qc]) := by show Blk _ _ _ _; rw [← hw5]; exact E0.out.alloc _
   have F1 : Hid (Blk w5 (w.heap.size + 1) 70 #[.bool false, .slice none 0 0, .slice none 0 0]) := by show Blk _ _ _ _; rw [← hw5]; exact E1.out.alloc _
   have HB5 : Hid (RowKit.Below w.heap.size w w5) := by show RowKit.Below _ _ _; rw [← hw5]; exact HB4.out.alloc HB4.out.size _
   have HFI : Hid (Calls Tryz.prog 71 #[.slice (some ⟨w4.heap.size, 0, none⟩) 3 3] w5 fun r w' => r = .returned (errV k) ∧ w' = w5) := by
     show Calls _ _ _ _ _
     rw [← hw5]
     exact HFF.out w4.heap.size 3 _ (by rw [World.cell?_alloc_new]; rfl) (by rw [World.cell?_alloc_new]; rfl) (by rw [World.cell?_alloc_new]; rfl)
   clear hw5 E0 E1 HB4
   refine HFI.out.mono ?_
   rintro r w6 ⟨rfl, rfl⟩
   obtain ⟨w5, rfl⟩ : ∃ w5 : World, w5 = w6 := ⟨_, rfl⟩
   refine hK _ _ (RqS.of F0.out HB5.out) ?_
   clear hK K HFI
   (repeat (first | (refine hd_take (v := ?_) (by rfl) ?_ ?_; rotate_left; (focus (intro W hW; obtain ⟨s0, s1, s2, s3, s4, s5, s6, s7⟩ := hW; go_simp; try with_reducible rfl)); simp only [Act.put, List.setIfInBounds_toArray, List.set_cons_zero, List.set_cons_succ]) | (refine hd_skip (by rfl) ?_; simp only [Act.put, List.setIfInBounds_toArray, List.set_cons_zero, List.set_cons_succ])))
   refine hd_nil ?_
   rw [HE1.out]
   have cc := F1.out.cell
   have cf := F1.out.frozen
   have cl := F1.out.lt
   go_wp2_with fail
   refine bodyPost_ret (v := .tuple #[.agg #[.bool false, .slice none 0 0, .slice none 0 0], .iface 96 (.int .i64 k)]) (by simp [results, Tryz.results34, go_sem, cc]) rfl ⟨none, 0, none, 0, by rw [HE1.out], by omega, by omega, by omega, by omega, StrSl.nil _ _ _, StrSl.nil _ _ _, ?_⟩
   exact ((HB5.out.setCell (by simp) _).setCell (by simp) _).setCell (by simp) _
set_option maxHeartbeats 12800000 in
theorem auth_Ask_ok (x : Aq) (ps : List PoM) (A : Option Addr) (c : Nat) (w : World) (hI : AqIn x w) (hP : PosIn w A ps) (hk : askErr x ps = 0) :
   Calls Tryz.prog 34 #[.slice x.Ea x.hs.length x.ec, .slice A ps.length c, .agg #[.string x.q.who.ty, .string x.q.who.id, .string x.q.act.ty, .string x.q.act.id, .string x.q.what.ty, .string x.q.what.id, .slice x.qa x.q.ctx.length x.qc]] w fun r w' => AnsBack w r w' (allowP nmQ fbQ (vtQ x.es x.q) ps) (byP nmQ fbQ (vtQ x.es x.q) ps) (wrongs nmQ (vtQ x.es x.q) ps) 0 := by
 have HEC := Lib.hid (fun W (hW : RowKit.Below w.heap.size w W) => ent_Check x.hs x.es x.Ea x.ec W (hI.later hW).ents hI.ec)
 have HAC := Lib.hid (fun W (hW : RowKit.Below w.heap.size w W) => auth_Check ps A c W (hP.later hW))
 have HEA := Lib.hid (fun W (hW : RowKit.Below w.heap.size w W) => eval_Ask x.q x.qa x.qc W hI.qz.1 hI.qz.2.1 hI.qz.2.2 hI.qc.1 hI.qc.2 hI.qk (hI.later hW).ctx)
 have HI := Lib.hid hI
 have HPS := Lib.hid hP
 have b0 : Blk ((w.alloc (.cells #[.string x.q.who.ty, .string x.q.who.id, .string x.q.act.ty, .string x.q.act.id, .string x.q.what.ty, .string x.q.what.id, .slice x.qa x.q.ctx.length x.qc] 39)).alloc (.cells #[.bool false, .slice none 0 0, .slice none 0 0] 70)) w.heap.size 39 #[.string x.q.who.ty, .string x.q.who.id, .string x.q.act.ty, .string x.q.act.id, .string x.q.what.ty, .string x.q.what.id, .slice x.qa x.q.ctx.length x.qc] := (Blk.new w _ _).alloc _
 have b1 : Blk ((w.alloc (.cells #[.string x.q.who.ty, .string x.q.who.id, .string x.q.act.ty, .string x.q.act.id, .string x.q.what.ty, .string x.q.what.id, .slice x.qa x.q.ctx.length x.qc] 39)).alloc (.cells #[.bool false, .slice none 0 0, .slice none 0 0] 70)) (w.heap.size + 1) 70 #[.bool false, .slice none 0 0, .slice none 0 0] := by
   have := Blk.new (w.alloc (.cells #[.string x.q.who.ty, .string x.q.who.id, .string x.q.act.ty, .string x.q.act.id, .string x.q.what.ty, .string x.q.what.id, .slice x.qa x.q.ctx.length x.qc] 39)) 70 #[.bool false, .slice none 0 0, .slice none 0 0]
   rwa [World.size_alloc] at this
 have hb0 : RowKit.Below w.heap.size w ((w.alloc (.cells #[.string x.q.who.ty, .string x.q.who.id, .string x.q.act.ty, .string x.q.act.id, .string x.q.what.ty, .string x.q.what.id, .slice x.qa x.q.ctx.length x.qc] 39)).alloc (.cells #[.bool false, .slice none 0 0, .slice none 0 0] 70)) := by (repeat (first | assumption | exact Below.refl _ _ | apply Below.drew | apply below_drewN | (refine Below.alloc ?_ (by first | exact Nat.le_refl _ | omega | (simp; done) | (simp; omega)) _)))
 have hS0 : RqS w.heap.size x w ((w.alloc (.cells #[.string x.q.who.ty, .string x.q.who.id, .string x.q.act.ty, .string x.q.act.id, .string x.q.what.ty, .string x.q.what.id, .slice x.qa x.q.ctx.length x.qc] 39)).alloc (.cells #[.bool false, .slice none 0 0, .slice none 0 0] 70)).drew := RqS.of b0.drew hb0.drew
 have B0 := Lib.hid b0.drew
 have B1 := Lib.hid b1.drew
 have HB := Lib.hid hb0.drew
 have HS0 := Lib.hid hS0
 obtain ⟨hz1, hz2, hz3⟩ := firstI_zero hk
 obtain ⟨h12, hu, -⟩ := aErr_use hz2
 have HU := Lib.hid hu
 have HV := Lib.hid (fun W (hW : RowKit.Below w.heap.size w W) y (hy : y ∈ ps) => auth_vote x y W (hI.later hW) ((hP.later hW).each y hy) (hu y hy).2.1)
 have HK := Lib.hid hk
 obtain ⟨i0, hi, hi0, hi1, hi2⟩ := info_parts string_info
 have HFF : Hid (∀ b c W, W.cell? ⟨b, 0, none⟩ = some (errV (entErr x.es)) → W.cell? ⟨b, 1, none⟩ = some (errV (aErr ps)) → W.cell? ⟨b, 2, none⟩ = some (errV (rqErr x.q)) → Calls Tryz.prog 71 #[.slice (some ⟨b, 0, none⟩) 3 c] W fun r w' => r = .returned (errV (askErr x ps)) ∧ w' = W) := fun b c W h1 h2 h3 => auth_first _ _ _ b c W h1 h2 h3
 rw [hz1] at HEC HFF
 rw [hz2] at HAC HFF
 rw [hz3] at HEA HFF
 rw [hk] at HFF
 rw [errV_zero] at HEC HAC HEA HFF
 obtain ⟨vt, hvt⟩ : ∃ vt, vt = vtQ x.es x.q := ⟨_, rfl⟩
 have HVT := Lib.hid hvt
 rw [← hvt]
 clear hvt
 obtain ⟨OB, hOB⟩ : ∃ q, allowP nmQ fbQ vt ps = q := ⟨_, rfl⟩
 obtain ⟨BY, hBY⟩ : ∃ q, byP nmQ fbQ vt ps = q := ⟨_, rfl⟩
 obtain ⟨WR, hWR⟩ : ∃ q, wrongs nmQ vt ps = q := ⟨_, rfl⟩
 rw [hOB, hBY, hWR]
 have HOB := Lib.hid hOB
 have HBY := Lib.hid hBY
 have HWR := Lib.hid hWR
 clear hOB hBY hWR
 unfold AnsBack
 clear hI hP hk b0 b1 hb0 hS0 hu hz1 hz2 hz3
 go_enter Tryz.func34, Tryz.ntmps34
 go_wp2_with fail
 refine wp_region_ord (S := RqS w.heap.size x w) [(0, false), (2, false), (4, false), (1, true), (3, true), (5, true), (6, true), (7, true), (8, false)] (by kernel_rfl) (by kernel_rfl) (fun _ _ _ _ _ h => h) HS0.out (fun hW' => ?_)
 generalize hwd : ((w.alloc (.cells #[.string x.q.who.ty, .string x.q.who.id, .string x.q.act.ty, .string x.q.act.id, .string x.q.what.ty, .string x.q.what.id, .slice x.qa x.q.ctx.length x.qc] 39)).alloc (.cells #[.bool false, .slice none 0 0, .slice none 0 0] 70)).drew = wd at B0 B1 HB HS0 hW' ⊢
 clear hwd hW' HS0
 simp only [ordOps, List.filterMap_cons, List.filterMap_nil, List.getElem?_cons_zero, List.getElem?_cons_succ, Option.map_some]
 (repeat (first | (refine hd_take (v := ?_) (by rfl) ?_ ?_; rotate_left; (focus (intro W hW; obtain ⟨s0, s1, s2, s3, s4, s5, s6, s7⟩ := hW; go_simp; try with_reducible rfl)); simp only [Act.put, List.setIfInBounds_toArray, List.set_cons_zero, List.set_cons_succ]) | (refine hd_skip (by rfl) ?_; simp only [Act.put, List.setIfInBounds_toArray, List.set_cons_zero, List.set_cons_succ])))
 refine hd_call (fun K hK => ?_)
 go_simp
 refine (HEC.out wd HB.out).mono ?_
 rintro r w2 ⟨rfl, hb2⟩
 have C0 := Lib.hid (B0.out.below hb2 B0.out.lt)
 have C1 := Lib.hid (B1.out.below hb2 B1.out.lt)
 have HB2 := Lib.hid (HB.out.trans (hb2.mono HB.out.size))
 refine hK _ _ (RqS.of C0.out HB2.out) ?_
 clear hK K hb2 B0 B1 HB
 refine hd_call (fun K hK => ?_)
 go_simp
 refine (HAC.out w2 HB2.out).mono ?_
 rintro r w3 ⟨rfl, hb3⟩
 have D0 := Lib.hid (C0.out.below hb3 C0.out.lt)
 have D1 := Lib.hid (C1.out.below hb3 C1.out.lt)
 have HB3 := Lib.hid (HB2.out.trans (hb3.mono HB2.out.size))
 refine hK _ _ (RqS.of D0.out HB3.out) ?_
 clear hK K hb3 C0 C1 HB2
 refine hd_call (fun K hK => ?_)
 go_simp
 refine (HEA.out w3 HB3.out).mono ?_
 rintro r w4 ⟨rfl, hb4⟩
 have E0 := Lib.hid (D0.out.below hb4 D0.out.lt)
 have E1 := Lib.hid (D1.out.below hb4 D1.out.lt)
 have HB4 := Lib.hid (HB3.out.trans (hb4.mono HB3.out.size))
 refine hK _ _ (RqS.of E0.out HB4.out) ?_
 clear hK K hb4 D0 D1 HB3
 refine hd_call (fun K hK => ?_)
 go_simp
 have F0 := Lib.hid (E0.out.alloc (.cells #[.nilIface, .nilIface, .nilIface] 27))
 have F1 := Lib.hid (E1.out.alloc (.cells #[.nilIface, .nilIface, .nilIface] 27))
 have HB5 := Lib.hid (HB4.out.alloc HB4.out.size (.cells #[.nilIface, .nilIface, .nilIface] 27))
 have HFI := Lib.hid (HFF.out w4.heap.size 3 (w4.alloc (.cells #[.nilIface, .nilIface, .nilIface] 27)) (by rw [World.cell?_alloc_new]; rfl) (by rw [World.cell?_alloc_new]; rfl) (by rw [World.cell?_alloc_new]; rfl))
 refine hK _ _ (RqS.of F0.out HB5.out) ?_
 clear hK K E0 E1 HB4
 refine hd_call (fun K hK => ?_)
 go_simp
 generalize hw5 : w4.alloc (.cells #[.nilIface, .nilIface, .nilIface] 27) = w5 at F0 F1 HB5 HFI ⊢
 clear hw5
 refine HFI.out.mono ?_
 rintro r w6 ⟨rfl, rfl⟩
 obtain ⟨w5, rfl⟩ : ∃ w5 : World, w5 = w6 := ⟨_, rfl⟩
 refine hK _ _ (RqS.of F0.out HB5.out) ?_
 clear hK K HFI
 (repeat (first | (refine hd_take (v := ?_) (by rfl) ?_ ?_; rotate_left; (focus (intro W hW; obtain ⟨s0, s1, s2, s3, s4, s5, s6, s7⟩ := hW; go_simp; try with_reducible rfl)); simp only [Act.put, List.setIfInBounds_toArray, List.set_cons_zero, List.set_cons_succ]) | (refine hd_skip (by rfl) ?_; simp only [Act.put, List.setIfInBounds_toArray, List.set_cons_zero, List.set_cons_succ])))
 refine hd_nil ?_
 clear HEC HAC HEA HFF
 have HR0 : Hid (Rows3 (w5.alloc (.cells #[.bool false, .slice none 0 0, .slice none 0 0] 70)) w5.heap.size (.slice none 0 0) (.slice none 0 0) (.slice none 0 0) [] [] []) := Rows3.mk (World.ownsRow_nil _ _ _ _) (World.ownsRow_nil _ _ _ _) (World.ownsRow_nil _ _ _ _) (fun b hb => by cases hb) (fun b hb => by cases hb) (fun b hb => by cases hb) (Blk.new _ _ _)
 have HBL : Hid (RowKit.Below w5.heap.size w5 (w5.alloc (.cells #[.bool false, .slice none 0 0, .slice none 0 0] 70))) := by show RowKit.Below _ _ _; (repeat (first | assumption | exact Below.refl _ _ | apply Below.drew | apply below_drewN | (refine Below.alloc ?_ (by first | exact Nat.le_refl _ | omega | (simp; done) | (simp; omega)) _)))
 go_wp2_with fail
 go_loopw [10, 11, 30] (fun pv fv kk wr => ∃ (k : Nat) (wv : Value), kk = .int .i64 k ∧ k ≤ ps.length ∧ Hid (Rows3 wr w5.heap.size pv fv wv (permits nmQ fbQ vt (ps.take k)) (forbids nmQ fbQ vt (ps.take k)) (wrongs nmQ vt (ps.take k))) ∧ RowKit.Below w5.heap.size w5 wr) (fun _ _ kk _ => ps.length - (intOf kk).toNat)
 case atStart => exact ⟨0, _, rfl, by omega, HR0.out, HBL.out⟩
 case round =>
   obtain ⟨k, wv, rfl, hk, HR, hbr⟩ := hrel
   have hzr := hbr.size
   have hwr : RowKit.Below w.heap.size w wr := HB5.out.trans (hbr.mono HB5.out.size)
   obtain ⟨Ap, cp, hpv, hcp⟩ := own_sl HR.out.p
   subst hpv
   obtain ⟨Af, cf, hfv, hcf⟩ := own_sl HR.out.f
   subst hfv
   obtain ⟨Aw, cw, hwv, hcw⟩ := own_sl HR.out.ww
   subst hwv
   by_cases hlt : k < ps.length
   · obtain ⟨y, hy⟩ : ∃ y, ps[k]? = some y := ⟨_, List.getElem?_eq_getElem hlt⟩
     obtain ⟨b, o, hA, hb, d0, d1, d2, d3, d4, d5, d6, d7, d8, d9, d10, d11, d12, d13, d14⟩ := poSl_cells (HPS.out.later hwr).sl hy
     subst hA
     have HVY := Lib.hid (fun W hW => HV.out W hW y (List.mem_of_getElem? hy))
     have hv3 := vtQ_cases x.es x.q y
     rw [← HVT.out] at HVY hv3
     have HP1 : Hid (permits nmQ fbQ vt (ps.take (k + 1)) = permits nmQ fbQ vt (ps.take k) ++ (if (vt y == 1 && !fbQ y) = true then [nmQ y] else [])) := filt_step hy
     have HF1 : Hid (forbids nmQ fbQ vt (ps.take (k + 1)) = forbids nmQ fbQ vt (ps.take k) ++ (if (vt y == 1 && fbQ y) = true then [nmQ y] else [])) := filt_step hy
     have HQ1 : Hid (wrongs nmQ vt (ps.take (k + 1)) = wrongs nmQ vt (ps.take k) ++ (if (vt y == -1) = true then [nmQ y] else [])) := filt_step hy
     have n1 : (permits nmQ fbQ vt (ps.take k)).length ≤ k := filt_len
     have n2 : (forbids nmQ fbQ vt (ps.take k)).length ≤ k := filt_len
     have n3 : (wrongs nmQ vt (ps.take k)).length ≤ k := filt_len
     have HEN : Hid (Value.string y.p.name = encStr (nmQ y)) := (encStr_of _).symm
     have FA := (F0.out.below hbr F0.out.lt).alloc (.cells #[.string y.p.name, .bool y.p.forbid, .int .i64 y.p.who.op, .string y.p.who.ty, .string y.p.who.uid.ty, .string y.p.who.uid.id, .int .i64 y.p.act.op, .string y.p.act.ty, .string y.p.act.uid.ty, .string y.p.act.uid.id, .int .i64 y.p.what.op, .string y.p.what.ty, .string y.p.what.uid.ty, .string y.p.what.uid.id, .slice y.A y.cs.length y.c] 47)
     have BP := Lib.hid (Blk.new wr 47 #[.string y.p.name, .bool y.p.forbid, .int .i64 y.p.who.op, .string y.p.who.ty, .string y.p.who.uid.ty, .string y.p.who.uid.id, .int .i64 y.p.act.op, .string y.p.act.ty, .string y.p.act.uid.ty, .string y.p.act.uid.id, .int .i64 y.p.what.op, .string y.p.what.ty, .string y.p.what.uid.ty, .string y.p.what.uid.id, .slice y.A y.cs.length y.c])
     have hal : RowKit.Below wr.heap.size wr (wr.alloc (.cells #[.string y.p.name, .bool y.p.forbid, .int .i64 y.p.who.op, .string y.p.who.ty, .string y.p.who.uid.ty, .string y.p.who.uid.id, .int .i64 y.p.act.op, .string y.p.act.ty, .string y.p.act.uid.ty, .string y.p.act.uid.id, .int .i64 y.p.what.op, .string y.p.what.ty, .string y.p.what.uid.ty, .string y.p.what.uid.id, .slice y.A y.cs.length y.c] 47)) := by (repeat (first | assumption | exact Below.refl _ _ | apply Below.drew | apply below_drewN | (refine Below.alloc ?_ (by first | exact Nat.le_refl _ | omega | (simp; done) | (simp; omega)) _)))
     have HAL := Lib.hid hal
     have HRA := Lib.hid (HR.out.later hal)
     have HBA := Lib.hid (hwr.trans (hal.mono hwr.size))
     have fc := FA.cell
     have fl := FA.lt
     generalize vt y = v at HVY hv3 HP1 HF1 HQ1
     obtain ⟨S1, hS1⟩ : ∃ S1, permits nmQ fbQ vt (ps.take k) = S1 := ⟨_, rfl⟩
     obtain ⟨S2, hS2⟩ : ∃ S2, forbids nmQ fbQ vt (ps.take k) = S2 := ⟨_, rfl⟩
     obtain ⟨S3, hS3⟩ : ∃ S3, wrongs nmQ vt (ps.take k) = S3 := ⟨_, rfl⟩
     rw [hS1] at HP1 HRA n1 ⊢
     rw [hS2] at HF1 HRA n2 ⊢
     rw [hS3] at HQ1 HRA n3
     clear hS1 hS2 hS3 hy HR FA hal
     go_wp2_with fail
     refine (HVY.out _ HBA.out).mono ?_
     rintro r w2 ⟨rfl, hb2⟩
     have HR2 := Lib.hid (HRA.out.later hb2)
     have BP2 := Lib.hid (BP.out.below hb2 BP.out.lt)
     have HB2 : Hid (RowKit.Below w5.heap.size w5 w2) := (hbr.trans (HAL.out.mono hzr)).trans (hb2.mono (hbr.trans (HAL.out.mono hzr)).size)
     have hab : w5.heap.size < w2.heap.size := HR2.out.a.lt
     have HX2 : Hid (RowKit.Below w2.heap.size w2 (w2.alloc (.cells #[.string y.p.name] 9))) := by show RowKit.Below _ _ _; (repeat (first | assumption | exact Below.refl _ _ | apply Below.drew | apply below_drewN | (refine Below.alloc ?_ (by first | exact Nat.le_refl _ | omega | (simp; done) | (simp; omega)) _)))
     have HRX := Lib.hid (HR2.out.later HX2.out)
     have ac := HR2.out.a.cell
     have pc := BP2.out.cell
     have pl := BP2.out.lt
     clear hb2 HRA BP HBA HAL fc fl HVY
     rcases hv3 with rfl | rfl | rfl
     · cases hfb : y.p.forbid with
       | true =>
         rw [hfb] at pc
         have hq : fbQ y = true := hfb
         have HP2 : Hid (permits nmQ fbQ vt (ps.take (k + 1)) = S1) := by show _ = _; rw [HP1.out, hq]; simp
         have HF2 : Hid (forbids nmQ fbQ vt (ps.take (k + 1)) = S2 ++ [nmQ y]) := by show _ = _; rw [HF1.out, hq]; simp
         have HW2 : Hid (wrongs nmQ vt (ps.take (k + 1)) = S3) := by show _ = _; rw [HQ1.out]; simp
         clear HP1 HF1 HQ1 hfb hq
         go_wp2_with (at_builtin; refine wpList_append_own_at _ rfl (.tmp 56) (.tmp 59) 23 rfl (w5.heap.size + 1) 9 i0 _ 1 16 Tryz.underlying23 hi hi0 hi1 hi2 rfl (by omega) _ S2.length (S2.map encStr) rfl HRX.out.f ⟨w2.heap.size, 0, none⟩ 1 1 [.string y.p.name] rfl rfl (cell_one_new _ _ _) (by simp [Value.oneCell']) (by unfold maxLen; omega) (by omega) (by simp; omega) ?_; intro v6 w6 hown6 hgrow6 _ hloc6; obtain ⟨A6, c6, hv6, -⟩ := own_sl hown6; subst hv6; rw [HEN.out] at hown6; have HR6 := Lib.hid (HRX.out.growF hown6 hgrow6 hloc6); have HB6 : Hid (RowKit.Below w5.heap.size w5 w6) := (HB2.out.trans (HX2.out.mono HB2.out.size)).grown hgrow6 (by have := HB2.out.size; simp; omega) (fun q hq => by have := (own_lt HRX.out.f hq).1; omega); clear hown6 hgrow6 hloc6)
         exact ⟨⟨k + 1, _, by go_num, by omega, by rw [HP2.out, HF2.out, HW2.out]; exact HR6, HB6.out⟩, by simp [intOf]; omega⟩
       | false =>
         rw [hfb] at pc
         have hq : fbQ y = false := hfb
         have HP2 : Hid (permits nmQ fbQ vt (ps.take (k + 1)) = S1 ++ [nmQ y]) := by show _ = _; rw [HP1.out, hq]; simp
         have HF2 : Hid (forbids nmQ fbQ vt (ps.take (k + 1)) = S2) := by show _ = _; rw [HF1.out, hq]; simp
         have HW2 : Hid (wrongs nmQ vt (ps.take (k + 1)) = S3) := by show _ = _; rw [HQ1.out]; simp
         clear HP1 HF1 HQ1 hfb hq
         go_wp2_with (at_builtin; refine wpList_append_own_at _ rfl (.tmp 63) (.tmp 66) 23 rfl (w5.heap.size + 1) 9 i0 _ 1 16 Tryz.underlying23 hi hi0 hi1 hi2 rfl (by omega) _ S1.length (S1.map encStr) rfl HRX.out.p ⟨w2.heap.size, 0, none⟩ 1 1 [.string y.p.name] rfl rfl (cell_one_new _ _ _) (by simp [Value.oneCell']) (by unfold maxLen; omega) (by omega) (by simp; omega) ?_; intro v6 w6 hown6 hgrow6 _ hloc6; obtain ⟨A6, c6, hv6, -⟩ := own_sl hown6; subst hv6; rw [HEN.out] at hown6; have HR6 := Lib.hid (HRX.out.growP hown6 hgrow6 hloc6); have HB6 : Hid (RowKit.Below w5.heap.size w5 w6) := (HB2.out.trans (HX2.out.mono HB2.out.size)).grown hgrow6 (by have := HB2.out.size; simp; omega) (fun q hq => by have := (own_lt HRX.out.p hq).1; omega); clear hown6 hgrow6 hloc6)
         exact ⟨⟨k + 1, _, by go_num, by omega, by rw [HP2.out, HF2.out, HW2.out]; exact HR6, HB6.out⟩, by simp [intOf]; omega⟩
     · have HP2 : Hid (permits nmQ fbQ vt (ps.take (k + 1)) = S1) := by show _ = _; rw [HP1.out]; simp
       have HF2 : Hid (forbids nmQ fbQ vt (ps.take (k + 1)) = S2) := by show _ = _; rw [HF1.out]; simp
       have HW2 : Hid (wrongs nmQ vt (ps.take (k + 1)) = S3) := by show _ = _; rw [HQ1.out]; simp
       clear HP1 HF1 HQ1
       go_wp2_with fail
       exact ⟨⟨k + 1, _, by go_num, by omega, by rw [HP2.out, HF2.out, HW2.out]; exact HR2, HB2.out⟩, by simp [intOf]; omega⟩
     · have HP2 : Hid (permits nmQ fbQ vt (ps.take (k + 1)) = S1) := by show _ = _; rw [HP1.out]; simp
       have HF2 : Hid (forbids nmQ fbQ vt (ps.take (k + 1)) = S2) := by show _ = _; rw [HF1.out]; simp
       have HW2 : Hid (wrongs nmQ vt (ps.take (k + 1)) = S3 ++ [nmQ y]) := by show _ = _; rw [HQ1.out]; simp
       clear HP1 HF1 HQ1
       go_wp2_with (at_builtin; refine wpList_append_own_at _ rfl (.tmp 44) (.tmp 47) 23 rfl (w5.heap.size + 1) 9 i0 _ 1 16 Tryz.underlying23 hi hi0 hi1 hi2 rfl (by omega) _ S3.length (S3.map encStr) rfl HRX.out.ww ⟨w2.heap.size, 0, none⟩ 1 1 [.string y.p.name] rfl rfl (cell_one_new _ _ _) (by simp [Value.oneCell']) (by unfold maxLen; omega) (by omega) (by simp; omega) ?_; intro v6 w6 hown6 hgrow6 _ hloc6; obtain ⟨A6, c6, hv6, -⟩ := own_sl hown6; subst hv6; rw [HEN.out] at hown6; obtain ⟨hA6, hR6⟩ := HRX.out.growW hown6 hgrow6 hloc6; have HR6 := Lib.hid hR6; have HB6 : Hid (RowKit.Below w5.heap.size w5 w6) := (HB2.out.trans (HX2.out.mono HB2.out.size)).grown hgrow6 (by have := HB2.out.size; simp; omega) (fun q hq => by have := (own_lt HRX.out.ww hq).1; omega); have ac6 := hA6.cell; have af6 := hA6.frozen; have al6 := hA6.lt; clear hA6 hR6 hown6 hgrow6 hloc6)
       exact ⟨⟨k + 1, _, by go_num, by omega, by rw [HP2.out, HF2.out, HW2.out]; exact HR6, HB6.out.setCell (Nat.le_refl _) _⟩, by simp [intOf]; omega⟩
   · have HTK : Hid (ps.take k = ps) := by show _ = _; rw [List.take_of_length_le (by omega)]
     rw [HTK.out] at HR ⊢
     rw [HWR.out] at HR
     have rb := F1.out.below hbr F1.out.lt
     have rc := rb.cell
     have rf := rb.frozen
     have rl := rb.lt
     have ac := HR.out.a.cell
     have af := HR.out.a.frozen
     have al := HR.out.a.lt
     have hne : w.heap.size + 1 < w5.heap.size := F1.out.lt
     have HWr : Hid (RowKit.Below w.heap.size w wr) := hwr
     have hOB := HOB.out
     have hBY := HBY.out
     unfold allowP at hOB
     unfold byP at hBY
     generalize permits nmQ fbQ vt ps = S1 at HR hOB hBY ⊢
     generalize forbids nmQ fbQ vt ps = S2 at HR hOB hBY ⊢
     obtain ⟨A1', c1', e1, l1, m1, -⟩ := own_strs2 HR.out.p rfl
     injection e1 with e1 _ e1'
     subst e1 e1'
     obtain ⟨A2', c2', e2, l2, m2, -⟩ := own_strs2 HR.out.f rfl
     injection e2 with e2 _ e2'
     subst e2 e2'
     obtain ⟨A3', c3', e3, l3, m3, -⟩ := own_strs2 HR.out.ww rfl
     injection e3 with e3 _ e3'
     subst e3 e3'
     have HP1 : Hid (∀ b, (Value.slice Ap S1.length cp).ownBlock = some b → w5.heap.size + 1 ≤ b) := fun b h => (own_lt HR.out.p h).1
     have HP2 : Hid (∀ b, (Value.slice Af S2.length cf).ownBlock = some b → w5.heap.size + 1 ≤ b) := fun b h => (own_lt HR.out.f h).1
     have HP3 : Hid (∀ b, (Value.slice Aw WR.length cw).ownBlock = some b → w5.heap.size + 1 ≤ b) := fun b h => (own_lt HR.out.ww h).1
     clear hwr hbr rb hcp hcf hcw HOB HBY HWR
     by_cases g2 : S2 = []
     · rw [if_pos g2] at hBY
       subst hBY
       by_cases g1 : S1 = []
       · have hb : OB = false := by rw [← hOB, g1]; simp
         subst hb
         subst g1
         subst g2
         clear hOB
         go_wp2_with fail
         refine bodyPost_ret (v := .tuple #[.agg #[.bool false, .slice Ap 0 cp, .slice Aw WR.length cw], .nilIface]) (by simp [results, Tryz.results34, go_sem, rc]) rfl ⟨Ap, cp, Aw, cw, rfl, m1, l3, m3, ?_, ?_, ?_⟩
         · refine own_sl_str (base := w5.heap.size + 1) (c := cp) ?_
           (repeat (refine own_far2 ?_ (fun e => by first | exact absurd (HP1.out _ e) (by show ¬ (w5.heap.size + 1 ≤ w5.heap.size); omega) | exact absurd (HP1.out _ e) (by show ¬ (w5.heap.size + 1 ≤ w.heap.size + 1); omega)) _))
           exact HR.out.p
         · refine own_sl_str (base := w5.heap.size + 1) (c := cw) ?_
           (repeat (refine own_far2 ?_ (fun e => by first | exact absurd (HP3.out _ e) (by show ¬ (w5.heap.size + 1 ≤ w5.heap.size); omega) | exact absurd (HP3.out _ e) (by show ¬ (w5.heap.size + 1 ≤ w.heap.size + 1); omega)) _))
           exact HR.out.ww
         · repeat (first | exact HWr.out | (refine RowKit.Below.setCell ?_ (by first | (simp; done) | (simp; omega)) _))
       · have hb : OB = true := by rw [← hOB, g2]; cases S1 with | nil => exact absurd rfl g1 | cons a r => rfl
         subst hb
         subst g2
         have q0 := List.length_pos_iff.2 g1
         have q1 : (0 : Int) < (S1.length : Int) := by omega
         clear hOB g1
         go_wp2_with fail
         refine bodyPost_ret (v := .tuple #[.agg #[.bool true, .slice Ap S1.length cp, .slice Aw WR.length cw], .nilIface]) (by simp [results, Tryz.results34, go_sem, rc]) rfl ⟨Ap, cp, Aw, cw, rfl, l1, m1, l3, m3, ?_, ?_, ?_⟩
         · refine own_sl_str (base := w5.heap.size + 1) (c := cp) ?_
           (repeat (refine own_far2 ?_ (fun e => by first | exact absurd (HP1.out _ e) (by show ¬ (w5.heap.size + 1 ≤ w5.heap.size); omega) | exact absurd (HP1.out _ e) (by show ¬ (w5.heap.size + 1 ≤ w.heap.size + 1); omega)) _))
           exact HR.out.p
         · refine own_sl_str (base := w5.heap.size + 1) (c := cw) ?_
           (repeat (refine own_far2 ?_ (fun e => by first | exact absurd (HP3.out _ e) (by show ¬ (w5.heap.size + 1 ≤ w5.heap.size); omega) | exact absurd (HP3.out _ e) (by show ¬ (w5.heap.size + 1 ≤ w.heap.size + 1); omega)) _))
           exact HR.out.ww
         · repeat (first | exact HWr.out | (refine RowKit.Below.setCell ?_ (by first | (simp; done) | (simp; omega)) _))
     · rw [if_neg g2] at hBY
       subst hBY
       have hb : OB = false := by rw [← hOB]; cases S2 with | nil => exact absurd rfl g2 | cons a r => rfl
       subst hb
       have q2 : (0 : Int) < (S2.length : Int) := by have := List.length_pos_iff.2 g2; omega
       have q3 : ((S2.length : Int) == 0) = false := by simpa using g2
       clear hOB g2
       go_wp2_with fail
       refine bodyPost_ret (v := .tuple #[.agg #[.bool false, .slice Af S2.length cf, .slice Aw WR.length cw], .nilIface]) (by simp [results, Tryz.results34, go_sem, rc]) rfl ⟨Af, cf, Aw, cw, rfl, l2, m2, l3, m3, ?_, ?_, ?_⟩
       · refine own_sl_str (base := w5.heap.size + 1) (c := cf) ?_
         (repeat (refine own_far2 ?_ (fun e => by first | exact absurd (HP2.out _ e) (by show ¬ (w5.heap.size + 1 ≤ w5.heap.size); omega) | exact absurd (HP2.out _ e) (by show ¬ (w5.heap.size + 1 ≤ w.heap.size + 1); omega)) _))
         exact HR.out.f
       · refine own_sl_str (base := w5.heap.size + 1) (c := cw) ?_
         (repeat (refine own_far2 ?_ (fun e => by first | exact absurd (HP3.out _ e) (by show ¬ (w5.heap.size + 1 ≤ w5.heap.size); omega) | exact absurd (HP3.out _ e) (by show ¬ (w5.heap.size + 1 ≤ w.heap.size + 1); omega)) _))
         exact HR.out.ww
       · repeat (first | exact HWr.out | (refine RowKit.Below.setCell ?_ (by first | (simp; done) | (simp; omega)) _))
end Go.Proofs.YtpheiojmcafolaaGreatDoor
namespace Go.Proofs.YtpheiojmcafolaaGreatDoor
set_option maxRecDepth 100000
open Go.RowKit Go.Sort
def uA : Ud := ⟨⟨#[65]⟩, ⟨#[]⟩⟩
def nR : Nd := ⟨6, 0, ⟨#[]⟩, ⟨#[]⟩⟩
def rqP : Rq := ⟨uA, uA, uA, [nR]⟩
theorem rq_P : rqErr rqP = 0 := by
 simp [rqErr, rqP, uA, udErr, nR, nameErr, textErr, valErr, vGo, shapedV, opH, nameB, letterI, digitI, ByteArray.toList_mk]
def pA : Po := ⟨⟨#[97]⟩, false, ⟨0, ⟨#[]⟩, ⟨⟨#[]⟩, ⟨#[]⟩⟩⟩, ⟨0, ⟨#[]⟩, ⟨⟨#[]⟩, ⟨#[]⟩⟩⟩, ⟨0, ⟨#[]⟩, ⟨⟨#[]⟩, ⟨#[]⟩⟩⟩, []⟩
def pmA : PoM := ⟨pA, [], none, 0⟩
theorem polA : polErr pA = 0 := by
 have hn : nameErr pA.name.toList = 0 := by show nameErr (⟨#[97]⟩ : ByteArray).toList = 0; rw [ByteArray.toList_eq]; decide
 have hs : ∀ b, scOk ⟨0, ⟨#[]⟩, ⟨⟨#[]⟩, ⟨#[]⟩⟩⟩ b = true := fun b => by simp [scOk, udNone, emp, ByteArray.toList_eq]
 unfold polErr
 rw [if_neg (by simp [hn]), if_neg (by show ¬ (scOk _ true = false ∨ scOk _ false = false ∨ scOk _ true = false); simp [pA, hs]), if_neg (by simp [pA])]
 rfl
theorem exprPA : (exprP pA).2 = 0 := by
 have he : exprE pA = [opN 11, opN 11, ⟨1, 1, eB, eB⟩, ⟨1, 1, eB, eB⟩, ⟨1, 1, eB, eB⟩] := rfl
 unfold exprP
 rw [if_neg (by simp [polA]), he, if_neg (by simp)]
theorem ents_no (w : World) : EntsIn w none [] [] := ⟨SlG.nil _ _ _, ⟨rfl, by simp⟩, by simp, by simp, by simp⟩
theorem ent_no : entErr [] = 0 := by simp [entErr, fnz, cycB]
theorem vtA : vtQ [] rqP pmA = 1 := by
 obtain ⟨h1, h2, h3⟩ := exprP_tree exprPA
 have hv : valueR [] rqP (exprP pA).1 = .ok [bN true] := by
   unfold valueR
   rw [if_neg (by simp [ent_no]), if_neg (by simp [rq_P]), if_neg (by simp [h3])]
   show evX [] rqP (exprP pA).1 = _
   rw [h2, pol_means [] rqP rq_P polA (by simp [pA]) (by simp [pA])]
   have hs : scopesB [] rqP pA = true := by simp [scopesB, fitsB, pA]
   rw [if_pos hs]
   rfl
 unfold vtQ
 show (match valueR [] rqP (exprP pA).1 with | .ok v => if opH v = 1 then (if nH v = 1 then (1 : Int) else 0) else -1 | .bad _ => -1) = 1
 rw [hv]; rfl
def xA (qa : Option Addr) (qc : Nat) : Aq := ⟨[], [], none, 0, rqP, qa, qc⟩
theorem askA (qa : Option Addr) (qc : Nat) : askErr (xA qa qc) [pmA] = 0 := by
 have h : aErr [pmA] = 0 := by
   refine (auth_ok nmQ pe1Q pe2Q [pmA]).2 ⟨by simp, fun p hp => ?_, by simp⟩
   simp at hp
   subst hp
   refine ⟨polA, ?_⟩
   show (if (exprP pA).2 ≠ 0 then (exprP pA).2 else if slotsP pA = [] then 0 else 1) = 0
   rw [if_neg (by simp [exprPA])]
   exact if_pos rfl
 unfold askErr firstI
 rw [show (xA qa qc).es = [] from rfl, show (xA qa qc).q = rqP from rfl, if_neg (by simp [ent_no]), if_neg (by simp [h]), rq_P]
theorem posA (W : World) (T : TypeId) : PosIn (W.alloc (.cells #[.string pA.name, .bool pA.forbid, .int .i64 pA.who.op, .string pA.who.ty, .string pA.who.uid.ty, .string pA.who.uid.id, .int .i64 pA.act.op, .string pA.act.ty, .string pA.act.uid.ty, .string pA.act.uid.id, .int .i64 pA.what.op, .string pA.what.ty, .string pA.what.uid.ty, .string pA.what.uid.id, .slice none 0 0] T)) (some ⟨W.heap.size, 0, none⟩) [pmA] := by
 refine ⟨fun _ => ⟨W.heap.size, 0, rfl, by simp, fun i x hx => ?_⟩, fun x hx => ?_⟩
 · cases i with
   | succ i => simp at hx
   | zero =>
     simp at hx; subst hx
     intro j u hu
     rw [World.cell?_alloc_new]
     simp only [Nat.zero_mul, Nat.zero_add]
     rw [← hu]
     simp [PoM.cells, pmA]
 · simp at hx; subst hx
   exact ⟨rfl, Nat.le_refl _, by show 0 ≤ 9223372036854775807; omega, ⟨by decide, ⟨by decide, by decide, by decide⟩, ⟨by decide, by decide, by decide⟩, ⟨by decide, by decide, by decide⟩⟩, ⟨SlG.nil _ _ _, by simp [pmA]⟩, by simp [pmA]⟩
theorem aqA {w : World} (hg : ErrCell w) {qa : Option Addr} {qc : Nat} (h1 : NdSl w w.heap.size qa [nR]) (h2 : 1 ≤ qc ∧ qc ≤ 9223372036854775807) : AqIn (xA qa qc) w := by
 have hr : NdOk [nR] := by intro x hx; simp at hx; subst hx; exact ⟨Nat.zero_le _, Nat.zero_le _⟩
 have hri : NdI [nR] := by intro x hx; simp at hx; subst hx; unfold I64 nR; simp
 have hu : UdOk uA := ⟨by simp [uA, ByteArray.size], Nat.zero_le _⟩
 exact ⟨ents_no w, by simp [xA], Nat.le_refl _, h1, h2, hr, hri, ⟨hu, hu, hu⟩, hg⟩
theorem str_at' {w : World} {B : Nat} {A : Option Addr} {ss : List (List UInt8)} (h : StrSl w B A ss) {i : Nat} {x : List UInt8} (hx : ss[i]? = some x) : ∃ b o, A = some ⟨b, o, none⟩ ∧ b < B ∧ ∀ j l, ss[j]? = some l → ∃ s : ByteArray, w.cell? ⟨b, o + j, none⟩ = some (.string s) ∧ s.toList = l := by
 obtain ⟨b, o, e, hb, hc⟩ := h.at_ (List.getElem?_eq_some_iff.1 hx).1
 exact ⟨b, o, e, hb, fun j l hl => ⟨bsL l, hc j l hl, bsL_toList l⟩⟩
theorem law_among (s : ByteArray) (ss : List (List UInt8)) (A : Option Addr) (c : Nat) (w : World) (hs : StrSl w w.heap.size A ss) (hl : ss.length ≤ 9223372036854775807) :
   Calls Tryz.prog 36 #[.string s, .slice A ss.length c] w fun e w' => e = .returned (.bool (ss.contains s.toList)) ∧ w = w' := by
 obtain ⟨q, hq⟩ : ∃ q, ss.contains s.toList = q := ⟨_, rfl⟩
 rw [hq]
 have HQ := Lib.hid hq
 have HS := Lib.hid hs
 clear hq hs
 go_enter Tryz.func36, Tryz.ntmps36
 go_wp2_with fail
 go_loop [5] (fun ii => ∃ k : Nat, ii = .int .i64 k ∧ k ≤ ss.length ∧ Hid (s.toList ∉ ss.take k)) (fun ii => ss.length - (intOf ii).toNat)
 case atStart => exact ⟨0, rfl, by omega, by simp [Hid]⟩
 case round =>
   obtain ⟨k, rfl, hk, HK⟩ := hrel
   by_cases hlt : k < ss.length
   · obtain ⟨x, hx⟩ : ∃ x, ss[k]? = some x := ⟨_, List.getElem?_eq_getElem hlt⟩
     obtain ⟨b, o, rfl, hb, hcs⟩ := str_at' HS.out hx
     obtain ⟨sx, c0, hsx⟩ := hcs k x hx
     have HX := Lib.hid hx
     have HSX := Lib.hid hsx
     clear hx hcs hsx
     by_cases hm : sx.toList = s.toList
     · have tm : (sx.toList == s.toList) = true := by simp [hm]
       have hv : Hid (q = true) := by
         show _ = _
         rw [← HQ.out, ← hm, HSX.out]
         simpa using List.mem_of_getElem? HX.out
       clear hm
       go_wp2_with fail
       go_ret
       rw [hv.out]
       exact ⟨rfl, rfl⟩
     · have tm : (sx.toList == s.toList) = false := by simp [hm]
       have HK2 : Hid (s.toList ∉ ss.take (k + 1)) := by
         show _ ∉ _
         rw [List.take_add_one, HX.out]
         simp only [Option.toList, List.mem_append, List.mem_singleton, not_or]
         exact ⟨HK.out, fun h => hm (by rw [HSX.out, h])⟩
       clear hm
       go_wp2_with fail
       exact ⟨⟨k + 1, by go_num, by omega, HK2⟩, by simp [intOf]; omega⟩
   · have hv : Hid (q = false) := by
       show _ = _
       have := HK.out
       rw [List.take_of_length_le (by omega)] at this
       rw [← HQ.out]
       simpa using this
     go_wp2_with fail
     go_ret
     rw [hv.out]
     exact ⟨rfl, rfl⟩
set_option maxHeartbeats 6400000 in
theorem law_permitted (w : World) (hg : ErrCell w) : Calls Tryz.prog 33 #[] w fun r w' => r = .returned (.bool true) ∧ RowKit.Below w.heap.size w w' := by
 have h1 : RowKit.Below w.heap.size w (w.alloc (.cells #[.string ⟨#[65]⟩, .string ⟨#[]⟩] 34)) := by (repeat (first | assumption | exact Below.refl _ _ | apply Below.drew | apply below_drewN | (refine Below.alloc ?_ (by first | exact Nat.le_refl _ | omega | (simp; done) | (simp; omega)) _)))
 have h2 : RowKit.Below w.heap.size w ((w.alloc (.cells #[.string ⟨#[65]⟩, .string ⟨#[]⟩] 34)).alloc (.cells #[.string ⟨#[97]⟩, .bool false, .int .i64 0, .string ⟨#[]⟩, .string ⟨#[]⟩, .string ⟨#[]⟩, .int .i64 0, .string ⟨#[]⟩, .string ⟨#[]⟩, .string ⟨#[]⟩, .int .i64 0, .string ⟨#[]⟩, .string ⟨#[]⟩, .string ⟨#[]⟩, .slice none 0 0] 47)) := by (repeat (first | assumption | exact Below.refl _ _ | apply Below.drew | apply below_drewN | (refine Below.alloc ?_ (by first | exact Nat.le_refl _ | omega | (simp; done) | (simp; omega)) _)))
 have h3 : RowKit.Below w.heap.size w (((w.alloc (.cells #[.string ⟨#[65]⟩, .string ⟨#[]⟩] 34)).alloc (.cells #[.string ⟨#[97]⟩, .bool false, .int .i64 0, .string ⟨#[]⟩, .string ⟨#[]⟩, .string ⟨#[]⟩, .int .i64 0, .string ⟨#[]⟩, .string ⟨#[]⟩, .string ⟨#[]⟩, .int .i64 0, .string ⟨#[]⟩, .string ⟨#[]⟩, .string ⟨#[]⟩, .slice none 0 0] 47)).alloc (.cells #[.int .i64 6, .int .i64 0, .string ⟨#[]⟩, .string ⟨#[]⟩] 37)) := by (repeat (first | assumption | exact Below.refl _ _ | apply Below.drew | apply below_drewN | (refine Below.alloc ?_ (by first | exact Nat.le_refl _ | omega | (simp; done) | (simp; omega)) _)))
 have hp : PosIn (((w.alloc (.cells #[.string ⟨#[65]⟩, .string ⟨#[]⟩] 34)).alloc (.cells #[.string ⟨#[97]⟩, .bool false, .int .i64 0, .string ⟨#[]⟩, .string ⟨#[]⟩, .string ⟨#[]⟩, .int .i64 0, .string ⟨#[]⟩, .string ⟨#[]⟩, .string ⟨#[]⟩, .int .i64 0, .string ⟨#[]⟩, .string ⟨#[]⟩, .string ⟨#[]⟩, .slice none 0 0] 47)).alloc (.cells #[.int .i64 6, .int .i64 0, .string ⟨#[]⟩, .string ⟨#[]⟩] 37)) (some ⟨w.heap.size + 1, 0, none⟩) [pmA] := by
   have h := posA (w.alloc (.cells #[.string ⟨#[65]⟩, .string ⟨#[]⟩] 34)) 47
   rw [show (w.alloc (.cells #[.string ⟨#[65]⟩, .string ⟨#[]⟩] 34)).heap.size = w.heap.size + 1 from World.size_alloc _ _] at h
   exact h.later (by (repeat (first | assumption | exact Below.refl _ _ | apply Below.drew | apply below_drewN | (refine Below.alloc ?_ (by first | exact Nat.le_refl _ | omega | (simp; done) | (simp; omega)) _))))
 have hn : NdSl (((w.alloc (.cells #[.string ⟨#[65]⟩, .string ⟨#[]⟩] 34)).alloc (.cells #[.string ⟨#[97]⟩, .bool false, .int .i64 0, .string ⟨#[]⟩, .string ⟨#[]⟩, .string ⟨#[]⟩, .int .i64 0, .string ⟨#[]⟩, .string ⟨#[]⟩, .string ⟨#[]⟩, .int .i64 0, .string ⟨#[]⟩, .string ⟨#[]⟩, .string ⟨#[]⟩, .slice none 0 0] 47)).alloc (.cells #[.int .i64 6, .int .i64 0, .string ⟨#[]⟩, .string ⟨#[]⟩] 37)) (((w.alloc (.cells #[.string ⟨#[65]⟩, .string ⟨#[]⟩] 34)).alloc (.cells #[.string ⟨#[97]⟩, .bool false, .int .i64 0, .string ⟨#[]⟩, .string ⟨#[]⟩, .string ⟨#[]⟩, .int .i64 0, .string ⟨#[]⟩, .string ⟨#[]⟩, .string ⟨#[]⟩, .int .i64 0, .string ⟨#[]⟩, .string ⟨#[]⟩, .string ⟨#[]⟩, .slice none 0 0] 47)).alloc (.cells #[.int .i64 6, .int .i64 0, .string ⟨#[]⟩, .string ⟨#[]⟩] 37)).heap.size (some ⟨w.heap.size + 1 + 1, 0, none⟩) [nR] := by
   have h : NdSl (((w.alloc (.cells #[.string ⟨#[65]⟩, .string ⟨#[]⟩] 34)).alloc (.cells #[.string ⟨#[97]⟩, .bool false, .int .i64 0, .string ⟨#[]⟩, .string ⟨#[]⟩, .string ⟨#[]⟩, .int .i64 0, .string ⟨#[]⟩, .string ⟨#[]⟩, .string ⟨#[]⟩, .int .i64 0, .string ⟨#[]⟩, .string ⟨#[]⟩, .string ⟨#[]⟩, .slice none 0 0] 47)).alloc (.cells #[.int .i64 6, .int .i64 0, .string ⟨#[]⟩, .string ⟨#[]⟩] 37)) (((w.alloc (.cells #[.string ⟨#[65]⟩, .string ⟨#[]⟩] 34)).alloc (.cells #[.string ⟨#[97]⟩, .bool false, .int .i64 0, .string ⟨#[]⟩, .string ⟨#[]⟩, .string ⟨#[]⟩, .int .i64 0, .string ⟨#[]⟩, .string ⟨#[]⟩, .string ⟨#[]⟩, .int .i64 0, .string ⟨#[]⟩, .string ⟨#[]⟩, .string ⟨#[]⟩, .slice none 0 0] 47)).alloc (.cells #[.int .i64 6, .int .i64 0, .string ⟨#[]⟩, .string ⟨#[]⟩] 37)).heap.size (some ⟨((w.alloc (.cells #[.string ⟨#[65]⟩, .string ⟨#[]⟩] 34)).alloc (.cells #[.string ⟨#[97]⟩, .bool false, .int .i64 0, .string ⟨#[]⟩, .string ⟨#[]⟩, .string ⟨#[]⟩, .int .i64 0, .string ⟨#[]⟩, .string ⟨#[]⟩, .string ⟨#[]⟩, .int .i64 0, .string ⟨#[]⟩, .string ⟨#[]⟩, .string ⟨#[]⟩, .slice none 0 0] 47)).heap.size, 0, none⟩) [nR] := NdSl.of_flat (by simp) fun j u hu => by rw [World.cell?_alloc_new, ← hu]; simp [flat, Nd.cells, nR]
   rwa [show ((w.alloc (.cells #[.string ⟨#[65]⟩, .string ⟨#[]⟩] 34)).alloc (.cells #[.string ⟨#[97]⟩, .bool false, .int .i64 0, .string ⟨#[]⟩, .string ⟨#[]⟩, .string ⟨#[]⟩, .int .i64 0, .string ⟨#[]⟩, .string ⟨#[]⟩, .string ⟨#[]⟩, .int .i64 0, .string ⟨#[]⟩, .string ⟨#[]⟩, .string ⟨#[]⟩, .slice none 0 0] 47)).heap.size = w.heap.size + 1 + 1 from by rw [World.size_alloc, World.size_alloc]] at h
 have HA : Hid (Calls Tryz.prog 34 #[.slice none 0 0, .slice (some ⟨w.heap.size + 1, 0, none⟩) 1 1, .agg #[.string ⟨#[65]⟩, .string ⟨#[]⟩, .string ⟨#[65]⟩, .string ⟨#[]⟩, .string ⟨#[65]⟩, .string ⟨#[]⟩, .slice (some ⟨w.heap.size + 1 + 1, 0, none⟩) 1 1]] (((w.alloc (.cells #[.string ⟨#[65]⟩, .string ⟨#[]⟩] 34)).alloc (.cells #[.string ⟨#[97]⟩, .bool false, .int .i64 0, .string ⟨#[]⟩, .string ⟨#[]⟩, .string ⟨#[]⟩, .int .i64 0, .string ⟨#[]⟩, .string ⟨#[]⟩, .string ⟨#[]⟩, .int .i64 0, .string ⟨#[]⟩, .string ⟨#[]⟩, .string ⟨#[]⟩, .slice none 0 0] 47)).alloc (.cells #[.int .i64 6, .int .i64 0, .string ⟨#[]⟩, .string ⟨#[]⟩] 37)) fun r w' => ∃ A1 c1 A2 c2 n2, r = .returned (.tuple #[.agg #[.bool true, .slice A1 1 c1, .slice A2 n2 c2], .nilIface]) ∧ RowKit.Below (((w.alloc (.cells #[.string ⟨#[65]⟩, .string ⟨#[]⟩] 34)).alloc (.cells #[.string ⟨#[97]⟩, .bool false, .int .i64 0, .string ⟨#[]⟩, .string ⟨#[]⟩, .string ⟨#[]⟩, .int .i64 0, .string ⟨#[]⟩, .string ⟨#[]⟩, .string ⟨#[]⟩, .int .i64 0, .string ⟨#[]⟩, .string ⟨#[]⟩, .string ⟨#[]⟩, .slice none 0 0] 47)).alloc (.cells #[.int .i64 6, .int .i64 0, .string ⟨#[]⟩, .string ⟨#[]⟩] 37)).heap.size (((w.alloc (.cells #[.string ⟨#[65]⟩, .string ⟨#[]⟩] 34)).alloc (.cells #[.string ⟨#[97]⟩, .bool false, .int .i64 0, .string ⟨#[]⟩, .string ⟨#[]⟩, .string ⟨#[]⟩, .int .i64 0, .string ⟨#[]⟩, .string ⟨#[]⟩, .string ⟨#[]⟩, .int .i64 0, .string ⟨#[]⟩, .string ⟨#[]⟩, .string ⟨#[]⟩, .slice none 0 0] 47)).alloc (.cells #[.int .i64 6, .int .i64 0, .string ⟨#[]⟩, .string ⟨#[]⟩] 37)) w') := by
   have h := auth_Ask_ok (xA (some ⟨w.heap.size + 1 + 1, 0, none⟩) 1) [pmA] (some ⟨w.heap.size + 1, 0, none⟩) 1 (((w.alloc (.cells #[.string ⟨#[65]⟩, .string ⟨#[]⟩] 34)).alloc (.cells #[.string ⟨#[97]⟩, .bool false, .int .i64 0, .string ⟨#[]⟩, .string ⟨#[]⟩, .string ⟨#[]⟩, .int .i64 0, .string ⟨#[]⟩, .string ⟨#[]⟩, .string ⟨#[]⟩, .int .i64 0, .string ⟨#[]⟩, .string ⟨#[]⟩, .string ⟨#[]⟩, .slice none 0 0] 47)).alloc (.cells #[.int .i64 6, .int .i64 0, .string ⟨#[]⟩, .string ⟨#[]⟩] 37)) (aqA (hg.below h3 hg.lt) hn ⟨Nat.le_refl _, by omega⟩) hp (askA _ _)
   refine Calls.mono h ?_
   rintro r w' ⟨A1, c1, A2, c2, rfl, _, _, _, _, _, _, hb⟩
   have e1 : allowP nmQ fbQ (vtQ (xA (some ⟨w.heap.size + 1 + 1, 0, none⟩) 1).es (xA (some ⟨w.heap.size + 1 + 1, 0, none⟩) 1).q) [pmA] = true := alone_allow.2 ⟨vtA, rfl⟩
   have e2 : (byP nmQ fbQ (vtQ (xA (some ⟨w.heap.size + 1 + 1, 0, none⟩) 1).es (xA (some ⟨w.heap.size + 1 + 1, 0, none⟩) 1).q) [pmA]).length = 1 := by rw [alone_by]; exact if_pos vtA
   exact ⟨A1, c1, A2, c2, _, by rw [e1, e2, errV_zero], hb⟩
 have HC := Lib.hid h3
 clear h1 h2 h3 hp hn hg
 go_enter Tryz.func33, Tryz.ntmps33
 go_wp2_with fail
 refine HA.out.mono ?_
 rintro r w4 ⟨A1, c1, A2, c2, n2, rfl, hb4⟩
 have HB4 := Lib.hid (HC.out.trans (hb4.mono HC.out.size))
 clear hb4 HA
 go_wp2_with fail
 go_ret
 exact ⟨rfl, HB4.out.alloc HB4.out.size _⟩
end Go.Proofs.YtpheiojmcafolaaGreatDoor
namespace Go.Proofs.YtpheiojmcafolaaGreatDoor
open Go.RowKit Go.Sort
set_option maxHeartbeats 800000 in
theorem same_Texts (ss : List (List UInt8)) (A1 A2 : Option Addr) (c1 c2 : Nat) (w : World) (h1 : StrSl w w.heap.size A1 ss) (h2 : StrSl w w.heap.size A2 ss) (l1 : ss.length ≤ 9223372036854775807) :
   Calls Tryz.prog 37 #[.slice A1 ss.length c1, .slice A2 ss.length c2] w fun r w' => r = .returned (.bool true) ∧ RowKit.Below w.heap.size w w' := by
 have H1 := Lib.hid h1
 have H2 := Lib.hid h2
 have hne : ((ss.length : Int) != (ss.length : Int)) = false := by simp
 clear h1 h2
 go_enter Tryz.func37, Tryz.ntmps37
 go_wp2_with fail
 go_loopw [5] (fun kk wr => ∃ k : Nat, kk = .int .i64 k ∧ k ≤ ss.length ∧ RowKit.Below w.heap.size w wr) (fun kk _ => ss.length - (intOf kk).toNat)
 case atStart => exact ⟨0, rfl, by omega, RowKit.Below.refl _ _⟩
 case round =>
   obtain ⟨k, rfl, hk, hbr⟩ := hrel
   by_cases hlt : k < ss.length
   · obtain ⟨b, o, rfl, hb, hcs⟩ := (H1.out.below hbr).at_ hlt
     obtain ⟨b2, o2, rfl, hb2, hcs2⟩ := (H2.out.below hbr).at_ hlt
     obtain ⟨x, hx⟩ : ∃ x, ss[k]? = some x := ⟨_, List.getElem?_eq_getElem hlt⟩
     have d0 := hcs k x hx
     have f0 := hcs2 k x hx
     clear hcs hcs2 hx
     go_wp2_with fail
     go_quiet (fail)
     go_wp2_with fail
     exact ⟨⟨k + 1, by go_num, by omega, below_drewN hbr _⟩, by simp [intOf]; omega⟩
   · go_wp2_with fail
     go_ret
     exact ⟨rfl, hbr⟩
end Go.Proofs.YtpheiojmcafolaaGreatDoor
namespace Go.Proofs.YtpheiojmcafolaaGreatDoor
open Go.RowKit
section
variable {α : Type} {nm : α → List UInt8} {fb : α → Bool} {pe1 pe2 : α → Int} {vt : α → Int}
theorem pick_ok {f : α → Bool} {ps : List α} (h : authErr nm pe1 pe2 ps = 0) : authErr nm pe1 pe2 (ps.filter f) = 0 := by
 obtain ⟨h1, h2, h3⟩ := (auth_ok nm pe1 pe2 ps).1 h
 refine (auth_ok nm pe1 pe2 _).2 ⟨Nat.le_trans (List.length_filter_le _ _) h1, fun p hp => h2 p (List.mem_filter.1 hp).1, ?_⟩
 exact List.Pairwise.sublist (List.filter_sublist.map _) h3
end
end Go.Proofs.YtpheiojmcafolaaGreatDoor
