/-
  THE WALKS: (*parser).sign.
  THE WALKS: (*parser).number, named, atom.
  THE WALKS of package tree: parts. THE WALKS: tree.shaped.
-/
import Derived.Test.YtbggbcnfkcadjaaGreatDoorPe07
import Derived.Test.YtbggbcnfkcadjaaGreatDoorPe02
import Derived.Test.YtbggbcnfkcadjaaGreatDoorPe06
import Derived.Test.YtbggbcnfkcadjaaGreatDoorPe01
namespace Go.Proofs.YtbggbcnfkcadjaaGreatDoor
set_option maxRecDepth 100000
open Go.RowKit Go.Sort
theorem l_not : (⟨#[33]⟩ : ByteArray).toList = [33] := bsOf_list [33]
theorem l_minus : (⟨#[45]⟩ : ByteArray).toList = [45] := bsOf_list [45]
theorem St.drew {x : Px} {w W : World} {i : Nat} (h : St x w W i) : St x w W.drew i := h.turn ((Only.refl _ _ _).drew) h.blk.drew h.le
theorem St.drewN {x : Px} {w W : World} {i : Nat} (h : St x w W i) (k : Nat) : St x w (W.drewN k) i := h.turn ((Only.refl _ _ _).drewN k) (h.blk.drewN k) h.le
theorem St.phs {x : Px} {w W : World} {i j b o : Nat} {t : Tk} (h : St x w W i) (ht : x.ts[j]? = some t) (hA : x.A = some ⟨b, o, none⟩) : PhS x i j b o t W := by
 obtain ⟨b', o', hA', hb, d0, d1, d2⟩ := h.inn.at_ ht
 rw [hA] at hA'; injection hA' with hA'; injection hA' with h1 h2; subst h1 h2
 exact ⟨by rw [← hA]; exact h.blk.cell 0, h.blk.cell 1, d0, d1, d2⟩
set_option maxHeartbeats 12800000 in
theorem ph_sign (x : Px) (f : Nat) (hs : Does x 194 (pa f .sign)) (hp : Does x 208 (fun ts => (pa f .atom ts).bind fun e r => pa f (.po e) r)) : Does x 194 (pa (f + 1) .sign) := by
 intro w i hx hB hi hnb
 have S0 := St.start hx hB hi
 have n1 : hdW [33] (x.ts.drop i) = hdS [33] (x.ts.drop i) := S0.sg (by decide) i
 have n2 : hdW [45] (x.ts.drop i) = hdS [45] (x.ts.drop i) := S0.sg (by decide) i
 have hlen := hx.len
 have hi64 : IntKind.wrap .i64 ((i : Int) + 1) = (i : Int) + 1 := IntWalk.i64_in _ (by omega)
 have HS0 := Lib.hid S0
 have HLT := Lib.hid hB.lt
 have HS := Lib.hid hs
 have HP := Lib.hid hp
 obtain ⟨Q, hQ⟩ : ∃ Q, pa (f + 1) .sign (x.ts.drop i) = Q := ⟨_, rfl⟩
 rw [hQ] at hnb ⊢
 have HN := Lib.hid hnb
 have hQ : (if hdS [33] (x.ts.drop i) = true then (pa f .sign (x.ts.drop i).tail).bind (fun e r => .ok (opX 9 e) r)
   else if hdS [45] (x.ts.drop i) = true ∧ hdK 2 (x.ts.drop i).tail = false then (pa f .sign (x.ts.drop i).tail).bind (fun e r => .ok (opX 10 e) r)
   else (pa f .atom (x.ts.drop i)).bind fun e r => pa f (.po e) r) = Q := hQ
 rw [tail_drop'] at hQ
 clear hx hB hs hp hnb S0
 cases b0 : hdS [33] (x.ts.drop i) with
 | true =>
   rw [b0] at n1
   rw [b0, if_pos rfl] at hQ
   have N1 := Lib.hid n1
   have HQ0 := Lib.hid hQ
   clear n1 n2 hQ b0 hi64 HP
   go_enter Tryz.func194, Tryz.ntmps194
   go_wp2_with fail
   refine (HS0.out.take_yes ⟨#[33]⟩ _ l_not N1.out).mono ?_
   rintro r w1 ⟨rfl, S1, o1⟩
   have XS1 := Lib.hid S1
   clear S1 o1  HS0
   go_wp2_with fail
   refine (XS1.out.call HS.out HN.out trivial HQ0.out).mono ?_
   rintro r w2 (⟨k, j, rfl, hp⟩ | ⟨A2, c2, e2, j2, rfl, E2, S2, o2, q2, l2, b2⟩)
   · have HP := Lib.hid hp
     clear hp
     go_wp2_with fail
     exact ⟨rfl, HP.out⟩
   have HE2 := Lib.hid E2
   have XS2 := Lib.hid S2
   have XQ2 := Lib.hid q2
   have HL2 : Hid (e2.length ≤ 300) := l2
   have HG2 := Lib.hid b2
   clear E2 S2 q2 l2 b2 o2  XS1 HQ0
   go_wp2_with fail
   refine (XS2.out.op 9 22 [⟨A2, c2, e2⟩] #[.slice A2 e2.length c2] rfl (mem1 HE2.out) (by have := HL2.out; simp [catN]; omega) (by simp) (E := opX 9 e2) (by simp [catN, opX])).mono ?_
   rintro r w3 ⟨A3, c3, rfl, E3, S3, o3⟩
   have HF := Lib.hid (S3.fin E3 XQ2.out)
   clear E3 S3 o3
   generalize opX 9 e2 = EE at HF ⊢
   go_wp2_with fail
   go_ret
   exact HF.out
 | false =>
   rw [b0] at n1
   rw [b0, if_neg (by simp)] at hQ
   have N1 := Lib.hid n1
   clear n1 b0
   cases b1 : hdS [45] (x.ts.drop i) with
   | false =>
     rw [b1] at n2
     rw [b1, if_neg (by simp)] at hQ
     have N2 := Lib.hid n2
     have HQ0 := Lib.hid hQ
     clear n2 hQ b1 hi64 HS
     go_enter Tryz.func194, Tryz.ntmps194
     go_wp2_with fail
     refine (HS0.out.take_no ⟨#[33]⟩ _ l_not N1.out).mono ?_
     rintro r w1 ⟨rfl, S1, o1⟩
     have XS1 := Lib.hid S1
     clear S1 o1  HS0
     go_wp2_with fail
     refine wp_region_ord (S := fun W => W.cell? ⟨x.pb, 1, none⟩ = some (.int .i64 i)) [(0, false), (1, true), (2, false), (3, false), (4, false), (5, false), (6, false), (7, false), (8, false), (9, false), (10, false), (11, false), (12, false), (13, false), (14, false), (15, false), (16, false), (17, false), (18, false), (19, false), (20, false), (21, false), (22, false), (23, false), (24, false), (25, false), (26, false), (27, false), (28, false), (29, false), (30, false), (31, false)] (by kernel_rfl) (by kernel_rfl) (fun _ _ _ _ _ h => h) (XS1.out.drew.blk.cell 1) (fun hW' => ?_)
     simp only [ordOps, List.filterMap_cons, List.filterMap_nil, List.getElem?_cons_zero, List.getElem?_cons_succ, Option.map_some]
     (repeat (first | (refine hd_take (v := ?_) (by rfl) ?_ ?_; rotate_left; (focus (intro W hW; obtain s0 := hW; go_simp; try with_reducible rfl)); simp only [Act.put, List.setIfInBounds_toArray, List.set_cons_zero, List.set_cons_succ]) | (refine hd_skip (by rfl) ?_; simp only [Act.put, List.setIfInBounds_toArray, List.set_cons_zero, List.set_cons_succ])))
     clear hW'
     refine hd_call (fun K hK => ?_)
     go_simp
     refine (XS1.out.drew.is ⟨#[45]⟩ [45] l_minus false N2.out).mono ?_
     rintro r w2 ⟨rfl, S2, -⟩
     refine hK _ _ (S2.blk.cell 1) ?_
     clear hK K
     (repeat (first | (refine hd_take (v := ?_) (by rfl) ?_ ?_; rotate_left; (focus (intro W hW; obtain s0 := hW; go_simp; try with_reducible rfl)); simp only [Act.put, List.setIfInBounds_toArray, List.set_cons_zero, List.set_cons_succ]) | (refine hd_skip (by rfl) ?_; simp only [Act.put, List.setIfInBounds_toArray, List.set_cons_zero, List.set_cons_succ])))
     refine hd_nil ?_
     have XS2 := Lib.hid S2
     clear S2 XS1
     go_wp2_with fail
     refine (XS2.out.last HP.out HN.out HQ0.out).mono ?_
     rintro r w9 (⟨k, j, rfl, hp⟩ | ⟨A9, c9, n9, rfl, hp⟩)
     · have HP := Lib.hid hp
       clear hp
       go_wp2_with fail
       exact ⟨rfl, HP.out⟩
     have HP := Lib.hid hp
     clear hp
     go_wp2_with fail
     go_ret
     exact HP.out
   | true =>
     rw [b1] at n2
     have N2 := Lib.hid n2
     have HL := Lib.hid (hd_lt (f := hdS [45]) rfl b1)
     by_cases hlt : i + 1 < x.ts.length
     case neg =>
       have hk : hdK 2 (x.ts.drop (i + 1)) = false := by rw [List.drop_eq_nil_of_le (by omega)]; rfl
       rw [if_pos ⟨b1, hk⟩] at hQ
       have HQ0 := Lib.hid hQ
       have tl : decide ((i : Int) + 1 < (x.ts.length : Int)) = false := by simp; omega
       clear n2 hQ b1 hk HP
       go_enter Tryz.func194, Tryz.ntmps194
       go_wp2_with fail
       refine (HS0.out.take_no ⟨#[33]⟩ _ l_not N1.out).mono ?_
       rintro r w1 ⟨rfl, S1, o1⟩
       have XS1 := Lib.hid S1
       clear S1 o1  HS0
       go_wp2_with fail
       refine wp_region_ord (S := fun W => W.cell? ⟨x.pb, 0, none⟩ = some (.slice x.A x.ts.length x.c) ∧ W.cell? ⟨x.pb, 1, none⟩ = some (.int .i64 i)) [(0, false), (1, true), (2, false), (3, false), (4, false), (5, false), (6, false), (7, false), (8, false), (9, false), (10, false), (11, false), (12, false), (13, false), (14, false), (15, false), (16, false), (17, false), (18, false), (19, false), (20, false), (21, false), (22, false), (23, false), (24, false), (25, false), (26, false), (27, false), (28, false), (29, false), (30, false), (31, false)] (by kernel_rfl) (by kernel_rfl) (fun _ _ _ _ _ h => h) ⟨XS1.out.drew.blk.cell 0, XS1.out.drew.blk.cell 1⟩ (fun hW' => ?_)
       simp only [ordOps, List.filterMap_cons, List.filterMap_nil, List.getElem?_cons_zero, List.getElem?_cons_succ, Option.map_some]
       (repeat (first | (refine hd_take (v := ?_) (by rfl) ?_ ?_; rotate_left; (focus (intro W hW; obtain ⟨s0, s1⟩ := hW; go_simp; try with_reducible rfl)); simp only [Act.put, List.setIfInBounds_toArray, List.set_cons_zero, List.set_cons_succ]) | (refine hd_skip (by rfl) ?_; simp only [Act.put, List.setIfInBounds_toArray, List.set_cons_zero, List.set_cons_succ])))
       clear hW'
       refine hd_call (fun K hK => ?_)
       go_simp
       refine (XS1.out.drew.is ⟨#[45]⟩ [45] l_minus true N2.out).mono ?_
       rintro r w2 ⟨rfl, S2, -⟩
       refine hK _ _ ⟨S2.blk.cell 0, S2.blk.cell 1⟩ ?_
       clear hK K
       (repeat (first | (refine hd_take (v := ?_) (by rfl) ?_ ?_; rotate_left; (focus (intro W hW; obtain ⟨s0, s1⟩ := hW; go_simp; try with_reducible rfl)); simp only [Act.put, List.setIfInBounds_toArray, List.set_cons_zero, List.set_cons_succ]) | (refine hd_skip (by rfl) ?_; simp only [Act.put, List.setIfInBounds_toArray, List.set_cons_zero, List.set_cons_succ])))
       refine hd_nil ?_
       have XS2 := Lib.hid S2
       clear S2 XS1
       clear hi64
       have sc := XS2.out.blk.cell 1
       have sf := XS2.out.blk.frozen 1
       have s64 := XS2.out.i64
       have sc1 : w2.cell? ⟨x.pb, 1, none⟩ = some (.int .i64 (i : Nat)) := sc
       clear sc
       go_wp2_with fail
       have XS3 := Lib.hid (XS2.out.step HL.out)
       clear sc1 sf s64  XS2
       generalize w2.setCell ⟨x.pb, 1, none⟩ (.int .i64 (((i : Nat) : Int) + 1)) = w3 at XS3  ⊢
       go_wp2_with fail
       refine (XS3.out.call HS.out HN.out trivial HQ0.out).mono ?_
       rintro r w4 (⟨k, j, rfl, hp⟩ | ⟨A4, c4, e4, j4, rfl, E4, S4, o4, q4, l4, b4⟩)
       · have HP := Lib.hid hp
         clear hp
         go_wp2_with fail
         exact ⟨rfl, HP.out⟩
       have HE4 := Lib.hid E4
       have XS4 := Lib.hid S4
       have XQ4 := Lib.hid q4
       have HL4 : Hid (e4.length ≤ 300) := l4
       have HG4 := Lib.hid b4
       clear E4 S4 q4 l4 b4 o4  XS3 HQ0
       go_wp2_with fail
       refine (XS4.out.op 10 22 [⟨A4, c4, e4⟩] #[.slice A4 e4.length c4] rfl (mem1 HE4.out) (by have := HL4.out; simp [catN]; omega) (by simp) (E := opX 10 e4) (by simp [catN, opX])).mono ?_
       rintro r w5 ⟨A5, c5, rfl, E5, S5, o5⟩
       have HF := Lib.hid (S5.fin E5 XQ4.out)
       clear E5 S5 o5
       generalize opX 10 e4 = EE at HF ⊢
       go_wp2_with fail
       go_ret
       exact HF.out
     case pos =>
     obtain ⟨u, hu⟩ : ∃ u, x.ts[i + 1]? = some u := ⟨_, List.getElem?_eq_getElem hlt⟩
     obtain ⟨b, o, hA, -⟩ := HS0.out.inn.at_ hu
     have ti := tok_at1 b o x.ts.length x.c i hlt
     have tl : decide ((i : Int) + 1 < (x.ts.length : Int)) = true := by simp; omega
     have HU := Lib.hid hu
     have HA := Lib.hid hA
     by_cases hk2 : u.kind = 2
     · have hk : hdK 2 (x.ts.drop (i + 1)) = true := by rw [drop_cons hu]; simpa [hdK] using hk2
       rw [hk, if_neg (by simp)] at hQ
       have HQ0 := Lib.hid hQ
       have tk : (u.kind == 2) = true := by simpa using hk2
       clear n2 hQ b1 hk hk2 hu hA HS
       go_enter Tryz.func194, Tryz.ntmps194
       go_wp2_with fail
       refine (HS0.out.take_no ⟨#[33]⟩ _ l_not N1.out).mono ?_
       rintro r w1 ⟨rfl, S1, o1⟩
       have XS1 := Lib.hid S1
       clear S1 o1  HS0
       go_wp2_with fail
       refine wp_region_ord (S := PhS x i (i + 1) b o u) [(0, false), (1, true), (2, false), (3, false), (4, false), (5, false), (6, false), (7, false), (8, false), (9, false), (10, false), (11, false), (12, false), (13, false), (14, false), (15, false), (16, false), (17, false), (18, false), (19, false), (20, false), (21, false), (22, false), (23, false), (24, false), (25, false), (26, false), (27, false), (28, false), (29, false), (30, false), (31, false)] (by kernel_rfl) (by kernel_rfl) (fun _ _ _ _ _ h => h) (XS1.out.drew.phs HU.out HA.out) (fun hW' => ?_)
       simp only [ordOps, List.filterMap_cons, List.filterMap_nil, List.getElem?_cons_zero, List.getElem?_cons_succ, Option.map_some]
       (repeat (first | (refine hd_take (v := ?_) (by rfl) ?_ ?_; rotate_left; (focus (intro W hW; obtain ⟨s0, s1, s2, s3, s4⟩ := hW; go_simp; try with_reducible rfl)); simp only [Act.put, List.setIfInBounds_toArray, List.set_cons_zero, List.set_cons_succ]) | (refine hd_skip (by rfl) ?_; simp only [Act.put, List.setIfInBounds_toArray, List.set_cons_zero, List.set_cons_succ])))
       clear hW'
       refine hd_call (fun K hK => ?_)
       go_simp
       refine (XS1.out.drew.is ⟨#[45]⟩ [45] l_minus true N2.out).mono ?_
       rintro r w2 ⟨rfl, S2, -⟩
       refine hK _ _ (S2.phs HU.out HA.out) ?_
       clear hK K
       (repeat (first | (refine hd_take (v := ?_) (by rfl) ?_ ?_; rotate_left; (focus (intro W hW; obtain ⟨s0, s1, s2, s3, s4⟩ := hW; go_simp; try with_reducible rfl)); simp only [Act.put, List.setIfInBounds_toArray, List.set_cons_zero, List.set_cons_succ]) | (refine hd_skip (by rfl) ?_; simp only [Act.put, List.setIfInBounds_toArray, List.set_cons_zero, List.set_cons_succ])))
       refine hd_nil ?_
       have XS2 := Lib.hid S2
       clear S2 XS1
       clear hi64
       go_wp2_with fail
       refine (XS2.out.last HP.out HN.out HQ0.out).mono ?_
       rintro r w9 (⟨k, j, rfl, hp⟩ | ⟨A9, c9, n9, rfl, hp⟩)
       · have HP := Lib.hid hp
         clear hp
         go_wp2_with fail
         exact ⟨rfl, HP.out⟩
       have HP := Lib.hid hp
       clear hp
       go_wp2_with fail
       go_ret
       exact HP.out
     · have hk : hdK 2 (x.ts.drop (i + 1)) = false := by rw [drop_cons hu]; simpa [hdK] using hk2
       rw [if_pos ⟨b1, hk⟩] at hQ
       have HQ0 := Lib.hid hQ
       have tk : (u.kind == 2) = false := by simpa using hk2
       clear n2 hQ b1 hk hk2 hu hA HP
       go_enter Tryz.func194, Tryz.ntmps194
       go_wp2_with fail
       refine (HS0.out.take_no ⟨#[33]⟩ _ l_not N1.out).mono ?_
       rintro r w1 ⟨rfl, S1, o1⟩
       have XS1 := Lib.hid S1
       clear S1 o1  HS0
       go_wp2_with fail
       refine wp_region_ord (S := PhS x i (i + 1) b o u) [(0, false), (1, true), (2, false), (3, false), (4, false), (5, false), (6, false), (7, false), (8, false), (9, false), (10, false), (11, false), (12, false), (13, false), (14, false), (15, false), (16, false), (17, false), (18, false), (19, false), (20, false), (21, false), (22, false), (23, false), (24, false), (25, false), (26, false), (27, false), (28, false), (29, false), (30, false), (31, false)] (by kernel_rfl) (by kernel_rfl) (fun _ _ _ _ _ h => h) (XS1.out.drew.phs HU.out HA.out) (fun hW' => ?_)
       simp only [ordOps, List.filterMap_cons, List.filterMap_nil, List.getElem?_cons_zero, List.getElem?_cons_succ, Option.map_some]
       (repeat (first | (refine hd_take (v := ?_) (by rfl) ?_ ?_; rotate_left; (focus (intro W hW; obtain ⟨s0, s1, s2, s3, s4⟩ := hW; go_simp; try with_reducible rfl)); simp only [Act.put, List.setIfInBounds_toArray, List.set_cons_zero, List.set_cons_succ]) | (refine hd_skip (by rfl) ?_; simp only [Act.put, List.setIfInBounds_toArray, List.set_cons_zero, List.set_cons_succ])))
       clear hW'
       refine hd_call (fun K hK => ?_)
       go_simp
       refine (XS1.out.drew.is ⟨#[45]⟩ [45] l_minus true N2.out).mono ?_
       rintro r w2 ⟨rfl, S2, -⟩
       refine hK _ _ (S2.phs HU.out HA.out) ?_
       clear hK K
       (repeat (first | (refine hd_take (v := ?_) (by rfl) ?_ ?_; rotate_left; (focus (intro W hW; obtain ⟨s0, s1, s2, s3, s4⟩ := hW; go_simp; try with_reducible rfl)); simp only [Act.put, List.setIfInBounds_toArray, List.set_cons_zero, List.set_cons_succ]) | (refine hd_skip (by rfl) ?_; simp only [Act.put, List.setIfInBounds_toArray, List.set_cons_zero, List.set_cons_succ])))
       refine hd_nil ?_
       have XS2 := Lib.hid S2
       clear S2 XS1
       clear hi64
       have sc := XS2.out.blk.cell 1
       have sf := XS2.out.blk.frozen 1
       have s64 := XS2.out.i64
       have sc1 : w2.cell? ⟨x.pb, 1, none⟩ = some (.int .i64 (i : Nat)) := sc
       clear sc
       go_wp2_with fail
       have XS3 := Lib.hid (XS2.out.step HL.out)
       clear sc1 sf s64  XS2
       generalize w2.setCell ⟨x.pb, 1, none⟩ (.int .i64 (((i : Nat) : Int) + 1)) = w3 at XS3  ⊢
       go_wp2_with fail
       refine (XS3.out.call HS.out HN.out trivial HQ0.out).mono ?_
       rintro r w4 (⟨k, j, rfl, hp⟩ | ⟨A4, c4, e4, j4, rfl, E4, S4, o4, q4, l4, b4⟩)
       · have HP := Lib.hid hp
         clear hp
         go_wp2_with fail
         exact ⟨rfl, HP.out⟩
       have HE4 := Lib.hid E4
       have XS4 := Lib.hid S4
       have XQ4 := Lib.hid q4
       have HL4 : Hid (e4.length ≤ 300) := l4
       have HG4 := Lib.hid b4
       clear E4 S4 q4 l4 b4 o4  XS3 HQ0
       go_wp2_with fail
       refine (XS4.out.op 10 22 [⟨A4, c4, e4⟩] #[.slice A4 e4.length c4] rfl (mem1 HE4.out) (by have := HL4.out; simp [catN]; omega) (by simp) (E := opX 10 e4) (by simp [catN, opX])).mono ?_
       rintro r w5 ⟨A5, c5, rfl, E5, S5, o5⟩
       have HF := Lib.hid (S5.fin E5 XQ4.out)
       clear E5 S5 o5
       generalize opX 10 e4 = EE at HF ⊢
       go_wp2_with fail
       go_ret
       exact HF.out
end Go.Proofs.YtbggbcnfkcadjaaGreatDoor
namespace Go.Proofs.YtbggbcnfkcadjaaGreatDoor
set_option maxRecDepth 100000
open Go.RowKit Go.Sort
theorem nds_one (W : World) (n : Nd) : NdsNew W (.returned (.slice (some ⟨W.heap.size, 0, none⟩) 1 1)) (W.alloc (.cells #[.int .i64 n.op, .int .i64 n.n, .string n.s, .string n.t] 29)) [n] := by
 refine ⟨_, 1, rfl, Nat.le_refl _, by omega, fun _ => ⟨W.heap.size, 0, rfl, by simp, fun k y hk => ?_⟩, by (repeat (first | assumption | exact Below.refl _ _ | apply Below.drew | apply below_drewN | (refine Below.alloc ?_ (by first | exact Nat.le_refl _ | omega | (simp; done) | (simp; omega)) _))), fun b o e => by injection e with e; injection e with e; omega⟩
 obtain rfl : k = 0 := by
   have := (List.getElem?_eq_some_iff.1 hk).1; simp at this; exact this
 simp at hk; subst hk
 exact ⟨by rw [World.cell?_alloc_new]; rfl, by rw [World.cell?_alloc_new]; rfl, by rw [World.cell?_alloc_new]; rfl, by rw [World.cell?_alloc_new]; rfl⟩
theorem St.leaf {x : Px} {w W : World} {i : Nat} (h : St x w W i) (n : Nd) {Q : Pr} (hQ : .ok [n] (x.ts.drop i) = Q) : PaPost x w Q (.returned (.slice (some ⟨W.heap.size, 0, none⟩) 1 1)) (W.alloc (.cells #[.int .i64 n.op, .int .i64 n.n, .string n.s, .string n.t] 29)) := by
 rw [← hQ]; exact h.yes (nds_one W n) (by simp)
theorem cat_toList (a b : ByteArray) : (a ++ b).toList = a.toList ++ b.toList := by
 simp only [ByteArray.toList_eq, ByteArray.data_append, Array.toList_append]
theorem l_nil : (⟨#[]⟩ : ByteArray).toList = [] := bsOf_list []
theorem GlC.later {w w' : World} (h : GlC w) (hb : RowKit.Below w.heap.size w w') (hg : 9 ≤ w.heap.size) : GlC w' := h.keep fun p hp => hb.cell (by omega)
set_option maxHeartbeats 6400000 in
theorem St.number {x : Px} {w W : World} {i : Nat} (h : St x w W i) (m : ByteArray) (ml : List UInt8) (hm : m.toList = ml) (hs : m.size ≤ 1) {Q : Pr} (hQ : wordR 2 (x.ts.drop i) (fun s r => numA (ml ++ s.toList) (x.ts.drop i) r) = Q) :
   Calls Tryz.prog 234 #[.pointer (some ⟨x.pb, 0, none⟩), .string m] W (PanOr x w Q fun r W' => ∃ A c n, r = .returned (.slice A n c) ∧ PaPost x w Q (.returned (.slice A n c)) W') := by
 have HS0 := Lib.hid h
 have HLT := Lib.hid h.lt
 have HQ0 := Lib.hid hQ
 have HM := Lib.hid hm
 have hlen := h.inn.len
 have hle := h.le
 have hng : 9 ≤ x.pb := h.inn.gb
 have hi65 : IntKind.wrap .i64 ((i : Int) + 1 - 1) = (i : Int) := by rw [Int.add_sub_cancel]; exact IntWalk.i64_in _ (by omega)
 have hi66 : IntKind.wrap .i64 (i : Int) = (i : Int) := IntWalk.i64_in _ (by omega)
 clear h hQ hm
 go_enter Tryz.func234, Tryz.ntmps234
 go_wp2_with fail
 refine (HS0.out.word 2 (by decide) HQ0.out).mono ?_
 rintro r w1 (⟨k, j, rfl, hp⟩ | ⟨t1, ht1, rfl, S1, o1, z1, kd1, q1⟩)
 · have HP := Lib.hid hp
   clear hp
   go_wp2_with fail
   exact ⟨rfl, .inl ⟨_, _, rfl, HP.out⟩⟩
 have HS1 := Lib.hid S1
 have HT := Lib.hid ht1
 have hsz : (m ++ t1.s).size ≤ 61 := by rw [ByteArray.size_append]; have := z1.sz; omega
 have HL : Hid ((m ++ t1.s).data.toList = ml ++ t1.s.toList) := by show _ = _; rw [← ByteArray.toList_eq, cat_toList, HM.out]
 have HQ1 : Hid (numA (ml ++ t1.s.toList) (x.ts.drop i) (x.ts.drop (i + 1)) = Q) := q1
 have hcs : t1.s.size ≤ 60 := z1.sz
 clear S1 o1 z1 kd1 q1 HQ0 HS0 ht1
 have hgl := HS1.out.inn.gl
 obtain ⟨ev7, hv7, he7⟩ := hgl.syn
 obtain ⟨ev8, hv8, he8⟩ := hgl.ran
 have HSY := Lib.hid (fun h1 h2 => Tryz.strconv_ParseInt_10_at64_syntax (m ++ t1.s) (by omega) h1 h2 ev7 w1 hv7 he7)
 have HRA := Lib.hid (fun hb => Tryz.strconv_ParseInt_10_at64_range (m ++ t1.s) (by omega) hb ev8 w1 hv8 he8)
 have HOK := Lib.hid (fun v hb => Tryz.strconv_ParseInt_10_at64_ok (m ++ t1.s) (by omega) v hb w1)
 clear hgl hv7 hv8 he7 he8
 cases hp : Lib.parseIntB 64 (m ++ t1.s).data.toList with
 | ok v =>
   have hqq : Pr.ok [numX v] (x.ts.drop (i + 1)) = Q := by
     rw [← HQ1.out, ← HL.out]
     unfold numA numW
     rw [hp]
   have HC := Lib.hid (HOK.out v hp)
   have HQQ := Lib.hid hqq
   clear hp HSY HRA HOK HQ1 hqq HL
   go_wp2_with fail
   refine HC.out.mono ?_
   rintro r w2 ⟨rfl, hw2⟩
   have hb2 : RowKit.Below w1.heap.size w1 w2 := by
     rcases hw2 with rfl | ⟨t, rfl⟩
     · exact RowKit.Below.refl _ _
     · exact Lib.bytesWorld_below _ _ _
   have HF := Lib.hid ((HS1.out.below hb2).leaf (numX v) HQQ.out)
   clear hb2 hw2
   go_wp2_with fail
   go_ret
   exact .inr ⟨_, _, _, rfl, HF.out⟩
 | range =>
   have hqq : Pr.bad 5 (x.ts.drop i) = Q := by
     rw [← HQ1.out, ← HL.out]
     unfold numA numW
     rw [hp]
   have HC := Lib.hid (HRA.out hp)
   have HQQ := Lib.hid hqq
   clear hp HSY HRA HOK HQ1 hqq HL
   go_wp2_with fail
   refine HC.out.mono ?_
   rintro r w2 ⟨NN, rfl, -, -, hb2⟩
   have HS2 := Lib.hid (HS1.out.below hb2)
   have k1 : w2.cell? ⟨x.pb, 1, none⟩ = some (.int .i64 ((i : Int) + 1)) := HS2.out.blk.cell 1
   clear hb2
   go_wp2_with fail
   exact ⟨rfl, .inl ⟨5, i, rfl, by rw [← HQQ.out]; exact PaPost.no HS2.out.only hle rfl⟩⟩
 | _ =>
   have hqq : Pr.bad 5 (x.ts.drop i) = Q := by
     rw [← HQ1.out, ← HL.out]
     unfold numA numW
     rw [hp]
   have HC := Lib.hid (HSY.out (fun v h => by rw [hp] at h; cases h) (fun h => by rw [hp] at h; cases h))
   have HQQ := Lib.hid hqq
   clear hp HSY HRA HOK HQ1 hqq HL
   go_wp2_with fail
   refine HC.out.mono ?_
   rintro r w2 ⟨NN, rfl, -, -, hb2⟩
   have HS2 := Lib.hid (HS1.out.below hb2)
   have k1 : w2.cell? ⟨x.pb, 1, none⟩ = some (.int .i64 ((i : Int) + 1)) := HS2.out.blk.cell 1
   clear hb2
   go_wp2_with fail
   exact ⟨rfl, .inl ⟨5, i, rfl, by rw [← HQQ.out]; exact PaPost.no HS2.out.only hle rfl⟩⟩
end Go.Proofs.YtbggbcnfkcadjaaGreatDoor
namespace Go.Proofs.YtbggbcnfkcadjaaGreatDoor
open Go.RowKit
set_option maxHeartbeats 1600000 in
theorem tree_Reserved (s : ByteArray) (w : World) :
   Calls Tryz.prog 143 #[.string s] w fun e w' => e = .returned (.bool (reserved s.toList)) ∧ w = w' := by
 go_enter Tryz.func143, Tryz.ntmps143
 go_wp2
 all_goals
   go_ret
   refine ⟨ret_bool ?_, rfl⟩
   first | (simp [reserved, *]; done) | simp_all
end Go.Proofs.YtbggbcnfkcadjaaGreatDoor
namespace Go.Proofs.YtbggbcnfkcadjaaGreatDoor
open Go.RowKit
end Go.Proofs.YtbggbcnfkcadjaaGreatDoor
