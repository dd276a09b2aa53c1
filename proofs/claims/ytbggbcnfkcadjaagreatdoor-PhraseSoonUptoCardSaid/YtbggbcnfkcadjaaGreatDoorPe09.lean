/-
  THE WALKS: (*parser).named, atom.
  THE WALKS: (*parser).post.
-/
import Derived.Test.YtbggbcnfkcadjaaGreatDoorPe08
import Derived.Deep.LoopGhost
namespace Go.Proofs.YtbggbcnfkcadjaaGreatDoor
set_option maxRecDepth 100000
open Go.RowKit Go.Sort
theorem l_true : (⟨#[116, 114, 117, 101]⟩ : ByteArray).toList = wTrue := bsOf_list [116, 114, 117, 101]
theorem l_false : (⟨#[102, 97, 108, 115, 101]⟩ : ByteArray).toList = wFalse := bsOf_list [102, 97, 108, 115, 101]
theorem l_ro : (⟨#[40]⟩ : ByteArray).toList = [40] := bsOf_list [40]
theorem l_rc : (⟨#[41]⟩ : ByteArray).toList = [41] := bsOf_list [41]
theorem l_so : (⟨#[91]⟩ : ByteArray).toList = [91] := bsOf_list [91]
theorem l_co : (⟨#[123]⟩ : ByteArray).toList = [123] := bsOf_list [123]
def namedR (t : Tk) (r : List Tk) : Pr :=
 if hdS wCol r = true then wordR 3 r.tail fun s r2 => .ok [⟨4, 0, t.s, s⟩] r2
 else if t.s.toList = wTrue then .ok [⟨1, 1, ⟨#[]⟩, ⟨#[]⟩⟩] r
 else if t.s.toList = wFalse then .ok [⟨1, 0, ⟨#[]⟩, ⟨#[]⟩⟩] r
 else if reserved t.s.toList = true then .bad 1 r
 else .ok [⟨8, 0, t.s, ⟨#[]⟩⟩] r
set_option maxHeartbeats 6400000 in
theorem St.named {x : Px} {w W : World} {i : Nat} (h : St x w W i) {t : Tk} (ht : x.ts[i]? = some t) (hk : t.kind = 1) {Q : Pr} (hQ : namedR t (x.ts.drop (i + 1)) = Q) :
   Calls Tryz.prog 235 #[.pointer (some ⟨x.pb, 0, none⟩)] W (PanOr x w Q fun r W' => ∃ A c n, r = .returned (.slice A n c) ∧ PaPost x w Q (.returned (.slice A n c)) W') := by
 have n1 : hdW wCol (x.ts.drop (i + 1)) = hdS wCol (x.ts.drop (i + 1)) := h.sg (by decide) (i + 1)
 have n2 : hdW wTrue (x.ts.drop i) = (t.s.toList == wTrue) := by rw [drop_cons ht]; show ((t.kind == 1 || t.kind == 5) && t.s.toList == wTrue) = _; rw [hk]; rfl
 have n3 : hdW wFalse (x.ts.drop i) = (t.s.toList == wFalse) := by rw [drop_cons ht]; show ((t.kind == 1 || t.kind == 5) && t.s.toList == wFalse) = _; rw [hk]; rfl
 have hlt : i < x.ts.length := (List.getElem?_eq_some_iff.1 ht).1
 have hlen := h.inn.len
 have HS0 := Lib.hid h
 have HLT := Lib.hid h.lt
 have HT := Lib.hid ht
 have HK := Lib.hid hk
 have hqq : (if hdS wCol (x.ts.drop (i + 1)) = true then wordR 3 (x.ts.drop (i + 1)).tail fun s r2 => .ok [⟨4, 0, t.s, s⟩] r2
   else if t.s.toList = wTrue then .ok [⟨1, 1, ⟨#[]⟩, ⟨#[]⟩⟩] (x.ts.drop (i + 1))
   else if t.s.toList = wFalse then .ok [⟨1, 0, ⟨#[]⟩, ⟨#[]⟩⟩] (x.ts.drop (i + 1))
   else if reserved t.s.toList = true then .bad 1 (x.ts.drop (i + 1))
   else .ok [⟨8, 0, t.s, ⟨#[]⟩⟩] (x.ts.drop (i + 1))) = Q := hQ
 rw [tail_drop'] at hqq
 clear h ht hk hQ
 cases b1 : hdS wCol (x.ts.drop (i + 1)) with
 | true =>
   have hlt2 : i + 1 < x.ts.length := hd_lt (f := hdS wCol) rfl b1
   rw [b1] at n1
   rw [b1, if_pos rfl] at hqq
   have N1 := Lib.hid n1
   have HQ0 := Lib.hid hqq
   clear n1 n2 n3 hqq b1
   go_enter Tryz.func235, Tryz.ntmps235
   go_wp2_with fail
   refine (HS0.out.ahead ⟨#[58, 58]⟩ wCol l_col true N1.out).mono ?_
   rintro r w1 ⟨rfl, S1, -⟩
   have HS1 := Lib.hid S1
   clear S1
   go_wp2_with fail
   refine (HS1.out.word_yes 1 t HT.out HK.out).mono ?_
   rintro r w2 ⟨rfl, S2, -⟩
   have HS2 := Lib.hid S2
   have k1 : w2.cell? ⟨x.pb, 1, none⟩ = some (.int .i64 ((i + 1 : Nat) : Int)) := S2.blk.cell 1
   have f1 : w2.frozen? ⟨x.pb, 1, none⟩ = false := S2.blk.frozen 1
   have s64 := S2.i64
   clear S2
   go_wp2_with fail
   have HS3 : Hid (St x w (w2.setCell ⟨x.pb, 1, none⟩ (.int .i64 ((i : Int) + 1 + 1))) (i + 1 + 1)) := HS2.out.step hlt2
   clear HS2 k1 f1 s64
   generalize w2.setCell ⟨x.pb, 1, none⟩ (.int .i64 ((i : Int) + 1 + 1)) = w3 at HS3 ⊢
   go_wp2_with fail
   refine (HS3.out.word 3 (by decide) HQ0.out).mono ?_
   rintro r w4 (⟨k, j, rfl, hp⟩ | ⟨u, hu, rfl, S4, o4, z4, kd4, q4⟩)
   · have HP := Lib.hid hp
     clear hp
     go_wp2_with fail
     exact ⟨rfl, .inl ⟨_, _, rfl, HP.out⟩⟩
   have HF := Lib.hid (S4.leaf ⟨4, 0, t.s, u.s⟩ q4)
   clear hu S4 o4 z4 kd4 q4
   go_wp2_with fail
   go_ret
   exact .inr ⟨_, _, _, rfl, HF.out⟩
 | false =>
   rw [b1] at n1
   rw [b1, if_neg (by simp)] at hqq
   have N1 := Lib.hid n1
   clear n1 b1
   by_cases e1 : t.s.toList = wTrue
   · rw [if_pos e1] at hqq
     have N2 : Hid (hdW wTrue (x.ts.drop i) = true) := by show _ = _; rw [n2]; simpa using e1
     have HQ0 := Lib.hid hqq
     clear n2 n3 hqq e1
     go_enter Tryz.func235, Tryz.ntmps235
     go_wp2_with fail
     refine (HS0.out.ahead ⟨#[58, 58]⟩ wCol l_col false N1.out).mono ?_
     rintro r w1 ⟨rfl, S1, -⟩
     have HS1 := Lib.hid S1
     clear S1
     go_wp2_with fail
     refine (HS1.out.take_yes ⟨#[116, 114, 117, 101]⟩ wTrue l_true N2.out).mono ?_
     rintro r w2 ⟨rfl, S2, -⟩
     have HF := Lib.hid (S2.leaf ⟨1, 1, ⟨#[]⟩, ⟨#[]⟩⟩ HQ0.out)
     clear S2
     go_wp2_with fail
     go_ret
     exact .inr ⟨_, _, _, rfl, HF.out⟩
   rw [if_neg e1] at hqq
   have N2 : Hid (hdW wTrue (x.ts.drop i) = false) := by show _ = _; rw [n2]; simpa using e1
   clear n2 e1
   by_cases e2 : t.s.toList = wFalse
   · rw [if_pos e2] at hqq
     have N3 : Hid (hdW wFalse (x.ts.drop i) = true) := by show _ = _; rw [n3]; simpa using e2
     have HQ0 := Lib.hid hqq
     clear n3 hqq e2
     go_enter Tryz.func235, Tryz.ntmps235
     go_wp2_with fail
     refine (HS0.out.ahead ⟨#[58, 58]⟩ wCol l_col false N1.out).mono ?_
     rintro r w1 ⟨rfl, S1, -⟩
     have HS1 := Lib.hid S1
     clear S1
     go_wp2_with fail
     refine (HS1.out.take_no ⟨#[116, 114, 117, 101]⟩ wTrue l_true N2.out).mono ?_
     rintro r w2 ⟨rfl, S2, -⟩
     have HS2 := Lib.hid S2
     clear S2
     go_wp2_with fail
     refine (HS2.out.take_yes ⟨#[102, 97, 108, 115, 101]⟩ wFalse l_false N3.out).mono ?_
     rintro r w3 ⟨rfl, S3, -⟩
     have HF := Lib.hid (S3.leaf ⟨1, 0, ⟨#[]⟩, ⟨#[]⟩⟩ HQ0.out)
     clear S3
     go_wp2_with fail
     go_ret
     exact .inr ⟨_, _, _, rfl, HF.out⟩
   rw [if_neg e2] at hqq
   have N3 : Hid (hdW wFalse (x.ts.drop i) = false) := by show _ = _; rw [n3]; simpa using e2
   clear n3 e2
   obtain ⟨b, o, hA, -⟩ := HS0.out.inn.at_ HT.out
   have ti := tok_at b o x.ts.length x.c i hlt
   have HA := Lib.hid hA
   clear hA
   obtain ⟨rs, hrs⟩ : ∃ rs, reserved t.s.toList = rs := ⟨_, rfl⟩
   have HRS := Lib.hid (fun W => tree_Reserved t.s W)
   rw [hrs] at HRS hqq
   clear hrs
   cases rs with
   | true =>
     rw [if_pos rfl] at hqq
     have HQ0 := Lib.hid hqq
     clear hqq
     go_enter Tryz.func235, Tryz.ntmps235
     go_wp2_with fail
     refine (HS0.out.ahead ⟨#[58, 58]⟩ wCol l_col false N1.out).mono ?_
     rintro r w1 ⟨rfl, S1, -⟩
     have HS1 := Lib.hid S1
     clear S1
     go_wp2_with fail
     refine (HS1.out.take_no ⟨#[116, 114, 117, 101]⟩ wTrue l_true N2.out).mono ?_
     rintro r w2 ⟨rfl, S2, -⟩
     have HS2 := Lib.hid S2
     clear S2
     go_wp2_with fail
     refine (HS2.out.take_no ⟨#[102, 97, 108, 115, 101]⟩ wFalse l_false N3.out).mono ?_
     rintro r w3 ⟨rfl, S3, -⟩
     have HS3 := Lib.hid S3
     clear S3
     go_wp2_with fail
     refine wp_region_ord (S := PhS x i i b o t) [(0, false), (1, false), (2, false), (3, false), (4, false), (5, false), (6, false), (7, false), (8, false), (9, false), (10, false), (11, true), (12, true)] (by kernel_rfl) (by kernel_rfl) (fun _ _ _ _ _ h => h) (HS3.out.drew.phs HT.out HA.out) (fun hW' => ?_)
     simp only [ordOps, List.filterMap_cons, List.filterMap_nil, List.getElem?_cons_zero, List.getElem?_cons_succ, Option.map_some]
     (repeat (first | (refine hd_take (v := ?_) (by rfl) ?_ ?_; rotate_left; (focus (intro W hW; obtain ⟨s0, s1, s2, s3, s4⟩ := hW; go_simp; try with_reducible rfl)); simp only [Act.put, List.setIfInBounds_toArray, List.set_cons_zero, List.set_cons_succ]) | (refine hd_skip (by rfl) ?_; simp only [Act.put, List.setIfInBounds_toArray, List.set_cons_zero, List.set_cons_succ])))
     clear hW'
     refine hd_call (fun K hK => ?_)
     go_simp
     refine (HRS.out _).mono ?_
     rintro r w4 ⟨rfl, rfl⟩
     refine hK _ _ (HS3.out.drew.phs HT.out HA.out) ?_
     clear hK K
     refine hd_call (fun K hK => ?_)
     go_simp
     refine hK _ _ (HS3.out.drew.phs HT.out HA.out) ?_
     clear hK K
     refine hd_nil ?_
     have HS4 := Lib.hid HS3.out.drew
     generalize w3.drew = w4 at HS4 ⊢
     have HF := Lib.hid (ph_reserved x i w4 HS4.out.inn HS4.out.blk HS4.out.le)
     go_wp2_with fail
     refine HF.out.mono ?_
     rintro r w5 ⟨rfl, o5⟩
     have HO := Lib.hid (HS4.out.only.trans (o5.mono HS4.out.only.size))
     clear o5
     go_wp2_with fail
     exact ⟨rfl, .inl ⟨1, i + 1, rfl, by rw [← HQ0.out]; exact PaPost.no HO.out hlt rfl⟩⟩
   | false =>
     rw [if_neg (by simp)] at hqq
     have HQ0 := Lib.hid hqq
     clear hqq
     go_enter Tryz.func235, Tryz.ntmps235
     go_wp2_with fail
     refine (HS0.out.ahead ⟨#[58, 58]⟩ wCol l_col false N1.out).mono ?_
     rintro r w1 ⟨rfl, S1, -⟩
     have HS1 := Lib.hid S1
     clear S1
     go_wp2_with fail
     refine (HS1.out.take_no ⟨#[116, 114, 117, 101]⟩ wTrue l_true N2.out).mono ?_
     rintro r w2 ⟨rfl, S2, -⟩
     have HS2 := Lib.hid S2
     clear S2
     go_wp2_with fail
     refine (HS2.out.take_no ⟨#[102, 97, 108, 115, 101]⟩ wFalse l_false N3.out).mono ?_
     rintro r w3 ⟨rfl, S3, -⟩
     have HS3 := Lib.hid S3
     clear S3
     go_wp2_with fail
     refine wp_region_ord (S := PhS x i i b o t) [(0, false), (1, false), (2, false), (3, false), (4, false), (5, false), (6, false), (7, false), (8, false), (9, false), (10, false), (11, true), (12, true)] (by kernel_rfl) (by kernel_rfl) (fun _ _ _ _ _ h => h) (HS3.out.drew.phs HT.out HA.out) (fun hW' => ?_)
     simp only [ordOps, List.filterMap_cons, List.filterMap_nil, List.getElem?_cons_zero, List.getElem?_cons_succ, Option.map_some]
     (repeat (first | (refine hd_take (v := ?_) (by rfl) ?_ ?_; rotate_left; (focus (intro W hW; obtain ⟨s0, s1, s2, s3, s4⟩ := hW; go_simp; try with_reducible rfl)); simp only [Act.put, List.setIfInBounds_toArray, List.set_cons_zero, List.set_cons_succ]) | (refine hd_skip (by rfl) ?_; simp only [Act.put, List.setIfInBounds_toArray, List.set_cons_zero, List.set_cons_succ])))
     clear hW'
     refine hd_call (fun K hK => ?_)
     go_simp
     refine (HRS.out _).mono ?_
     rintro r w4 ⟨rfl, rfl⟩
     refine hK _ _ (HS3.out.drew.phs HT.out HA.out) ?_
     clear hK K
     refine hd_call (fun K hK => ?_)
     go_simp
     refine hK _ _ (HS3.out.drew.phs HT.out HA.out) ?_
     clear hK K
     refine hd_nil ?_
     have HS4 := Lib.hid HS3.out.drew
     generalize w3.drew = w4 at HS4 ⊢
     go_wp2_with fail
     refine (HS4.out.word_yes 1 t HT.out HK.out).mono ?_
     rintro r w5 ⟨rfl, S5, -⟩
     have HF := Lib.hid (S5.leaf ⟨8, 0, t.s, ⟨#[]⟩⟩ HQ0.out)
     clear S5
     go_wp2_with fail
     go_ret
     exact .inr ⟨_, _, _, rfl, HF.out⟩
theorem atomR_num {wh se re : List Tk → Pr} {ts : List Tk} {i : Nat} {t : Tk} (ht : ts[i]? = some t) (hk : t.kind = 2) : atomR wh se re (ts.drop i) = wordR 2 (ts.drop i) (fun s r => numA ([] ++ s.toList) (ts.drop i) r) := by
 rw [wordR_yes ht hk, drop_cons ht]
 unfold atomR
 dsimp only
 rw [if_pos hk]; rfl
theorem atomR_txt {wh se re : List Tk → Pr} {ts : List Tk} {i : Nat} {t : Tk} (ht : ts[i]? = some t) (hk : t.kind = 3) : atomR wh se re (ts.drop i) = wordR 3 (ts.drop i) (fun s r => .ok [⟨3, 0, s, ⟨#[]⟩⟩] r) := by
 rw [wordR_yes ht hk, drop_cons ht]
 unfold atomR
 dsimp only
 rw [if_neg (by omega), if_pos hk]
theorem atomR_slot {wh se re : List Tk → Pr} {ts : List Tk} {i : Nat} {t : Tk} (ht : ts[i]? = some t) (hk : t.kind = 4) : atomR wh se re (ts.drop i) = wordR 4 (ts.drop i) (fun s r => .ok [⟨8, 0, bsOf (63 :: s.toList), ⟨#[]⟩⟩] r) := by
 rw [wordR_yes ht hk, drop_cons ht]
 unfold atomR
 dsimp only
 rw [if_neg (by omega), if_neg (by omega), if_pos hk]
theorem atomR_name {wh se re : List Tk → Pr} {ts : List Tk} {i : Nat} {t : Tk} (ht : ts[i]? = some t) (hk : t.kind = 1) : atomR wh se re (ts.drop i) = namedR t (ts.drop (i + 1)) := by
 rw [drop_cons ht]
 unfold atomR
 dsimp only
 rw [if_neg (by omega), if_neg (by omega), if_neg (by omega), if_pos hk]; rfl
theorem minusR_word (r : List Tk) : minusR r = wordR 2 r (fun s r' => numA ([45] ++ s.toList) r r') := by
 cases r with
 | nil => rfl
 | cons u r' =>
   show (if u.kind = 2 then _ else _) = if (u.kind == 2) = true then _ else _
   by_cases h : u.kind = 2
   · rw [if_pos h, if_pos (by simpa using h)]; rfl
   · rw [if_neg h, if_neg (by simpa using h)]
theorem atomR_sign {wh se re : List Tk → Pr} {ts : List Tk} {i : Nat} (h1 : kdR (ts.drop i) ≠ 1) (h2 : kdR (ts.drop i) ≠ 2) (h3 : kdR (ts.drop i) ≠ 3) (h4 : kdR (ts.drop i) ≠ 4) :
   atomR wh se re (ts.drop i) = if hdS [45] (ts.drop i) = true then wordR 2 (ts.drop (i + 1)) (fun s r' => numA ([45] ++ s.toList) (ts.drop (i + 1)) r')
     else if hdS [40] (ts.drop i) = true then (wh (ts.drop (i + 1))).bind fun e r2 => needR [41] r2 fun r3 => .ok e r3
     else if hdS [91] (ts.drop i) = true then se (ts.drop (i + 1)) else if hdS [123] (ts.drop i) = true then re (ts.drop (i + 1)) else .bad 1 (ts.drop i) := by
 rw [← tail_drop', ← minusR_word]
 generalize ts.drop i = q at *
 cases q with
 | nil => rfl
 | cons t r =>
   have h1 : t.kind ≠ 1 := h1
   have h2 : t.kind ≠ 2 := h2
   have h3 : t.kind ≠ 3 := h3
   have h4 : t.kind ≠ 4 := h4
   unfold atomR
   dsimp only
   rw [if_neg h2, if_neg h3, if_neg h4, if_neg h1]
   rfl
set_option maxHeartbeats 12800000 in
theorem ph_atom (x : Px) (f : Nat) (hw : Does x 30 (pa f .whole)) (hse : Does x 236 (pa f (.se []))) (hre : Does x 237 (pa f (.re [] ⟨#[]⟩))) : Does x 224 (pa (f + 1) .atom) := by
 intro w i hx hB hi hnb
 have S0 := St.start hx hB hi
 have hlen := hx.len
 have HS0 := Lib.hid S0
 have HLT := Lib.hid hB.lt
 have HW := Lib.hid hw
 have HSE := Lib.hid hse
 have HRE := Lib.hid hre
 obtain ⟨Q, hQ⟩ : ∃ Q, pa (f + 1) .atom (x.ts.drop i) = Q := ⟨_, rfl⟩
 rw [hQ] at hnb ⊢
 have HN := Lib.hid hnb
 have hqq : atomR (pa f .whole) (pa f (.se [])) (pa f (.re [] ⟨#[]⟩)) (x.ts.drop i) = Q := hQ
 clear hx hB hw hse hre hnb hQ
 obtain ⟨kd, hkd⟩ : ∃ kd, kdR (x.ts.drop i) = kd := ⟨_, rfl⟩
 by_cases k2 : kd = 2
 · subst k2
   obtain ⟨t, ht, hk⟩ := kd_some hkd (by decide)
   rw [atomR_num ht hk] at hqq
   have HQ0 := Lib.hid hqq
   have HKD := Lib.hid hkd
   clear hqq hkd ht hk S0 HSE HRE HW
   go_enter Tryz.func224, Tryz.ntmps224
   go_wp2_with fail
   refine (HS0.out.kind 2 HKD.out).mono ?_
   rintro r w1 ⟨rfl, S1, o1⟩
   have XS1 := Lib.hid S1
   clear S1 o1  HS0
   go_wp2_with fail
   refine (XS1.out.number ⟨#[]⟩ [] l_nil (by decide) HQ0.out).mono ?_
   rintro r w9 (⟨k, j, rfl, hp⟩ | ⟨A9, c9, n9, rfl, hp⟩)
   · have HP := Lib.hid hp
     clear hp
     go_wp2_with fail
     exact ⟨rfl, HP.out⟩
   have HP := Lib.hid hp
   clear hp
   go_wp2_with fail
   go_ret
   exact HP.out
 by_cases k3 : kd = 3
 · subst k3
   obtain ⟨t, ht, hk⟩ := kd_some hkd (by decide)
   rw [atomR_txt ht hk] at hqq
   have HQ0 := Lib.hid hqq
   have HKD := Lib.hid hkd
   clear hqq hkd ht hk S0 HSE HRE HW
   go_enter Tryz.func224, Tryz.ntmps224
   go_wp2_with fail
   refine (HS0.out.kind 3 HKD.out).mono ?_
   rintro r w1 ⟨rfl, S1, o1⟩
   have XS1 := Lib.hid S1
   clear S1 o1  HS0
   go_wp2_with fail
   refine (XS1.out.word 3 (by decide) HQ0.out).mono ?_
   rintro r w9 (⟨k, j, rfl, hp⟩ | ⟨u, hu, rfl, S9, o9, z9, kd9, q9⟩)
   · have HP := Lib.hid hp
     clear hp
     go_wp2_with fail
     exact ⟨rfl, HP.out⟩
   have HF := Lib.hid (S9.leaf ⟨3, 0, u.s, ⟨#[]⟩⟩ q9)
   clear hu S9 o9 z9 kd9 q9
   go_wp2_with fail
   go_ret
   exact HF.out
 by_cases k4 : kd = 4
 · subst k4
   obtain ⟨t, ht, hk⟩ := kd_some hkd (by decide)
   rw [atomR_slot ht hk] at hqq
   have HQ0 := Lib.hid hqq
   have HKD := Lib.hid hkd
   clear hqq hkd ht hk S0 HSE HRE HW
   go_enter Tryz.func224, Tryz.ntmps224
   go_wp2_with fail
   refine (HS0.out.kind 4 HKD.out).mono ?_
   rintro r w1 ⟨rfl, S1, o1⟩
   have XS1 := Lib.hid S1
   clear S1 o1  HS0
   go_wp2_with fail
   refine (XS1.out.word 4 (by decide) HQ0.out).mono ?_
   rintro r w9 (⟨k, j, rfl, hp⟩ | ⟨u, hu, rfl, S9, o9, z9, kd9, q9⟩)
   · have HP := Lib.hid hp
     clear hp
     go_wp2_with fail
     exact ⟨rfl, HP.out⟩
   have HF := Lib.hid (S9.leaf ⟨8, 0, ⟨#[63]⟩ ++ u.s, ⟨#[]⟩⟩ (hQ := by rw [show (⟨#[63]⟩ : ByteArray) ++ u.s = bsOf (63 :: u.s.toList) from by rw [← bsOf_toList (⟨#[63]⟩ ++ u.s), cat_toList, show (⟨#[63]⟩ : ByteArray).toList = [63] from bsOf_list [63]]; rfl]; exact q9) (Q := Q))
   have hz : u.s.size ≤ 60 := z9.sz
   clear hu S9 o9 z9 kd9 q9
   go_wp2_with fail
   go_ret
   exact HF.out
 by_cases k1 : kd = 1
 · subst k1
   obtain ⟨t, ht, hk⟩ := kd_some hkd (by decide)
   rw [atomR_name ht hk] at hqq
   have HQ0 := Lib.hid hqq
   have HKD := Lib.hid hkd
   have HT := Lib.hid ht
   have HK := Lib.hid hk
   clear hqq hkd ht hk S0 HSE HRE HW
   go_enter Tryz.func224, Tryz.ntmps224
   go_wp2_with fail
   refine (HS0.out.kind 1 HKD.out).mono ?_
   rintro r w1 ⟨rfl, S1, o1⟩
   have XS1 := Lib.hid S1
   clear S1 o1  HS0
   go_wp2_with fail
   refine (XS1.out.named HT.out HK.out HQ0.out).mono ?_
   rintro r w9 (⟨k, j, rfl, hp⟩ | ⟨A9, c9, n9, rfl, hp⟩)
   · have HP := Lib.hid hp
     clear hp
     go_wp2_with fail
     exact ⟨rfl, HP.out⟩
   have HP := Lib.hid hp
   clear hp
   go_wp2_with fail
   go_ret
   exact HP.out
 rw [atomR_sign (by rw [hkd]; exact k1) (by rw [hkd]; exact k2) (by rw [hkd]; exact k3) (by rw [hkd]; exact k4)] at hqq
 have t1 : (kd == 1) = false := by simpa using k1
 have t2 : (kd == 2) = false := by simpa using k2
 have t3 : (kd == 3) = false := by simpa using k3
 have t4 : (kd == 4) = false := by simpa using k4
 have HKD := Lib.hid hkd
 have n1 : hdW [45] (x.ts.drop i) = hdS [45] (x.ts.drop i) := S0.sg (by decide) i
 have n2 : hdW [40] (x.ts.drop i) = hdS [40] (x.ts.drop i) := S0.sg (by decide) i
 have n3 : hdW [91] (x.ts.drop i) = hdS [91] (x.ts.drop i) := S0.sg (by decide) i
 have n4 : hdW [123] (x.ts.drop i) = hdS [123] (x.ts.drop i) := S0.sg (by decide) i
 clear k1 k2 k3 k4 hkd S0
 cases b0 : hdS [45] (x.ts.drop i) with
 | true =>
   rw [b0] at n1
   rw [b0, if_pos rfl] at hqq
   have N1 := Lib.hid n1
   have HQ0 := Lib.hid hqq
   clear hqq b0 n1 n2 n3 n4
   go_enter Tryz.func224, Tryz.ntmps224
   go_wp2_with fail
   refine (HS0.out.kind kd HKD.out).mono ?_
   rintro r w1 ⟨rfl, S1, o1⟩
   have XS1 := Lib.hid S1
   clear S1 o1  HS0
   go_wp2_with fail
   refine (XS1.out.take_yes ⟨#[45]⟩ _ l_minus N1.out).mono ?_
   rintro r w2 ⟨rfl, S2, o2⟩
   have XS2 := Lib.hid S2
   clear S2 o2  XS1
   go_wp2_with fail
   refine (XS2.out.number ⟨#[45]⟩ [45] l_minus (by decide) HQ0.out).mono ?_
   rintro r w9 (⟨k, j, rfl, hp⟩ | ⟨A9, c9, n9, rfl, hp⟩)
   · have HP := Lib.hid hp
     clear hp
     go_wp2_with fail
     exact ⟨rfl, HP.out⟩
   have HP := Lib.hid hp
   clear hp
   go_wp2_with fail
   go_ret
   exact HP.out
 | false =>
   rw [b0] at n1
   rw [b0, if_neg (by simp)] at hqq
   have N1 := Lib.hid n1
   clear b0 n1
   cases b1 : hdS [40] (x.ts.drop i) with
   | true =>
     rw [b1] at n2
     rw [b1, if_pos rfl] at hqq
     have N2 := Lib.hid n2
     have HQ0 := Lib.hid hqq
     clear hqq b1 n2 n3 n4
     go_enter Tryz.func224, Tryz.ntmps224
     go_wp2_with fail
     refine (HS0.out.kind kd HKD.out).mono ?_
     rintro r w1 ⟨rfl, S1, o1⟩
     have XS1 := Lib.hid S1
     clear S1 o1  HS0
     go_wp2_with fail
     refine (XS1.out.take_no ⟨#[45]⟩ _ l_minus N1.out).mono ?_
     rintro r w2 ⟨rfl, S2, o2⟩
     have XS2 := Lib.hid S2
     clear S2 o2  XS1
     go_wp2_with fail
     refine (XS2.out.take_yes ⟨#[40]⟩ _ l_ro N2.out).mono ?_
     rintro r w3 ⟨rfl, S3, o3⟩
     have XS3 := Lib.hid S3
     clear S3 o3  XS2
     go_wp2_with fail
     refine (XS3.out.call HW.out HN.out trivial HQ0.out).mono ?_
     rintro r w4 (⟨k, j, rfl, hp⟩ | ⟨A4, c4, e4, j4, rfl, E4, S4, o4, q4, l4, b4⟩)
     · have HP := Lib.hid hp
       clear hp
       go_wp2_with fail
       exact ⟨rfl, HP.out⟩
     have HE4 := Lib.hid E4
     have XS4 := Lib.hid S4
     have XQ4 := Lib.hid q4
     have HL4 : Hid (e4.length ≤ 300) := l4
     have HG4 := Lib.hid b4
     clear E4 S4 q4 l4 b4 o4  XS3 HQ0
     go_wp2_with fail
     refine (XS4.out.needS ⟨#[41]⟩ l_rc (by decide) XQ4.out).mono ?_
     rintro r w5 (⟨k, j, rfl, hp⟩ | ⟨rfl, S5, o5, q5⟩)
     · have HP := Lib.hid hp
       clear hp
       go_wp2_with fail
       exact ⟨rfl, HP.out⟩
     have HE4_5 := Lib.hid (HE4.out.on o5 HLT.out)
     have XS5 := Lib.hid S5
     have XQ5 := Lib.hid q5
     clear S5 q5 o5 HE4 XS4 XQ4
     have HF := Lib.hid (XS5.out.fin HE4_5.out XQ5.out)
     go_wp2_with fail
     go_ret
     exact HF.out
   | false =>
     rw [b1] at n2
     rw [b1, if_neg (by simp)] at hqq
     have N2 := Lib.hid n2
     clear b1 n2
     cases b2 : hdS [91] (x.ts.drop i) with
     | true =>
       rw [b2] at n3
       rw [b2, if_pos rfl] at hqq
       have N3 := Lib.hid n3
       have HQ0 := Lib.hid hqq
       clear hqq b2 n3 n4
       go_enter Tryz.func224, Tryz.ntmps224
       go_wp2_with fail
       refine (HS0.out.kind kd HKD.out).mono ?_
       rintro r w1 ⟨rfl, S1, o1⟩
       have XS1 := Lib.hid S1
       clear S1 o1  HS0
       go_wp2_with fail
       refine (XS1.out.take_no ⟨#[45]⟩ _ l_minus N1.out).mono ?_
       rintro r w2 ⟨rfl, S2, o2⟩
       have XS2 := Lib.hid S2
       clear S2 o2  XS1
       go_wp2_with fail
       refine (XS2.out.take_no ⟨#[40]⟩ _ l_ro N2.out).mono ?_
       rintro r w3 ⟨rfl, S3, o3⟩
       have XS3 := Lib.hid S3
       clear S3 o3  XS2
       go_wp2_with fail
       refine (XS3.out.take_yes ⟨#[91]⟩ _ l_so N3.out).mono ?_
       rintro r w4 ⟨rfl, S4, o4⟩
       have XS4 := Lib.hid S4
       clear S4 o4  XS3
       go_wp2_with fail
       refine (XS4.out.last HSE.out HN.out HQ0.out).mono ?_
       rintro r w9 (⟨k, j, rfl, hp⟩ | ⟨A9, c9, n9, rfl, hp⟩)
       · have HP := Lib.hid hp
         clear hp
         go_wp2_with fail
         exact ⟨rfl, HP.out⟩
       have HP := Lib.hid hp
       clear hp
       go_wp2_with fail
       go_ret
       exact HP.out
     | false =>
       rw [b2] at n3
       rw [b2, if_neg (by simp)] at hqq
       have N3 := Lib.hid n3
       clear b2 n3
       cases b3 : hdS [123] (x.ts.drop i) with
       | true =>
         rw [b3] at n4
         rw [b3, if_pos rfl] at hqq
         have N4 := Lib.hid n4
         have HQ0 := Lib.hid hqq
         clear hqq b3 n4
         go_enter Tryz.func224, Tryz.ntmps224
         go_wp2_with fail
         refine (HS0.out.kind kd HKD.out).mono ?_
         rintro r w1 ⟨rfl, S1, o1⟩
         have XS1 := Lib.hid S1
         clear S1 o1  HS0
         go_wp2_with fail
         refine (XS1.out.take_no ⟨#[45]⟩ _ l_minus N1.out).mono ?_
         rintro r w2 ⟨rfl, S2, o2⟩
         have XS2 := Lib.hid S2
         clear S2 o2  XS1
         go_wp2_with fail
         refine (XS2.out.take_no ⟨#[40]⟩ _ l_ro N2.out).mono ?_
         rintro r w3 ⟨rfl, S3, o3⟩
         have XS3 := Lib.hid S3
         clear S3 o3  XS2
         go_wp2_with fail
         refine (XS3.out.take_no ⟨#[91]⟩ _ l_so N3.out).mono ?_
         rintro r w4 ⟨rfl, S4, o4⟩
         have XS4 := Lib.hid S4
         clear S4 o4  XS3
         go_wp2_with fail
         refine (XS4.out.take_yes ⟨#[123]⟩ _ l_co N4.out).mono ?_
         rintro r w5 ⟨rfl, S5, o5⟩
         have XS5 := Lib.hid S5
         clear S5 o5  XS4
         go_wp2_with fail
         refine (XS5.out.last HRE.out HN.out HQ0.out).mono ?_
         rintro r w9 (⟨k, j, rfl, hp⟩ | ⟨A9, c9, n9, rfl, hp⟩)
         · have HP := Lib.hid hp
           clear hp
           go_wp2_with fail
           exact ⟨rfl, HP.out⟩
         have HP := Lib.hid hp
         clear hp
         go_wp2_with fail
         go_ret
         exact HP.out
       | false =>
         rw [b3] at n4
         rw [b3, if_neg (by simp)] at hqq
         have N4 := Lib.hid n4
         clear b3 n4
         have HQ0 := Lib.hid hqq
         clear hqq
         go_enter Tryz.func224, Tryz.ntmps224
         go_wp2_with fail
         refine (HS0.out.kind kd HKD.out).mono ?_
         rintro r w1 ⟨rfl, S1, o1⟩
         have XS1 := Lib.hid S1
         clear S1 o1  HS0
         go_wp2_with fail
         refine (XS1.out.take_no ⟨#[45]⟩ _ l_minus N1.out).mono ?_
         rintro r w2 ⟨rfl, S2, o2⟩
         have XS2 := Lib.hid S2
         clear S2 o2  XS1
         go_wp2_with fail
         refine (XS2.out.take_no ⟨#[40]⟩ _ l_ro N2.out).mono ?_
         rintro r w3 ⟨rfl, S3, o3⟩
         have XS3 := Lib.hid S3
         clear S3 o3  XS2
         go_wp2_with fail
         refine (XS3.out.take_no ⟨#[91]⟩ _ l_so N3.out).mono ?_
         rintro r w4 ⟨rfl, S4, o4⟩
         have XS4 := Lib.hid S4
         clear S4 o4  XS3
         go_wp2_with fail
         refine (XS4.out.take_no ⟨#[123]⟩ _ l_co N4.out).mono ?_
         rintro r w5 ⟨rfl, S5, o5⟩
         have XS5 := Lib.hid S5
         clear S5 o5  XS4
         have HF := Lib.hid (ph_fail x i w5 XS5.out.blk)
         go_wp2_with fail
         refine HF.out.mono ?_
         rintro r w9 ⟨rfl, rfl⟩
         go_wp2_with fail
         exact ⟨rfl, by rw [← HQ0.out]; exact XS5.out.no 1⟩
end Go.Proofs.YtbggbcnfkcadjaaGreatDoor
namespace Go.Proofs.YtbggbcnfkcadjaaGreatDoor
set_option maxRecDepth 100000
open Go.RowKit Go.Sort
theorem l_dot : (⟨#[46]⟩ : ByteArray).toList = [46] := bsOf_list [46]
theorem l_bo : (⟨#[40]⟩ : ByteArray).toList = [40] := bsOf_list [40]
theorem l_bc : (⟨#[41]⟩ : ByteArray).toList = [41] := bsOf_list [41]
theorem po_end {g : Nat} {e : List Nd} {ts : List Tk} (h : hdS [46] ts = false) : pa (g + 1) (.po e) ts = .ok e ts := by
 show (if hdS [46] ts = true then _ else _) = _
 rw [if_neg (by rw [h]; simp)]
theorem po_go {g : Nat} {e : List Nd} {ts : List Tk} {j : Nat} (h : hdS [46] (ts.drop j) = true) : pa (g + 1) (.po e) (ts.drop j) = wordR 1 (ts.drop (j + 1)) fun s r => if dotOp s.toList = 0 ∨ hdS [40] r = false then pa g (.po (opS 22 s e)) r else (pa g .whole r.tail).bind fun e2 r2 => needR [41] r2 fun r3 => pa g (.po (opX (dotOp s.toList) (e ++ e2))) r3 := by
 show (if hdS [46] (ts.drop j) = true then _ else _) = _
 rw [if_pos h, tail_drop']
set_option maxHeartbeats 25600000 in
theorem ph_post (x : Px) (f : Nat) (hat : Does x 224 (pa f .atom)) (hw : ∀ g, g ≤ f → Does x 30 (pa g .whole)) : Does x 208 (fun ts => (pa f .atom ts).bind fun e r => pa f (.po e) r) := by
 intro w i hx hB hi hnb
 have S0 := St.start hx hB hi
 have hlen := hx.len
 have HS0 := Lib.hid S0
 have HLT := Lib.hid hB.lt
 have HA := Lib.hid hat
 have HW := Lib.hid hw
 obtain ⟨Q, hQ⟩ : ∃ Q, ((pa f .atom (x.ts.drop i)).bind fun e r => pa f (.po e) r) = Q := ⟨_, rfl⟩
 have hnb : ∀ r, ((pa f .atom (x.ts.drop i)).bind fun e r => pa f (.po e) r) ≠ .bad 0 r := hnb
 show Calls _ _ _ _ (PaPost x w ((pa f .atom (x.ts.drop i)).bind fun e r => pa f (.po e) r))
 rw [hQ] at hnb ⊢
 have HN := Lib.hid hnb
 have HQ0 := Lib.hid hQ
 clear hx hB hat hw hnb S0 hQ
 go_enter Tryz.func208, Tryz.ntmps208
 go_wp2_with fail
 refine (HS0.out.call HA.out HN.out trivial HQ0.out).mono ?_
 rintro r w1 (⟨k, j, rfl, hp⟩ | ⟨A1, c1, e1, j1, rfl, E1, S1, o1, q1, l1, b1⟩)
 · have HP := Lib.hid hp
   clear hp
   go_wp2_with fail
   exact ⟨rfl, HP.out⟩
 have HE1 := Lib.hid E1
 have XS1 := Lib.hid S1
 have XQ1 := Lib.hid q1
 have HL1 : Hid (e1.length ≤ 300) := l1
 have HG1 := Lib.hid b1
 clear E1 S1 q1 l1 b1 o1  HS0 HQ0
 go_wp2_with fail
 go_loopg [3, 4, 5] f (fun gg ev sv ov wr => ∃ (A : Option Addr) (c : Nat) (e : List Nd) (j : Nat), ev = .slice A e.length c ∧ gg ≤ f ∧ e.length ≤ 302 * (j + 1) ∧ Hid (Exm w.heap.size wr ⟨A, c, e⟩) ∧ Hid (St x w wr j) ∧ Hid (pa gg (.po e) (x.ts.drop j) = Q))
 case atStart => exact ⟨A1, c1, e1, j1, rfl, Nat.le_refl _, by have := HL1.out; omega, HE1.out, XS1.out, XQ1.out⟩
 case round =>
   obtain ⟨A, c, e, j, rfl, hgg, hle, HE, HS, HQ⟩ := hrel
   clear HE1 XS1 XQ1 HL1 HG1
   have hj300 : j ≤ 300 := Nat.le_trans HS.out.le hlen
   obtain ⟨gg, hgk⟩ : ∃ gg, gk = gg + 1 := by
     cases gk with
     | zero => exact absurd HQ.out.symm (HN.out _)
     | succ g => exact ⟨g, rfl⟩
   rw [hgk] at HQ
   have HGK := Lib.hid hgk
   have hggf : gg ≤ f := by omega
   clear hgk
   cases hb : hdS [46] (x.ts.drop j) with
   | false =>
     have HQQ : Hid (.ok e (x.ts.drop j) = Q) := by show _ = _; rw [← HQ.out, po_end hb]
     have HB := Lib.hid hb
     clear hb HQ
     go_wp2_with fail
     refine (HS.out.take_no ⟨#[46]⟩ _ l_dot (by rw [HS.out.sg (c := 46) (r := []) (by decide)]; exact HB.out)).mono ?_
     rintro r w2 ⟨rfl, S2, o2⟩
     have HE_2 := Lib.hid (HE.out.on o2 HLT.out)
     have XS2 := Lib.hid S2
     clear S2 o2 HE HS
     have HF := Lib.hid (XS2.out.fin HE_2.out HQQ.out)
     go_wp2_with fail
     go_ret
     exact HF.out
   | true =>
     have HQQ := Lib.hid HQ.out
     rw [po_go hb] at HQQ
     have HB := Lib.hid hb
     have HLE := Lib.hid hle
     have HDW := Lib.hid (HW.out gg hggf)
     clear hb HQ
     go_wp2_with fail
     refine (HS.out.take_yes ⟨#[46]⟩ _ l_dot (by rw [HS.out.sg (c := 46) (r := []) (by decide)]; exact HB.out)).mono ?_
     rintro r w2 ⟨rfl, S2, o2⟩
     have HE_2 := Lib.hid (HE.out.on o2 HLT.out)
     have XS2 := Lib.hid S2
     clear S2 o2 HE HS
     go_wp2_with fail
     refine (XS2.out.word 1 (by decide) HQQ.out).mono ?_
     rintro r w3 (⟨k, j, rfl, hp⟩ | ⟨t3, ht3, rfl, S3, o3, z3, kd3, q3⟩)
     · have HP := Lib.hid hp
       clear hp
       go_wp2_with fail
       exact ⟨rfl, HP.out⟩
     have HE_3 := Lib.hid (HE_2.out.on o3 HLT.out)
     have XS3 := Lib.hid S3
     have XQ3 := Lib.hid q3
     have HT3 := Lib.hid ht3
     have HZ3 := Lib.hid z3
     have HKD3 := Lib.hid kd3
     clear S3 q3 o3 ht3 z3 kd3 HE_2 XS2 HQQ
     have q0 : (if dotOp t3.s.toList = 0 ∨ hdS [40] (x.ts.drop (j + 1 + 1)) = false then pa gg (.po (opS 22 t3.s e)) (x.ts.drop (j + 1 + 1)) else (pa gg .whole (x.ts.drop (j + 1 + 1)).tail).bind (fun e2 r2 => needR [41] r2 fun r3 => pa gg (.po (opX (dotOp t3.s.toList) (e ++ e2))) r3)) = Q := XQ3.out
     rw [tail_drop'] at q0
     have HR := Lib.hid q0
     have hts : t3.s.size ≤ 60 := HZ3.out.sz
     clear q0 XQ3 HT3 HZ3 HKD3
     by_cases hw0 : t3.s.toList = [99, 111, 110, 116, 97, 105, 110, 115]
     · have hd : dotOp t3.s.toList = 25 := by rw [hw0]; rfl
       have s0 : (t3.s.toList == [99, 111, 110, 116, 97, 105, 110, 115]) = true := by simp [hw0]
       have s1 : (t3.s.toList == [99, 111, 110, 116, 97, 105, 110, 115, 65, 108, 108]) = false := by simp [hw0]
       have s2 : (t3.s.toList == [99, 111, 110, 116, 97, 105, 110, 115, 65, 110, 121]) = false := by simp [hw0]
       rw [hd] at HR
       clear hd hw0
       cases hb : hdS [40] (x.ts.drop (j + 1 + 1)) with
       | false =>
         have HB1 := Lib.hid hb
         have q1 := HR.out
         rw [if_pos (.inr hb)] at q1
         have HQr := Lib.hid q1
         clear q1 hb HR
         go_wp2_with fail
         refine (XS3.out.is ⟨#[40]⟩ _ l_bo false (by rw [XS3.out.sg (c := 40) (r := []) (by decide)]; exact HB1.out)).mono ?_
         rintro r w4 ⟨rfl, S4, o4⟩
         have HE_4 := Lib.hid (HE_3.out.on o4 HLT.out)
         have XS4 := Lib.hid S4
         clear S4 o4 HE_3 XS3
         go_wp2_with fail
         refine (XS4.out.node ⟨22, 0, t3.s, ⟨#[]⟩⟩ 22 [⟨A, c, e⟩] #[.slice A e.length c] rfl (mem1 HE_4.out) (by have := HLE.out; simp [catN]; omega) (by simp) (E := opS 22 t3.s e) (by simp [catN, opS])).mono ?_
         rintro r w5 ⟨A5, c5, rfl, E5, S5, o5⟩
         have HEm := Lib.hid E5
         have HSm := Lib.hid S5
         have HLm : Hid ((opS 22 t3.s e).length ≤ 302 * (j + 1 + 1 + 1)) := by show _ ≤ _; simp [opS]; omega
         have HQm : Hid (pa gg (.po (opS 22 t3.s e)) (x.ts.drop (j + 1 + 1)) = Q) := HQr.out
         clear E5 S5 o5 HQr
         generalize opS 22 t3.s e = EE at HEm HLm HQm ⊢
         go_wp2_with fail
         go_roundg gg
         case measure => have := HGK.out; omega
         case rel => exact ⟨A5, c5, EE, j + 1 + 1, rfl, by omega, HLm.out, HEm.out, HSm.out, HQm.out⟩
       | true =>
         have HB1 := Lib.hid hb
         have q1 := HR.out
         rw [if_neg (by rw [hb]; simp)] at q1
         have HQr := Lib.hid q1
         clear q1 hb HR
         go_wp2_with fail
         refine (XS3.out.is ⟨#[40]⟩ _ l_bo true (by rw [XS3.out.sg (c := 40) (r := []) (by decide)]; exact HB1.out)).mono ?_
         rintro r w4 ⟨rfl, S4, o4⟩
         have HE_4 := Lib.hid (HE_3.out.on o4 HLT.out)
         have XS4 := Lib.hid S4
         clear S4 o4 HE_3 XS3
         go_wp2_with fail
         refine (XS4.out.need_yes ⟨#[40]⟩ [40] l_bo (by rw [XS4.out.sg (c := 40) (r := []) (by decide)]; exact HB1.out)).mono ?_
         rintro r w5 ⟨rfl, S5, o5⟩
         have HE_5 := Lib.hid (HE_4.out.on o5 HLT.out)
         have XS5 := Lib.hid S5
         clear S5 o5 HE_4 XS4
         go_wp2_with fail
         refine (XS5.out.call HDW.out HN.out trivial HQr.out).mono ?_
         rintro r w6 (⟨k, j, rfl, hp⟩ | ⟨A6, c6, e6, j6, rfl, E6, S6, o6, q6, l6, b6⟩)
         · have HP := Lib.hid hp
           clear hp
           go_wp2_with fail
           exact ⟨rfl, HP.out⟩
         have HE_6 := Lib.hid (HE_5.out.on o6 HLT.out)
         have HE6 := Lib.hid E6
         have XS6 := Lib.hid S6
         have XQ6 := Lib.hid q6
         have HL6 : Hid (e6.length ≤ 300) := l6
         have HG6 := Lib.hid b6
         clear E6 S6 q6 l6 b6 o6 HE_5 XS5 HQr
         go_wp2_with fail
         refine (XS6.out.op 25 22 [⟨A, c, e⟩, ⟨A6, c6, e6⟩] #[.slice A e.length c, .slice A6 e6.length c6] rfl (mem2 HE_6.out HE6.out) (by have := HLE.out; have := HL6.out; simp [catN]; omega) (by simp) (E := opX 25 (e ++ e6)) (by simp [catN, opX])).mono ?_
         rintro r w7 ⟨A7, c7, rfl, E7, S7, o7⟩
         have HEE := Lib.hid E7
         have XS7 := Lib.hid S7
         have HLm : Hid ((opX 25 (e ++ e6)).length ≤ 302 * (j6 + 1)) := by have h1 := HG6.out; have h2 := HL6.out; simp only [PT.starts] at h1; show _ ≤ _; simp [opX]; omega
         clear E7 S7 o7
         have HQm : Hid (needR [41] (x.ts.drop j6) (fun r3 => pa gg (.po (opX 25 (e ++ e6))) r3) = Q) := XQ6.out
         clear XQ6
         generalize opX 25 (e ++ e6) = EE at HEE HLm HQm ⊢
         go_wp2_with fail
         refine (XS7.out.needS ⟨#[41]⟩ l_bc (by decide) HQm.out).mono ?_
         rintro r w8 (⟨k, j, rfl, hp⟩ | ⟨rfl, S8, o8, q8⟩)
         · have HP := Lib.hid hp
           clear hp
           go_wp2_with fail
           exact ⟨rfl, HP.out⟩
         have HEE_8 := Lib.hid (HEE.out.on o8 HLT.out)
         have XS8 := Lib.hid S8
         have XQ8 := Lib.hid q8
         clear S8 q8 o8 HEE XS7 HQm
         have HQn : Hid (pa gg (.po EE) (x.ts.drop (j6 + 1)) = Q) := XQ8.out
         go_wp2_with fail
         go_roundg gg
         case measure => have := HGK.out; omega
         case rel => exact ⟨A7, c7, EE, j6 + 1, rfl, by omega, by have := HLm.out; omega, HEE_8.out, XS8.out, HQn.out⟩
     have hn0 := hw0
     clear hw0
     by_cases hw1 : t3.s.toList = [99, 111, 110, 116, 97, 105, 110, 115, 65, 108, 108]
     · have hd : dotOp t3.s.toList = 26 := by rw [hw1]; rfl
       have s0 : (t3.s.toList == [99, 111, 110, 116, 97, 105, 110, 115]) = false := by simp [hw1]
       have s1 : (t3.s.toList == [99, 111, 110, 116, 97, 105, 110, 115, 65, 108, 108]) = true := by simp [hw1]
       have s2 : (t3.s.toList == [99, 111, 110, 116, 97, 105, 110, 115, 65, 110, 121]) = false := by simp [hw1]
       rw [hd] at HR
       clear hd hw1 hn0
       cases hb : hdS [40] (x.ts.drop (j + 1 + 1)) with
       | false =>
         have HB1 := Lib.hid hb
         have q1 := HR.out
         rw [if_pos (.inr hb)] at q1
         have HQr := Lib.hid q1
         clear q1 hb HR
         go_wp2_with fail
         refine (XS3.out.is ⟨#[40]⟩ _ l_bo false (by rw [XS3.out.sg (c := 40) (r := []) (by decide)]; exact HB1.out)).mono ?_
         rintro r w4 ⟨rfl, S4, o4⟩
         have HE_4 := Lib.hid (HE_3.out.on o4 HLT.out)
         have XS4 := Lib.hid S4
         clear S4 o4 HE_3 XS3
         go_wp2_with fail
         refine (XS4.out.node ⟨22, 0, t3.s, ⟨#[]⟩⟩ 22 [⟨A, c, e⟩] #[.slice A e.length c] rfl (mem1 HE_4.out) (by have := HLE.out; simp [catN]; omega) (by simp) (E := opS 22 t3.s e) (by simp [catN, opS])).mono ?_
         rintro r w5 ⟨A5, c5, rfl, E5, S5, o5⟩
         have HEm := Lib.hid E5
         have HSm := Lib.hid S5
         have HLm : Hid ((opS 22 t3.s e).length ≤ 302 * (j + 1 + 1 + 1)) := by show _ ≤ _; simp [opS]; omega
         have HQm : Hid (pa gg (.po (opS 22 t3.s e)) (x.ts.drop (j + 1 + 1)) = Q) := HQr.out
         clear E5 S5 o5 HQr
         generalize opS 22 t3.s e = EE at HEm HLm HQm ⊢
         go_wp2_with fail
         go_roundg gg
         case measure => have := HGK.out; omega
         case rel => exact ⟨A5, c5, EE, j + 1 + 1, rfl, by omega, HLm.out, HEm.out, HSm.out, HQm.out⟩
       | true =>
         have HB1 := Lib.hid hb
         have q1 := HR.out
         rw [if_neg (by rw [hb]; simp)] at q1
         have HQr := Lib.hid q1
         clear q1 hb HR
         go_wp2_with fail
         refine (XS3.out.is ⟨#[40]⟩ _ l_bo true (by rw [XS3.out.sg (c := 40) (r := []) (by decide)]; exact HB1.out)).mono ?_
         rintro r w4 ⟨rfl, S4, o4⟩
         have HE_4 := Lib.hid (HE_3.out.on o4 HLT.out)
         have XS4 := Lib.hid S4
         clear S4 o4 HE_3 XS3
         go_wp2_with fail
         refine (XS4.out.need_yes ⟨#[40]⟩ [40] l_bo (by rw [XS4.out.sg (c := 40) (r := []) (by decide)]; exact HB1.out)).mono ?_
         rintro r w5 ⟨rfl, S5, o5⟩
         have HE_5 := Lib.hid (HE_4.out.on o5 HLT.out)
         have XS5 := Lib.hid S5
         clear S5 o5 HE_4 XS4
         go_wp2_with fail
         refine (XS5.out.call HDW.out HN.out trivial HQr.out).mono ?_
         rintro r w6 (⟨k, j, rfl, hp⟩ | ⟨A6, c6, e6, j6, rfl, E6, S6, o6, q6, l6, b6⟩)
         · have HP := Lib.hid hp
           clear hp
           go_wp2_with fail
           exact ⟨rfl, HP.out⟩
         have HE_6 := Lib.hid (HE_5.out.on o6 HLT.out)
         have HE6 := Lib.hid E6
         have XS6 := Lib.hid S6
         have XQ6 := Lib.hid q6
         have HL6 : Hid (e6.length ≤ 300) := l6
         have HG6 := Lib.hid b6
         clear E6 S6 q6 l6 b6 o6 HE_5 XS5 HQr
         go_wp2_with fail
         refine (XS6.out.op 26 22 [⟨A, c, e⟩, ⟨A6, c6, e6⟩] #[.slice A e.length c, .slice A6 e6.length c6] rfl (mem2 HE_6.out HE6.out) (by have := HLE.out; have := HL6.out; simp [catN]; omega) (by simp) (E := opX 26 (e ++ e6)) (by simp [catN, opX])).mono ?_
         rintro r w7 ⟨A7, c7, rfl, E7, S7, o7⟩
         have HEE := Lib.hid E7
         have XS7 := Lib.hid S7
         have HLm : Hid ((opX 26 (e ++ e6)).length ≤ 302 * (j6 + 1)) := by have h1 := HG6.out; have h2 := HL6.out; simp only [PT.starts] at h1; show _ ≤ _; simp [opX]; omega
         clear E7 S7 o7
         have HQm : Hid (needR [41] (x.ts.drop j6) (fun r3 => pa gg (.po (opX 26 (e ++ e6))) r3) = Q) := XQ6.out
         clear XQ6
         generalize opX 26 (e ++ e6) = EE at HEE HLm HQm ⊢
         go_wp2_with fail
         refine (XS7.out.needS ⟨#[41]⟩ l_bc (by decide) HQm.out).mono ?_
         rintro r w8 (⟨k, j, rfl, hp⟩ | ⟨rfl, S8, o8, q8⟩)
         · have HP := Lib.hid hp
           clear hp
           go_wp2_with fail
           exact ⟨rfl, HP.out⟩
         have HEE_8 := Lib.hid (HEE.out.on o8 HLT.out)
         have XS8 := Lib.hid S8
         have XQ8 := Lib.hid q8
         clear S8 q8 o8 HEE XS7 HQm
         have HQn : Hid (pa gg (.po EE) (x.ts.drop (j6 + 1)) = Q) := XQ8.out
         go_wp2_with fail
         go_roundg gg
         case measure => have := HGK.out; omega
         case rel => exact ⟨A7, c7, EE, j6 + 1, rfl, by omega, by have := HLm.out; omega, HEE_8.out, XS8.out, HQn.out⟩
     have hn1 := hw1
     clear hw1
     by_cases hw2 : t3.s.toList = [99, 111, 110, 116, 97, 105, 110, 115, 65, 110, 121]
     · have hd : dotOp t3.s.toList = 27 := by rw [hw2]; rfl
       have s0 : (t3.s.toList == [99, 111, 110, 116, 97, 105, 110, 115]) = false := by simp [hw2]
       have s1 : (t3.s.toList == [99, 111, 110, 116, 97, 105, 110, 115, 65, 108, 108]) = false := by simp [hw2]
       have s2 : (t3.s.toList == [99, 111, 110, 116, 97, 105, 110, 115, 65, 110, 121]) = true := by simp [hw2]
       rw [hd] at HR
       clear hd hw2 hn0 hn1
       cases hb : hdS [40] (x.ts.drop (j + 1 + 1)) with
       | false =>
         have HB1 := Lib.hid hb
         have q1 := HR.out
         rw [if_pos (.inr hb)] at q1
         have HQr := Lib.hid q1
         clear q1 hb HR
         go_wp2_with fail
         refine (XS3.out.is ⟨#[40]⟩ _ l_bo false (by rw [XS3.out.sg (c := 40) (r := []) (by decide)]; exact HB1.out)).mono ?_
         rintro r w4 ⟨rfl, S4, o4⟩
         have HE_4 := Lib.hid (HE_3.out.on o4 HLT.out)
         have XS4 := Lib.hid S4
         clear S4 o4 HE_3 XS3
         go_wp2_with fail
         refine (XS4.out.node ⟨22, 0, t3.s, ⟨#[]⟩⟩ 22 [⟨A, c, e⟩] #[.slice A e.length c] rfl (mem1 HE_4.out) (by have := HLE.out; simp [catN]; omega) (by simp) (E := opS 22 t3.s e) (by simp [catN, opS])).mono ?_
         rintro r w5 ⟨A5, c5, rfl, E5, S5, o5⟩
         have HEm := Lib.hid E5
         have HSm := Lib.hid S5
         have HLm : Hid ((opS 22 t3.s e).length ≤ 302 * (j + 1 + 1 + 1)) := by show _ ≤ _; simp [opS]; omega
         have HQm : Hid (pa gg (.po (opS 22 t3.s e)) (x.ts.drop (j + 1 + 1)) = Q) := HQr.out
         clear E5 S5 o5 HQr
         generalize opS 22 t3.s e = EE at HEm HLm HQm ⊢
         go_wp2_with fail
         go_roundg gg
         case measure => have := HGK.out; omega
         case rel => exact ⟨A5, c5, EE, j + 1 + 1, rfl, by omega, HLm.out, HEm.out, HSm.out, HQm.out⟩
       | true =>
         have HB1 := Lib.hid hb
         have q1 := HR.out
         rw [if_neg (by rw [hb]; simp)] at q1
         have HQr := Lib.hid q1
         clear q1 hb HR
         go_wp2_with fail
         refine (XS3.out.is ⟨#[40]⟩ _ l_bo true (by rw [XS3.out.sg (c := 40) (r := []) (by decide)]; exact HB1.out)).mono ?_
         rintro r w4 ⟨rfl, S4, o4⟩
         have HE_4 := Lib.hid (HE_3.out.on o4 HLT.out)
         have XS4 := Lib.hid S4
         clear S4 o4 HE_3 XS3
         go_wp2_with fail
         refine (XS4.out.need_yes ⟨#[40]⟩ [40] l_bo (by rw [XS4.out.sg (c := 40) (r := []) (by decide)]; exact HB1.out)).mono ?_
         rintro r w5 ⟨rfl, S5, o5⟩
         have HE_5 := Lib.hid (HE_4.out.on o5 HLT.out)
         have XS5 := Lib.hid S5
         clear S5 o5 HE_4 XS4
         go_wp2_with fail
         refine (XS5.out.call HDW.out HN.out trivial HQr.out).mono ?_
         rintro r w6 (⟨k, j, rfl, hp⟩ | ⟨A6, c6, e6, j6, rfl, E6, S6, o6, q6, l6, b6⟩)
         · have HP := Lib.hid hp
           clear hp
           go_wp2_with fail
           exact ⟨rfl, HP.out⟩
         have HE_6 := Lib.hid (HE_5.out.on o6 HLT.out)
         have HE6 := Lib.hid E6
         have XS6 := Lib.hid S6
         have XQ6 := Lib.hid q6
         have HL6 : Hid (e6.length ≤ 300) := l6
         have HG6 := Lib.hid b6
         clear E6 S6 q6 l6 b6 o6 HE_5 XS5 HQr
         go_wp2_with fail
         refine (XS6.out.op 27 22 [⟨A, c, e⟩, ⟨A6, c6, e6⟩] #[.slice A e.length c, .slice A6 e6.length c6] rfl (mem2 HE_6.out HE6.out) (by have := HLE.out; have := HL6.out; simp [catN]; omega) (by simp) (E := opX 27 (e ++ e6)) (by simp [catN, opX])).mono ?_
         rintro r w7 ⟨A7, c7, rfl, E7, S7, o7⟩
         have HEE := Lib.hid E7
         have XS7 := Lib.hid S7
         have HLm : Hid ((opX 27 (e ++ e6)).length ≤ 302 * (j6 + 1)) := by have h1 := HG6.out; have h2 := HL6.out; simp only [PT.starts] at h1; show _ ≤ _; simp [opX]; omega
         clear E7 S7 o7
         have HQm : Hid (needR [41] (x.ts.drop j6) (fun r3 => pa gg (.po (opX 27 (e ++ e6))) r3) = Q) := XQ6.out
         clear XQ6
         generalize opX 27 (e ++ e6) = EE at HEE HLm HQm ⊢
         go_wp2_with fail
         refine (XS7.out.needS ⟨#[41]⟩ l_bc (by decide) HQm.out).mono ?_
         rintro r w8 (⟨k, j, rfl, hp⟩ | ⟨rfl, S8, o8, q8⟩)
         · have HP := Lib.hid hp
           clear hp
           go_wp2_with fail
           exact ⟨rfl, HP.out⟩
         have HEE_8 := Lib.hid (HEE.out.on o8 HLT.out)
         have XS8 := Lib.hid S8
         have XQ8 := Lib.hid q8
         clear S8 q8 o8 HEE XS7 HQm
         have HQn : Hid (pa gg (.po EE) (x.ts.drop (j6 + 1)) = Q) := XQ8.out
         go_wp2_with fail
         go_roundg gg
         case measure => have := HGK.out; omega
         case rel => exact ⟨A7, c7, EE, j6 + 1, rfl, by omega, by have := HLm.out; omega, HEE_8.out, XS8.out, HQn.out⟩
     have hn2 := hw2
     clear hw2
     have hd : dotOp t3.s.toList = 0 := by unfold dotOp; rw [if_neg hn0, if_neg hn1, if_neg hn2]
     have s0 : (t3.s.toList == [99, 111, 110, 116, 97, 105, 110, 115]) = false := by simpa using hn0
     have s1 : (t3.s.toList == [99, 111, 110, 116, 97, 105, 110, 115, 65, 108, 108]) = false := by simpa using hn1
     have s2 : (t3.s.toList == [99, 111, 110, 116, 97, 105, 110, 115, 65, 110, 121]) = false := by simpa using hn2
     have q1 := HR.out
     rw [if_pos (.inl hd)] at q1
     have HQr := Lib.hid q1
     clear q1 hd hn0 hn1 hn2 HR
     go_wp2_with fail
     refine (XS3.out.node ⟨22, 0, t3.s, ⟨#[]⟩⟩ 22 [⟨A, c, e⟩] #[.slice A e.length c] rfl (mem1 HE_3.out) (by have := HLE.out; simp [catN]; omega) (by simp) (E := opS 22 t3.s e) (by simp [catN, opS])).mono ?_
     rintro r w4 ⟨A4, c4, rfl, E4, S4, o4⟩
     have HEm := Lib.hid E4
     have HSm := Lib.hid S4
     have HLm : Hid ((opS 22 t3.s e).length ≤ 302 * (j + 1 + 1 + 1)) := by show _ ≤ _; simp [opS]; omega
     have HQm : Hid (pa gg (.po (opS 22 t3.s e)) (x.ts.drop (j + 1 + 1)) = Q) := HQr.out
     clear E4 S4 o4 HQr
     generalize opS 22 t3.s e = EE at HEm HLm HQm ⊢
     go_wp2_with fail
     go_roundg gg
     case measure => have := HGK.out; omega
     case rel => exact ⟨A4, c4, EE, j + 1 + 1, rfl, by omega, HLm.out, HEm.out, HSm.out, HQm.out⟩
end Go.Proofs.YtbggbcnfkcadjaaGreatDoor
