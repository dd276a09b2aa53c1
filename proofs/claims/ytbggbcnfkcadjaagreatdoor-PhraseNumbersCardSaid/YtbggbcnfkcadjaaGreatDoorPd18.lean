/-
  THE WALKS: (*parser).named, atom.
  THE WALKS: (*parser).post.
  THE WALKS: (*parser).rec.
  THE WALKS: the parser as a whole; the deferred closure of phrase.Parse.
  THE WALKS: strings.NewReplacer. THE WALKS: (*strings.Replacer).build. THE WALKS: (*strings.Replacer).buildOnce. THE WALKS: (*strings.byteStringReplacer).Replace. THE WALKS: sync.Once, one goroutine. THE WALKS: (*strings.Replacer).Replace of a fresh replacer; name.Quote.
  THE WALKS: word.spelt.
  THE WALKS: word.Spell.
  THE WALKS: phrase.Parse: for any words.
-/
import Derived.Test.YtbggbcnfkcadjaaGreatDoorPd17
import Derived.Test.YtbggbcnfkcadjaaGreatDoorPd16
import Derived.Test.YtbggbcnfkcadjaaGreatDoorPd08
import Derived.Deep.LoopGhost
import Derived.Test.YtbggbcnfkcadjaaGreatDoorPd09
import Derived.Recover
import Derived.Test.YtbggbcnfkcadjaaGreatDoorPd01
import Derived.LoopN
import Derived.WalkSpells
import Derived.Laws.IdiomStrings
import Derived.Deep.WholeRow
import Derived.Test.YtbggbcnfkcadjaaGreatDoorPd03
import Derived.Test.YtbggbcnfkcadjaaGreatDoorPd02
import Derived.Deep.DeepCutAuto
import Derived.Deep.QuietTactic
import Derived.BigQuiet
import Derived.Laws.CopyOwn
import Derived.Deep.RegionHeld3
import Derived.IntWalk
import Derived.Conc.MuLone
import Derived.Conc.MuData
import Derived.RegionCalls
import Derived.Defers
import Derived.Laws.LoneSync
import Derived.Test.YtbggbcnfkcadjaaGreatDoorPd10
import Derived.Laws.StructEq
namespace Go.Proofs.YtbggbcnfkcadjaaGreatDoor
set_option maxRecDepth 100000
open Go.RowKit Go.Sort
theorem l_true : (⟨#[116, 114, 117, 101]⟩ : ByteArray).toList = wTrue := bsOf_list [116, 114, 117, 101]
theorem l_false : (⟨#[102, 97, 108, 115, 101]⟩ : ByteArray).toList = wFalse := bsOf_list [102, 97, 108, 115, 101]
theorem l_ro : (⟨#[40]⟩ : ByteArray).toList = [40] := bsOf_list [40]
theorem l_rc : (⟨#[41]⟩ : ByteArray).toList = [41] := bsOf_list [41]
theorem l_so : (⟨#[91]⟩ : ByteArray).toList = [91] := bsOf_list [91]
theorem l_co : (⟨#[123]⟩ : ByteArray).toList = [123] := bsOf_list [123]
def namedR (t : Tk) (r : List Tk) : Pr :=
 if hdS wCol r = true then wordR 3 r.tail fun s r2 => .ok [⟨4, 0, t.s, s⟩] r2
 else if t.s.toList = wTrue then .ok [⟨1, 1, ⟨#[]⟩, ⟨#[]⟩⟩] r
 else if t.s.toList = wFalse then .ok [⟨1, 0, ⟨#[]⟩, ⟨#[]⟩⟩] r
 else if reserved t.s.toList = true then .bad 1 r
 else .ok [⟨8, 0, t.s, ⟨#[]⟩⟩] r
set_option maxHeartbeats 6400000 in
theorem St.named {x : Px} {w W : World} {i : Nat} (h : St x w W i) {t : Tk} (ht : x.ts[i]? = some t) (hk : t.kind = 1) {Q : Pr} (hQ : namedR t (x.ts.drop (i + 1)) = Q) :
   Calls Tryz.prog 235 #[.pointer (some ⟨x.pb, 0, none⟩)] W (PanOr x w Q fun r W' => ∃ A c n, r = .returned (.slice A n c) ∧ PaPost x w Q (.returned (.slice A n c)) W') := by
 have n1 : hdW wCol (x.ts.drop (i + 1)) = hdS wCol (x.ts.drop (i + 1)) := h.sg (by decide) (i + 1)
 have n2 : hdW wTrue (x.ts.drop i) = (t.s.toList == wTrue) := by rw [drop_cons ht]; show ((t.kind == 1 || t.kind == 5) && t.s.toList == wTrue) = _; rw [hk]; rfl
 have n3 : hdW wFalse (x.ts.drop i) = (t.s.toList == wFalse) := by rw [drop_cons ht]; show ((t.kind == 1 || t.kind == 5) && t.s.toList == wFalse) = _; rw [hk]; rfl
 have hlt : i < x.ts.length := (List.getElem?_eq_some_iff.1 ht).1
 have hlen := h.inn.len
 have HS0 := Lib.hid h
 have HLT := Lib.hid h.lt
 have HT := Lib.hid ht
 have HK := Lib.hid hk
 have hqq : (if hdS wCol (x.ts.drop (i + 1)) = true then wordR 3 (x.ts.drop (i + 1)).tail fun s r2 => .ok [⟨4, 0, t.s, s⟩] r2
   else if t.s.toList = wTrue then .ok [⟨1, 1, ⟨#[]⟩, ⟨#[]⟩⟩] (x.ts.drop (i + 1))
   else if t.s.toList = wFalse then .ok [⟨1, 0, ⟨#[]⟩, ⟨#[]⟩⟩] (x.ts.drop (i + 1))
   else if reserved t.s.toList = true then .bad 1 (x.ts.drop (i + 1))
   else .ok [⟨8, 0, t.s, ⟨#[]⟩⟩] (x.ts.drop (i + 1))) = Q := hQ
 rw [tail_drop'] at hqq
 clear h ht hk hQ
 cases b1 : hdS wCol (x.ts.drop (i + 1)) with
 | true =>
   have hlt2 : i + 1 < x.ts.length := hd_lt (f := hdS wCol) rfl b1
   rw [b1] at n1
   rw [b1, if_pos rfl] at hqq
   have N1 := Lib.hid n1
   have HQ0 := Lib.hid hqq
   clear n1 n2 n3 hqq b1
   go_enter Tryz.func235, Tryz.ntmps235
   go_wp2_with fail
   refine (HS0.out.ahead ⟨#[58, 58]⟩ wCol l_col true N1.out).mono ?_
   rintro r w1 ⟨rfl, S1, -⟩
   have HS1 := Lib.hid S1
   clear S1
   go_wp2_with fail
   refine (HS1.out.word_yes 1 t HT.out HK.out).mono ?_
   rintro r w2 ⟨rfl, S2, -⟩
   have HS2 := Lib.hid S2
   have k1 : w2.cell? ⟨x.pb, 1, none⟩ = some (.int .i64 ((i + 1 : Nat) : Int)) := S2.blk.cell 1
   have f1 : w2.frozen? ⟨x.pb, 1, none⟩ = false := S2.blk.frozen 1
   have s64 := S2.i64
   clear S2
   go_wp2_with fail
   have HS3 : Hid (St x w (w2.setCell ⟨x.pb, 1, none⟩ (.int .i64 ((i : Int) + 1 + 1))) (i + 1 + 1)) := HS2.out.step hlt2
   clear HS2 k1 f1 s64
   generalize w2.setCell ⟨x.pb, 1, none⟩ (.int .i64 ((i : Int) + 1 + 1)) = w3 at HS3 ⊢
   go_wp2_with fail
   refine (HS3.out.word 3 (by decide) HQ0.out).mono ?_
   rintro r w4 (⟨k, j, rfl, hp⟩ | ⟨u, hu, rfl, S4, o4, z4, kd4, q4⟩)
   · have HP := Lib.hid hp
     clear hp
     go_wp2_with fail
     exact ⟨rfl, .inl ⟨_, _, rfl, HP.out⟩⟩
   have HF := Lib.hid (S4.leaf ⟨4, 0, t.s, u.s⟩ q4)
   clear hu S4 o4 z4 kd4 q4
   go_wp2_with fail
   go_ret
   exact .inr ⟨_, _, _, rfl, HF.out⟩
 | false =>
   rw [b1] at n1
   rw [b1, if_neg (by simp)] at hqq
   have N1 := Lib.hid n1
   clear n1 b1
   by_cases e1 : t.s.toList = wTrue
   · rw [if_pos e1] at hqq
     have N2 : Hid (hdW wTrue (x.ts.drop i) = true) := by show _ = _; rw [n2]; simpa using e1
     have HQ0 := Lib.hid hqq
     clear n2 n3 hqq e1
     go_enter Tryz.func235, Tryz.ntmps235
     go_wp2_with fail
     refine (HS0.out.ahead ⟨#[58, 58]⟩ wCol l_col false N1.out).mono ?_
     rintro r w1 ⟨rfl, S1, -⟩
     have HS1 := Lib.hid S1
     clear S1
     go_wp2_with fail
     refine (HS1.out.take_yes ⟨#[116, 114, 117, 101]⟩ wTrue l_true N2.out).mono ?_
     rintro r w2 ⟨rfl, S2, -⟩
     have HF := Lib.hid (S2.leaf ⟨1, 1, ⟨#[]⟩, ⟨#[]⟩⟩ HQ0.out)
     clear S2
     go_wp2_with fail
     go_ret
     exact .inr ⟨_, _, _, rfl, HF.out⟩
   rw [if_neg e1] at hqq
   have N2 : Hid (hdW wTrue (x.ts.drop i) = false) := by show _ = _; rw [n2]; simpa using e1
   clear n2 e1
   by_cases e2 : t.s.toList = wFalse
   · rw [if_pos e2] at hqq
     have N3 : Hid (hdW wFalse (x.ts.drop i) = true) := by show _ = _; rw [n3]; simpa using e2
     have HQ0 := Lib.hid hqq
     clear n3 hqq e2
     go_enter Tryz.func235, Tryz.ntmps235
     go_wp2_with fail
     refine (HS0.out.ahead ⟨#[58, 58]⟩ wCol l_col false N1.out).mono ?_
     rintro r w1 ⟨rfl, S1, -⟩
     have HS1 := Lib.hid S1
     clear S1
     go_wp2_with fail
     refine (HS1.out.take_no ⟨#[116, 114, 117, 101]⟩ wTrue l_true N2.out).mono ?_
     rintro r w2 ⟨rfl, S2, -⟩
     have HS2 := Lib.hid S2
     clear S2
     go_wp2_with fail
     refine (HS2.out.take_yes ⟨#[102, 97, 108, 115, 101]⟩ wFalse l_false N3.out).mono ?_
     rintro r w3 ⟨rfl, S3, -⟩
     have HF := Lib.hid (S3.leaf ⟨1, 0, ⟨#[]⟩, ⟨#[]⟩⟩ HQ0.out)
     clear S3
     go_wp2_with fail
     go_ret
     exact .inr ⟨_, _, _, rfl, HF.out⟩
   rw [if_neg e2] at hqq
   have N3 : Hid (hdW wFalse (x.ts.drop i) = false) := by show _ = _; rw [n3]; simpa using e2
   clear n3 e2
   obtain ⟨b, o, hA, -⟩ := HS0.out.inn.at_ HT.out
   have ti := tok_at b o x.ts.length x.c i hlt
   have HA := Lib.hid hA
   clear hA
   obtain ⟨rs, hrs⟩ : ∃ rs, reserved t.s.toList = rs := ⟨_, rfl⟩
   have HRS := Lib.hid (fun W => tree_Reserved t.s W)
   rw [hrs] at HRS hqq
   clear hrs
   cases rs with
   | true =>
     rw [if_pos rfl] at hqq
     have HQ0 := Lib.hid hqq
     clear hqq
     go_enter Tryz.func235, Tryz.ntmps235
     go_wp2_with fail
     refine (HS0.out.ahead ⟨#[58, 58]⟩ wCol l_col false N1.out).mono ?_
     rintro r w1 ⟨rfl, S1, -⟩
     have HS1 := Lib.hid S1
     clear S1
     go_wp2_with fail
     refine (HS1.out.take_no ⟨#[116, 114, 117, 101]⟩ wTrue l_true N2.out).mono ?_
     rintro r w2 ⟨rfl, S2, -⟩
     have HS2 := Lib.hid S2
     clear S2
     go_wp2_with fail
     refine (HS2.out.take_no ⟨#[102, 97, 108, 115, 101]⟩ wFalse l_false N3.out).mono ?_
     rintro r w3 ⟨rfl, S3, -⟩
     have HS3 := Lib.hid S3
     clear S3
     go_wp2_with fail
     refine wp_region_ord (S := PhS x i i b o t) [(0, false), (1, false), (2, false), (3, false), (4, false), (5, false), (6, false), (7, false), (8, false), (9, false), (10, false), (11, true), (12, true)] (by kernel_rfl) (by kernel_rfl) (fun _ _ _ _ _ h => h) (HS3.out.drew.phs HT.out HA.out) (fun hW' => ?_)
     simp only [ordOps, List.filterMap_cons, List.filterMap_nil, List.getElem?_cons_zero, List.getElem?_cons_succ, Option.map_some]
     (repeat (first | (refine hd_take (v := ?_) (by rfl) ?_ ?_; rotate_left; (focus (intro W hW; obtain ⟨s0, s1, s2, s3, s4⟩ := hW; go_simp; try with_reducible rfl)); simp only [Act.put, List.setIfInBounds_toArray, List.set_cons_zero, List.set_cons_succ]) | (refine hd_skip (by rfl) ?_; simp only [Act.put, List.setIfInBounds_toArray, List.set_cons_zero, List.set_cons_succ])))
     clear hW'
     refine hd_call (fun K hK => ?_)
     go_simp
     refine (HRS.out _).mono ?_
     rintro r w4 ⟨rfl, rfl⟩
     refine hK _ _ (HS3.out.drew.phs HT.out HA.out) ?_
     clear hK K
     refine hd_call (fun K hK => ?_)
     go_simp
     refine hK _ _ (HS3.out.drew.phs HT.out HA.out) ?_
     clear hK K
     refine hd_nil ?_
     have HS4 := Lib.hid HS3.out.drew
     generalize w3.drew = w4 at HS4 ⊢
     have HF := Lib.hid (ph_reserved x i w4 HS4.out.inn HS4.out.blk HS4.out.le)
     go_wp2_with fail
     refine HF.out.mono ?_
     rintro r w5 ⟨rfl, o5⟩
     have HO := Lib.hid (HS4.out.only.trans (o5.mono HS4.out.only.size))
     clear o5
     go_wp2_with fail
     exact ⟨rfl, .inl ⟨1, i + 1, rfl, by rw [← HQ0.out]; exact PaPost.no HO.out hlt rfl⟩⟩
   | false =>
     rw [if_neg (by simp)] at hqq
     have HQ0 := Lib.hid hqq
     clear hqq
     go_enter Tryz.func235, Tryz.ntmps235
     go_wp2_with fail
     refine (HS0.out.ahead ⟨#[58, 58]⟩ wCol l_col false N1.out).mono ?_
     rintro r w1 ⟨rfl, S1, -⟩
     have HS1 := Lib.hid S1
     clear S1
     go_wp2_with fail
     refine (HS1.out.take_no ⟨#[116, 114, 117, 101]⟩ wTrue l_true N2.out).mono ?_
     rintro r w2 ⟨rfl, S2, -⟩
     have HS2 := Lib.hid S2
     clear S2
     go_wp2_with fail
     refine (HS2.out.take_no ⟨#[102, 97, 108, 115, 101]⟩ wFalse l_false N3.out).mono ?_
     rintro r w3 ⟨rfl, S3, -⟩
     have HS3 := Lib.hid S3
     clear S3
     go_wp2_with fail
     refine wp_region_ord (S := PhS x i i b o t) [(0, false), (1, false), (2, false), (3, false), (4, false), (5, false), (6, false), (7, false), (8, false), (9, false), (10, false), (11, true), (12, true)] (by kernel_rfl) (by kernel_rfl) (fun _ _ _ _ _ h => h) (HS3.out.drew.phs HT.out HA.out) (fun hW' => ?_)
     simp only [ordOps, List.filterMap_cons, List.filterMap_nil, List.getElem?_cons_zero, List.getElem?_cons_succ, Option.map_some]
     (repeat (first | (refine hd_take (v := ?_) (by rfl) ?_ ?_; rotate_left; (focus (intro W hW; obtain ⟨s0, s1, s2, s3, s4⟩ := hW; go_simp; try with_reducible rfl)); simp only [Act.put, List.setIfInBounds_toArray, List.set_cons_zero, List.set_cons_succ]) | (refine hd_skip (by rfl) ?_; simp only [Act.put, List.setIfInBounds_toArray, List.set_cons_zero, List.set_cons_succ])))
     clear hW'
     refine hd_call (fun K hK => ?_)
     go_simp
     refine (HRS.out _).mono ?_
     rintro r w4 ⟨rfl, rfl⟩
     refine hK _ _ (HS3.out.drew.phs HT.out HA.out) ?_
     clear hK K
     refine hd_call (fun K hK => ?_)
     go_simp
     refine hK _ _ (HS3.out.drew.phs HT.out HA.out) ?_
     clear hK K
     refine hd_nil ?_
     have HS4 := Lib.hid HS3.out.drew
     generalize w3.drew = w4 at HS4 ⊢
     go_wp2_with fail
     refine (HS4.out.word_yes 1 t HT.out HK.out).mono ?_
     rintro r w5 ⟨rfl, S5, -⟩
     have HF := Lib.hid (S5.leaf ⟨8, 0, t.s, ⟨#[]⟩⟩ HQ0.out)
     clear S5
     go_wp2_with fail
     go_ret
     exact .inr ⟨_, _, _, rfl, HF.out⟩
theorem atomR_num {wh se re : List Tk → Pr} {ts : List Tk} {i : Nat} {t : Tk} (ht : ts[i]? = some t) (hk : t.kind = 2) : atomR wh se re (ts.drop i) = wordR 2 (ts.drop i) (fun s r => numA ([] ++ s.toList) (ts.drop i) r) := by
 rw [wordR_yes ht hk, drop_cons ht]
 unfold atomR
 dsimp only
 rw [if_pos hk]; rfl
theorem atomR_txt {wh se re : List Tk → Pr} {ts : List Tk} {i : Nat} {t : Tk} (ht : ts[i]? = some t) (hk : t.kind = 3) : atomR wh se re (ts.drop i) = wordR 3 (ts.drop i) (fun s r => .ok [⟨3, 0, s, ⟨#[]⟩⟩] r) := by
 rw [wordR_yes ht hk, drop_cons ht]
 unfold atomR
 dsimp only
 rw [if_neg (by omega), if_pos hk]
theorem atomR_slot {wh se re : List Tk → Pr} {ts : List Tk} {i : Nat} {t : Tk} (ht : ts[i]? = some t) (hk : t.kind = 4) : atomR wh se re (ts.drop i) = wordR 4 (ts.drop i) (fun s r => .ok [⟨8, 0, bsOf (63 :: s.toList), ⟨#[]⟩⟩] r) := by
 rw [wordR_yes ht hk, drop_cons ht]
 unfold atomR
 dsimp only
 rw [if_neg (by omega), if_neg (by omega), if_pos hk]
theorem atomR_name {wh se re : List Tk → Pr} {ts : List Tk} {i : Nat} {t : Tk} (ht : ts[i]? = some t) (hk : t.kind = 1) : atomR wh se re (ts.drop i) = namedR t (ts.drop (i + 1)) := by
 rw [drop_cons ht]
 unfold atomR
 dsimp only
 rw [if_neg (by omega), if_neg (by omega), if_neg (by omega), if_pos hk]; rfl
theorem minusR_word (r : List Tk) : minusR r = wordR 2 r (fun s r' => numA ([45] ++ s.toList) r r') := by
 cases r with
 | nil => rfl
 | cons u r' =>
   show (if u.kind = 2 then _ else _) = if (u.kind == 2) = true then _ else _
   by_cases h : u.kind = 2
   · rw [if_pos h, if_pos (by simpa using h)]; rfl
   · rw [if_neg h, if_neg (by simpa using h)]
theorem atomR_sign {wh se re : List Tk → Pr} {ts : List Tk} {i : Nat} (h1 : kdR (ts.drop i) ≠ 1) (h2 : kdR (ts.drop i) ≠ 2) (h3 : kdR (ts.drop i) ≠ 3) (h4 : kdR (ts.drop i) ≠ 4) :
   atomR wh se re (ts.drop i) = if hdS [45] (ts.drop i) = true then wordR 2 (ts.drop (i + 1)) (fun s r' => numA ([45] ++ s.toList) (ts.drop (i + 1)) r')
     else if hdS [40] (ts.drop i) = true then (wh (ts.drop (i + 1))).bind fun e r2 => needR [41] r2 fun r3 => .ok e r3
     else if hdS [91] (ts.drop i) = true then se (ts.drop (i + 1)) else if hdS [123] (ts.drop i) = true then re (ts.drop (i + 1)) else .bad 1 (ts.drop i) := by
 rw [← tail_drop', ← minusR_word]
 generalize ts.drop i = q at *
 cases q with
 | nil => rfl
 | cons t r =>
   have h1 : t.kind ≠ 1 := h1
   have h2 : t.kind ≠ 2 := h2
   have h3 : t.kind ≠ 3 := h3
   have h4 : t.kind ≠ 4 := h4
   unfold atomR
   dsimp only
   rw [if_neg h2, if_neg h3, if_neg h4, if_neg h1]
   rfl
set_option maxHeartbeats 12800000 in
theorem ph_atom (x : Px) (f : Nat) (hw : Does x 30 (pa f .whole)) (hse : Does x 236 (pa f (.se []))) (hre : Does x 237 (pa f (.re [] ⟨#[]⟩))) : Does x 224 (pa (f + 1) .atom) := by
 intro w i hx hB hi hnb
 have S0 := St.start hx hB hi
 have hlen := hx.len
 have HS0 := Lib.hid S0
 have HLT := Lib.hid hB.lt
 have HW := Lib.hid hw
 have HSE := Lib.hid hse
 have HRE := Lib.hid hre
 obtain ⟨Q, hQ⟩ : ∃ Q, pa (f + 1) .atom (x.ts.drop i) = Q := ⟨_, rfl⟩
 rw [hQ] at hnb ⊢
 have HN := Lib.hid hnb
 have hqq : atomR (pa f .whole) (pa f (.se [])) (pa f (.re [] ⟨#[]⟩)) (x.ts.drop i) = Q := hQ
 clear hx hB hw hse hre hnb hQ
 obtain ⟨kd, hkd⟩ : ∃ kd, kdR (x.ts.drop i) = kd := ⟨_, rfl⟩
 by_cases k2 : kd = 2
 · subst k2
   obtain ⟨t, ht, hk⟩ := kd_some hkd (by decide)
   rw [atomR_num ht hk] at hqq
   have HQ0 := Lib.hid hqq
   have HKD := Lib.hid hkd
   clear hqq hkd ht hk S0 HSE HRE HW
   go_enter Tryz.func224, Tryz.ntmps224
   go_wp2_with fail
   refine (HS0.out.kind 2 HKD.out).mono ?_
   rintro r w1 ⟨rfl, S1, o1⟩
   have XS1 := Lib.hid S1
   clear S1 o1  HS0
   go_wp2_with fail
   refine (XS1.out.number ⟨#[]⟩ [] l_nil (by decide) HQ0.out).mono ?_
   rintro r w9 (⟨k, j, rfl, hp⟩ | ⟨A9, c9, n9, rfl, hp⟩)
   · have HP := Lib.hid hp
     clear hp
     go_wp2_with fail
     exact ⟨rfl, HP.out⟩
   have HP := Lib.hid hp
   clear hp
   go_wp2_with fail
   go_ret
   exact HP.out
 by_cases k3 : kd = 3
 · subst k3
   obtain ⟨t, ht, hk⟩ := kd_some hkd (by decide)
   rw [atomR_txt ht hk] at hqq
   have HQ0 := Lib.hid hqq
   have HKD := Lib.hid hkd
   clear hqq hkd ht hk S0 HSE HRE HW
   go_enter Tryz.func224, Tryz.ntmps224
   go_wp2_with fail
   refine (HS0.out.kind 3 HKD.out).mono ?_
   rintro r w1 ⟨rfl, S1, o1⟩
   have XS1 := Lib.hid S1
   clear S1 o1  HS0
   go_wp2_with fail
   refine (XS1.out.word 3 (by decide) HQ0.out).mono ?_
   rintro r w9 (⟨k, j, rfl, hp⟩ | ⟨u, hu, rfl, S9, o9, z9, kd9, q9⟩)
   · have HP := Lib.hid hp
     clear hp
     go_wp2_with fail
     exact ⟨rfl, HP.out⟩
   have HF := Lib.hid (S9.leaf ⟨3, 0, u.s, ⟨#[]⟩⟩ q9)
   clear hu S9 o9 z9 kd9 q9
   go_wp2_with fail
   go_ret
   exact HF.out
 by_cases k4 : kd = 4
 · subst k4
   obtain ⟨t, ht, hk⟩ := kd_some hkd (by decide)
   rw [atomR_slot ht hk] at hqq
   have HQ0 := Lib.hid hqq
   have HKD := Lib.hid hkd
   clear hqq hkd ht hk S0 HSE HRE HW
   go_enter Tryz.func224, Tryz.ntmps224
   go_wp2_with fail
   refine (HS0.out.kind 4 HKD.out).mono ?_
   rintro r w1 ⟨rfl, S1, o1⟩
   have XS1 := Lib.hid S1
   clear S1 o1  HS0
   go_wp2_with fail
   refine (XS1.out.word 4 (by decide) HQ0.out).mono ?_
   rintro r w9 (⟨k, j, rfl, hp⟩ | ⟨u, hu, rfl, S9, o9, z9, kd9, q9⟩)
   · have HP := Lib.hid hp
     clear hp
     go_wp2_with fail
     exact ⟨rfl, HP.out⟩
   have HF := Lib.hid (S9.leaf ⟨8, 0, ⟨#[63]⟩ ++ u.s, ⟨#[]⟩⟩ (hQ := by rw [show (⟨#[63]⟩ : ByteArray) ++ u.s = bsOf (63 :: u.s.toList) from by rw [← bsOf_toList (⟨#[63]⟩ ++ u.s), cat_toList, show (⟨#[63]⟩ : ByteArray).toList = [63] from bsOf_list [63]]; rfl]; exact q9) (Q := Q))
   have hz : u.s.size ≤ 60 := z9.sz
   clear hu S9 o9 z9 kd9 q9
   go_wp2_with fail
   go_ret
   exact HF.out
 by_cases k1 : kd = 1
 · subst k1
   obtain ⟨t, ht, hk⟩ := kd_some hkd (by decide)
   rw [atomR_name ht hk] at hqq
   have HQ0 := Lib.hid hqq
   have HKD := Lib.hid hkd
   have HT := Lib.hid ht
   have HK := Lib.hid hk
   clear hqq hkd ht hk S0 HSE HRE HW
   go_enter Tryz.func224, Tryz.ntmps224
   go_wp2_with fail
   refine (HS0.out.kind 1 HKD.out).mono ?_
   rintro r w1 ⟨rfl, S1, o1⟩
   have XS1 := Lib.hid S1
   clear S1 o1  HS0
   go_wp2_with fail
   refine (XS1.out.named HT.out HK.out HQ0.out).mono ?_
   rintro r w9 (⟨k, j, rfl, hp⟩ | ⟨A9, c9, n9, rfl, hp⟩)
   · have HP := Lib.hid hp
     clear hp
     go_wp2_with fail
     exact ⟨rfl, HP.out⟩
   have HP := Lib.hid hp
   clear hp
   go_wp2_with fail
   go_ret
   exact HP.out
 rw [atomR_sign (by rw [hkd]; exact k1) (by rw [hkd]; exact k2) (by rw [hkd]; exact k3) (by rw [hkd]; exact k4)] at hqq
 have t1 : (kd == 1) = false := by simpa using k1
 have t2 : (kd == 2) = false := by simpa using k2
 have t3 : (kd == 3) = false := by simpa using k3
 have t4 : (kd == 4) = false := by simpa using k4
 have HKD := Lib.hid hkd
 have n1 : hdW [45] (x.ts.drop i) = hdS [45] (x.ts.drop i) := S0.sg (by decide) i
 have n2 : hdW [40] (x.ts.drop i) = hdS [40] (x.ts.drop i) := S0.sg (by decide) i
 have n3 : hdW [91] (x.ts.drop i) = hdS [91] (x.ts.drop i) := S0.sg (by decide) i
 have n4 : hdW [123] (x.ts.drop i) = hdS [123] (x.ts.drop i) := S0.sg (by decide) i
 clear k1 k2 k3 k4 hkd S0
 cases b0 : hdS [45] (x.ts.drop i) with
 | true =>
   rw [b0] at n1
   rw [b0, if_pos rfl] at hqq
   have N1 := Lib.hid n1
   have HQ0 := Lib.hid hqq
   clear hqq b0 n1 n2 n3 n4
   go_enter Tryz.func224, Tryz.ntmps224
   go_wp2_with fail
   refine (HS0.out.kind kd HKD.out).mono ?_
   rintro r w1 ⟨rfl, S1, o1⟩
   have XS1 := Lib.hid S1
   clear S1 o1  HS0
   go_wp2_with fail
   refine (XS1.out.take_yes ⟨#[45]⟩ _ l_minus N1.out).mono ?_
   rintro r w2 ⟨rfl, S2, o2⟩
   have XS2 := Lib.hid S2
   clear S2 o2  XS1
   go_wp2_with fail
   refine (XS2.out.number ⟨#[45]⟩ [45] l_minus (by decide) HQ0.out).mono ?_
   rintro r w9 (⟨k, j, rfl, hp⟩ | ⟨A9, c9, n9, rfl, hp⟩)
   · have HP := Lib.hid hp
     clear hp
     go_wp2_with fail
     exact ⟨rfl, HP.out⟩
   have HP := Lib.hid hp
   clear hp
   go_wp2_with fail
   go_ret
   exact HP.out
 | false =>
   rw [b0] at n1
   rw [b0, if_neg (by simp)] at hqq
   have N1 := Lib.hid n1
   clear b0 n1
   cases b1 : hdS [40] (x.ts.drop i) with
   | true =>
     rw [b1] at n2
     rw [b1, if_pos rfl] at hqq
     have N2 := Lib.hid n2
     have HQ0 := Lib.hid hqq
     clear hqq b1 n2 n3 n4
     go_enter Tryz.func224, Tryz.ntmps224
     go_wp2_with fail
     refine (HS0.out.kind kd HKD.out).mono ?_
     rintro r w1 ⟨rfl, S1, o1⟩
     have XS1 := Lib.hid S1
     clear S1 o1  HS0
     go_wp2_with fail
     refine (XS1.out.take_no ⟨#[45]⟩ _ l_minus N1.out).mono ?_
     rintro r w2 ⟨rfl, S2, o2⟩
     have XS2 := Lib.hid S2
     clear S2 o2  XS1
     go_wp2_with fail
     refine (XS2.out.take_yes ⟨#[40]⟩ _ l_ro N2.out).mono ?_
     rintro r w3 ⟨rfl, S3, o3⟩
     have XS3 := Lib.hid S3
     clear S3 o3  XS2
     go_wp2_with fail
     refine (XS3.out.call HW.out HN.out trivial HQ0.out).mono ?_
     rintro r w4 (⟨k, j, rfl, hp⟩ | ⟨A4, c4, e4, j4, rfl, E4, S4, o4, q4, l4, b4⟩)
     · have HP := Lib.hid hp
       clear hp
       go_wp2_with fail
       exact ⟨rfl, HP.out⟩
     have HE4 := Lib.hid E4
     have XS4 := Lib.hid S4
     have XQ4 := Lib.hid q4
     have HL4 : Hid (e4.length ≤ 300) := l4
     have HG4 := Lib.hid b4
     clear E4 S4 q4 l4 b4 o4  XS3 HQ0
     go_wp2_with fail
     refine (XS4.out.needS ⟨#[41]⟩ l_rc (by decide) XQ4.out).mono ?_
     rintro r w5 (⟨k, j, rfl, hp⟩ | ⟨rfl, S5, o5, q5⟩)
     · have HP := Lib.hid hp
       clear hp
       go_wp2_with fail
       exact ⟨rfl, HP.out⟩
     have HE4_5 := Lib.hid (HE4.out.on o5 HLT.out)
     have XS5 := Lib.hid S5
     have XQ5 := Lib.hid q5
     clear S5 q5 o5 HE4 XS4 XQ4
     have HF := Lib.hid (XS5.out.fin HE4_5.out XQ5.out)
     go_wp2_with fail
     go_ret
     exact HF.out
   | false =>
     rw [b1] at n2
     rw [b1, if_neg (by simp)] at hqq
     have N2 := Lib.hid n2
     clear b1 n2
     cases b2 : hdS [91] (x.ts.drop i) with
     | true =>
       rw [b2] at n3
       rw [b2, if_pos rfl] at hqq
       have N3 := Lib.hid n3
       have HQ0 := Lib.hid hqq
       clear hqq b2 n3 n4
       go_enter Tryz.func224, Tryz.ntmps224
       go_wp2_with fail
       refine (HS0.out.kind kd HKD.out).mono ?_
       rintro r w1 ⟨rfl, S1, o1⟩
       have XS1 := Lib.hid S1
       clear S1 o1  HS0
       go_wp2_with fail
       refine (XS1.out.take_no ⟨#[45]⟩ _ l_minus N1.out).mono ?_
       rintro r w2 ⟨rfl, S2, o2⟩
       have XS2 := Lib.hid S2
       clear S2 o2  XS1
       go_wp2_with fail
       refine (XS2.out.take_no ⟨#[40]⟩ _ l_ro N2.out).mono ?_
       rintro r w3 ⟨rfl, S3, o3⟩
       have XS3 := Lib.hid S3
       clear S3 o3  XS2
       go_wp2_with fail
       refine (XS3.out.take_yes ⟨#[91]⟩ _ l_so N3.out).mono ?_
       rintro r w4 ⟨rfl, S4, o4⟩
       have XS4 := Lib.hid S4
       clear S4 o4  XS3
       go_wp2_with fail
       refine (XS4.out.last HSE.out HN.out HQ0.out).mono ?_
       rintro r w9 (⟨k, j, rfl, hp⟩ | ⟨A9, c9, n9, rfl, hp⟩)
       · have HP := Lib.hid hp
         clear hp
         go_wp2_with fail
         exact ⟨rfl, HP.out⟩
       have HP := Lib.hid hp
       clear hp
       go_wp2_with fail
       go_ret
       exact HP.out
     | false =>
       rw [b2] at n3
       rw [b2, if_neg (by simp)] at hqq
       have N3 := Lib.hid n3
       clear b2 n3
       cases b3 : hdS [123] (x.ts.drop i) with
       | true =>
         rw [b3] at n4
         rw [b3, if_pos rfl] at hqq
         have N4 := Lib.hid n4
         have HQ0 := Lib.hid hqq
         clear hqq b3 n4
         go_enter Tryz.func224, Tryz.ntmps224
         go_wp2_with fail
         refine (HS0.out.kind kd HKD.out).mono ?_
         rintro r w1 ⟨rfl, S1, o1⟩
         have XS1 := Lib.hid S1
         clear S1 o1  HS0
         go_wp2_with fail
         refine (XS1.out.take_no ⟨#[45]⟩ _ l_minus N1.out).mono ?_
         rintro r w2 ⟨rfl, S2, o2⟩
         have XS2 := Lib.hid S2
         clear S2 o2  XS1
         go_wp2_with fail
         refine (XS2.out.take_no ⟨#[40]⟩ _ l_ro N2.out).mono ?_
         rintro r w3 ⟨rfl, S3, o3⟩
         have XS3 := Lib.hid S3
         clear S3 o3  XS2
         go_wp2_with fail
         refine (XS3.out.take_no ⟨#[91]⟩ _ l_so N3.out).mono ?_
         rintro r w4 ⟨rfl, S4, o4⟩
         have XS4 := Lib.hid S4
         clear S4 o4  XS3
         go_wp2_with fail
         refine (XS4.out.take_yes ⟨#[123]⟩ _ l_co N4.out).mono ?_
         rintro r w5 ⟨rfl, S5, o5⟩
         have XS5 := Lib.hid S5
         clear S5 o5  XS4
         go_wp2_with fail
         refine (XS5.out.last HRE.out HN.out HQ0.out).mono ?_
         rintro r w9 (⟨k, j, rfl, hp⟩ | ⟨A9, c9, n9, rfl, hp⟩)
         · have HP := Lib.hid hp
           clear hp
           go_wp2_with fail
           exact ⟨rfl, HP.out⟩
         have HP := Lib.hid hp
         clear hp
         go_wp2_with fail
         go_ret
         exact HP.out
       | false =>
         rw [b3] at n4
         rw [b3, if_neg (by simp)] at hqq
         have N4 := Lib.hid n4
         clear b3 n4
         have HQ0 := Lib.hid hqq
         clear hqq
         go_enter Tryz.func224, Tryz.ntmps224
         go_wp2_with fail
         refine (HS0.out.kind kd HKD.out).mono ?_
         rintro r w1 ⟨rfl, S1, o1⟩
         have XS1 := Lib.hid S1
         clear S1 o1  HS0
         go_wp2_with fail
         refine (XS1.out.take_no ⟨#[45]⟩ _ l_minus N1.out).mono ?_
         rintro r w2 ⟨rfl, S2, o2⟩
         have XS2 := Lib.hid S2
         clear S2 o2  XS1
         go_wp2_with fail
         refine (XS2.out.take_no ⟨#[40]⟩ _ l_ro N2.out).mono ?_
         rintro r w3 ⟨rfl, S3, o3⟩
         have XS3 := Lib.hid S3
         clear S3 o3  XS2
         go_wp2_with fail
         refine (XS3.out.take_no ⟨#[91]⟩ _ l_so N3.out).mono ?_
         rintro r w4 ⟨rfl, S4, o4⟩
         have XS4 := Lib.hid S4
         clear S4 o4  XS3
         go_wp2_with fail
         refine (XS4.out.take_no ⟨#[123]⟩ _ l_co N4.out).mono ?_
         rintro r w5 ⟨rfl, S5, o5⟩
         have XS5 := Lib.hid S5
         clear S5 o5  XS4
         have HF := Lib.hid (ph_fail x i w5 XS5.out.blk)
         go_wp2_with fail
         refine HF.out.mono ?_
         rintro r w9 ⟨rfl, rfl⟩
         go_wp2_with fail
         exact ⟨rfl, by rw [← HQ0.out]; exact XS5.out.no 1⟩
end Go.Proofs.YtbggbcnfkcadjaaGreatDoor
namespace Go.Proofs.YtbggbcnfkcadjaaGreatDoor
set_option maxRecDepth 100000
open Go.RowKit Go.Sort
theorem l_dot : (⟨#[46]⟩ : ByteArray).toList = [46] := bsOf_list [46]
theorem l_bo : (⟨#[40]⟩ : ByteArray).toList = [40] := bsOf_list [40]
theorem l_bc : (⟨#[41]⟩ : ByteArray).toList = [41] := bsOf_list [41]
theorem po_end {g : Nat} {e : List Nd} {ts : List Tk} (h : hdS [46] ts = false) : pa (g + 1) (.po e) ts = .ok e ts := by
 show (if hdS [46] ts = true then _ else _) = _
 rw [if_neg (by rw [h]; simp)]
theorem po_go {g : Nat} {e : List Nd} {ts : List Tk} {j : Nat} (h : hdS [46] (ts.drop j) = true) : pa (g + 1) (.po e) (ts.drop j) = wordR 1 (ts.drop (j + 1)) fun s r => if dotOp s.toList = 0 ∨ hdS [40] r = false then pa g (.po (opS 22 s e)) r else (pa g .whole r.tail).bind fun e2 r2 => needR [41] r2 fun r3 => pa g (.po (opX (dotOp s.toList) (e ++ e2))) r3 := by
 show (if hdS [46] (ts.drop j) = true then _ else _) = _
 rw [if_pos h, tail_drop']
set_option maxHeartbeats 25600000 in
theorem ph_post (x : Px) (f : Nat) (hat : Does x 224 (pa f .atom)) (hw : ∀ g, g ≤ f → Does x 30 (pa g .whole)) : Does x 208 (fun ts => (pa f .atom ts).bind fun e r => pa f (.po e) r) := by
 intro w i hx hB hi hnb
 have S0 := St.start hx hB hi
 have hlen := hx.len
 have HS0 := Lib.hid S0
 have HLT := Lib.hid hB.lt
 have HA := Lib.hid hat
 have HW := Lib.hid hw
 obtain ⟨Q, hQ⟩ : ∃ Q, ((pa f .atom (x.ts.drop i)).bind fun e r => pa f (.po e) r) = Q := ⟨_, rfl⟩
 have hnb : ∀ r, ((pa f .atom (x.ts.drop i)).bind fun e r => pa f (.po e) r) ≠ .bad 0 r := hnb
 show Calls _ _ _ _ (PaPost x w ((pa f .atom (x.ts.drop i)).bind fun e r => pa f (.po e) r))
 rw [hQ] at hnb ⊢
 have HN := Lib.hid hnb
 have HQ0 := Lib.hid hQ
 clear hx hB hat hw hnb S0 hQ
 go_enter Tryz.func208, Tryz.ntmps208
 go_wp2_with fail
 refine (HS0.out.call HA.out HN.out trivial HQ0.out).mono ?_
 rintro r w1 (⟨k, j, rfl, hp⟩ | ⟨A1, c1, e1, j1, rfl, E1, S1, o1, q1, l1, b1⟩)
 · have HP := Lib.hid hp
   clear hp
   go_wp2_with fail
   exact ⟨rfl, HP.out⟩
 have HE1 := Lib.hid E1
 have XS1 := Lib.hid S1
 have XQ1 := Lib.hid q1
 have HL1 : Hid (e1.length ≤ 300) := l1
 have HG1 := Lib.hid b1
 clear E1 S1 q1 l1 b1 o1  HS0 HQ0
 go_wp2_with fail
 go_loopg [3, 4, 5] f (fun gg ev sv ov wr => ∃ (A : Option Addr) (c : Nat) (e : List Nd) (j : Nat), ev = .slice A e.length c ∧ gg ≤ f ∧ e.length ≤ 302 * (j + 1) ∧ Hid (Exm w.heap.size wr ⟨A, c, e⟩) ∧ Hid (St x w wr j) ∧ Hid (pa gg (.po e) (x.ts.drop j) = Q))
 case atStart => exact ⟨A1, c1, e1, j1, rfl, Nat.le_refl _, by have := HL1.out; omega, HE1.out, XS1.out, XQ1.out⟩
 case round =>
   obtain ⟨A, c, e, j, rfl, hgg, hle, HE, HS, HQ⟩ := hrel
   clear HE1 XS1 XQ1 HL1 HG1
   have hj300 : j ≤ 300 := Nat.le_trans HS.out.le hlen
   obtain ⟨gg, hgk⟩ : ∃ gg, gk = gg + 1 := by
     cases gk with
     | zero => exact absurd HQ.out.symm (HN.out _)
     | succ g => exact ⟨g, rfl⟩
   rw [hgk] at HQ
   have HGK := Lib.hid hgk
   have hggf : gg ≤ f := by omega
   clear hgk
   cases hb : hdS [46] (x.ts.drop j) with
   | false =>
     have HQQ : Hid (.ok e (x.ts.drop j) = Q) := by show _ = _; rw [← HQ.out, po_end hb]
     have HB := Lib.hid hb
     clear hb HQ
     go_wp2_with fail
     refine (HS.out.take_no ⟨#[46]⟩ _ l_dot (by rw [HS.out.sg (c := 46) (r := []) (by decide)]; exact HB.out)).mono ?_
     rintro r w2 ⟨rfl, S2, o2⟩
     have HE_2 := Lib.hid (HE.out.on o2 HLT.out)
     have XS2 := Lib.hid S2
     clear S2 o2 HE HS
     have HF := Lib.hid (XS2.out.fin HE_2.out HQQ.out)
     go_wp2_with fail
     go_ret
     exact HF.out
   | true =>
     have HQQ := Lib.hid HQ.out
     rw [po_go hb] at HQQ
     have HB := Lib.hid hb
     have HLE := Lib.hid hle
     have HDW := Lib.hid (HW.out gg hggf)
     clear hb HQ
     go_wp2_with fail
     refine (HS.out.take_yes ⟨#[46]⟩ _ l_dot (by rw [HS.out.sg (c := 46) (r := []) (by decide)]; exact HB.out)).mono ?_
     rintro r w2 ⟨rfl, S2, o2⟩
     have HE_2 := Lib.hid (HE.out.on o2 HLT.out)
     have XS2 := Lib.hid S2
     clear S2 o2 HE HS
     go_wp2_with fail
     refine (XS2.out.word 1 (by decide) HQQ.out).mono ?_
     rintro r w3 (⟨k, j, rfl, hp⟩ | ⟨t3, ht3, rfl, S3, o3, z3, kd3, q3⟩)
     · have HP := Lib.hid hp
       clear hp
       go_wp2_with fail
       exact ⟨rfl, HP.out⟩
     have HE_3 := Lib.hid (HE_2.out.on o3 HLT.out)
     have XS3 := Lib.hid S3
     have XQ3 := Lib.hid q3
     have HT3 := Lib.hid ht3
     have HZ3 := Lib.hid z3
     have HKD3 := Lib.hid kd3
     clear S3 q3 o3 ht3 z3 kd3 HE_2 XS2 HQQ
     have q0 : (if dotOp t3.s.toList = 0 ∨ hdS [40] (x.ts.drop (j + 1 + 1)) = false then pa gg (.po (opS 22 t3.s e)) (x.ts.drop (j + 1 + 1)) else (pa gg .whole (x.ts.drop (j + 1 + 1)).tail).bind (fun e2 r2 => needR [41] r2 fun r3 => pa gg (.po (opX (dotOp t3.s.toList) (e ++ e2))) r3)) = Q := XQ3.out
     rw [tail_drop'] at q0
     have HR := Lib.hid q0
     have hts : t3.s.size ≤ 60 := HZ3.out.sz
     clear q0 XQ3 HT3 HZ3 HKD3
     by_cases hw0 : t3.s.toList = [99, 111, 110, 116, 97, 105, 110, 115]
     · have hd : dotOp t3.s.toList = 25 := by rw [hw0]; rfl
       have s0 : (t3.s.toList == [99, 111, 110, 116, 97, 105, 110, 115]) = true := by simp [hw0]
       have s1 : (t3.s.toList == [99, 111, 110, 116, 97, 105, 110, 115, 65, 108, 108]) = false := by simp [hw0]
       have s2 : (t3.s.toList == [99, 111, 110, 116, 97, 105, 110, 115, 65, 110, 121]) = false := by simp [hw0]
       rw [hd] at HR
       clear hd hw0
       cases hb : hdS [40] (x.ts.drop (j + 1 + 1)) with
       | false =>
         have HB1 := Lib.hid hb
         have q1 := HR.out
         rw [if_pos (.inr hb)] at q1
         have HQr := Lib.hid q1
         clear q1 hb HR
         go_wp2_with fail
         refine (XS3.out.is ⟨#[40]⟩ _ l_bo false (by rw [XS3.out.sg (c := 40) (r := []) (by decide)]; exact HB1.out)).mono ?_
         rintro r w4 ⟨rfl, S4, o4⟩
         have HE_4 := Lib.hid (HE_3.out.on o4 HLT.out)
         have XS4 := Lib.hid S4
         clear S4 o4 HE_3 XS3
         go_wp2_with fail
         refine (XS4.out.node ⟨22, 0, t3.s, ⟨#[]⟩⟩ 22 [⟨A, c, e⟩] #[.slice A e.length c] rfl (mem1 HE_4.out) (by have := HLE.out; simp [catN]; omega) (by simp) (E := opS 22 t3.s e) (by simp [catN, opS])).mono ?_
         rintro r w5 ⟨A5, c5, rfl, E5, S5, o5⟩
         have HEm := Lib.hid E5
         have HSm := Lib.hid S5
         have HLm : Hid ((opS 22 t3.s e).length ≤ 302 * (j + 1 + 1 + 1)) := by show _ ≤ _; simp [opS]; omega
         have HQm : Hid (pa gg (.po (opS 22 t3.s e)) (x.ts.drop (j + 1 + 1)) = Q) := HQr.out
         clear E5 S5 o5 HQr
         generalize opS 22 t3.s e = EE at HEm HLm HQm ⊢
         go_wp2_with fail
         go_roundg gg
         case measure => have := HGK.out; omega
         case rel => exact ⟨A5, c5, EE, j + 1 + 1, rfl, by omega, HLm.out, HEm.out, HSm.out, HQm.out⟩
       | true =>
         have HB1 := Lib.hid hb
         have q1 := HR.out
         rw [if_neg (by rw [hb]; simp)] at q1
         have HQr := Lib.hid q1
         clear q1 hb HR
         go_wp2_with fail
         refine (XS3.out.is ⟨#[40]⟩ _ l_bo true (by rw [XS3.out.sg (c := 40) (r := []) (by decide)]; exact HB1.out)).mono ?_
         rintro r w4 ⟨rfl, S4, o4⟩
         have HE_4 := Lib.hid (HE_3.out.on o4 HLT.out)
         have XS4 := Lib.hid S4
         clear S4 o4 HE_3 XS3
         go_wp2_with fail
         refine (XS4.out.need_yes ⟨#[40]⟩ [40] l_bo (by rw [XS4.out.sg (c := 40) (r := []) (by decide)]; exact HB1.out)).mono ?_
         rintro r w5 ⟨rfl, S5, o5⟩
         have HE_5 := Lib.hid (HE_4.out.on o5 HLT.out)
         have XS5 := Lib.hid S5
         clear S5 o5 HE_4 XS4
         go_wp2_with fail
         refine (XS5.out.call HDW.out HN.out trivial HQr.out).mono ?_
         rintro r w6 (⟨k, j, rfl, hp⟩ | ⟨A6, c6, e6, j6, rfl, E6, S6, o6, q6, l6, b6⟩)
         · have HP := Lib.hid hp
           clear hp
           go_wp2_with fail
           exact ⟨rfl, HP.out⟩
         have HE_6 := Lib.hid (HE_5.out.on o6 HLT.out)
         have HE6 := Lib.hid E6
         have XS6 := Lib.hid S6
         have XQ6 := Lib.hid q6
         have HL6 : Hid (e6.length ≤ 300) := l6
         have HG6 := Lib.hid b6
         clear E6 S6 q6 l6 b6 o6 HE_5 XS5 HQr
         go_wp2_with fail
         refine (XS6.out.op 25 22 [⟨A, c, e⟩, ⟨A6, c6, e6⟩] #[.slice A e.length c, .slice A6 e6.length c6] rfl (mem2 HE_6.out HE6.out) (by have := HLE.out; have := HL6.out; simp [catN]; omega) (by simp) (E := opX 25 (e ++ e6)) (by simp [catN, opX])).mono ?_
         rintro r w7 ⟨A7, c7, rfl, E7, S7, o7⟩
         have HEE := Lib.hid E7
         have XS7 := Lib.hid S7
         have HLm : Hid ((opX 25 (e ++ e6)).length ≤ 302 * (j6 + 1)) := by have h1 := HG6.out; have h2 := HL6.out; simp only [PT.starts] at h1; show _ ≤ _; simp [opX]; omega
         clear E7 S7 o7
         have HQm : Hid (needR [41] (x.ts.drop j6) (fun r3 => pa gg (.po (opX 25 (e ++ e6))) r3) = Q) := XQ6.out
         clear XQ6
         generalize opX 25 (e ++ e6) = EE at HEE HLm HQm ⊢
         go_wp2_with fail
         refine (XS7.out.needS ⟨#[41]⟩ l_bc (by decide) HQm.out).mono ?_
         rintro r w8 (⟨k, j, rfl, hp⟩ | ⟨rfl, S8, o8, q8⟩)
         · have HP := Lib.hid hp
           clear hp
           go_wp2_with fail
           exact ⟨rfl, HP.out⟩
         have HEE_8 := Lib.hid (HEE.out.on o8 HLT.out)
         have XS8 := Lib.hid S8
         have XQ8 := Lib.hid q8
         clear S8 q8 o8 HEE XS7 HQm
         have HQn : Hid (pa gg (.po EE) (x.ts.drop (j6 + 1)) = Q) := XQ8.out
         go_wp2_with fail
         go_roundg gg
         case measure => have := HGK.out; omega
         case rel => exact ⟨A7, c7, EE, j6 + 1, rfl, by omega, by have := HLm.out; omega, HEE_8.out, XS8.out, HQn.out⟩
     have hn0 := hw0
     clear hw0
     by_cases hw1 : t3.s.toList = [99, 111, 110, 116, 97, 105, 110, 115, 65, 108, 108]
     · have hd : dotOp t3.s.toList = 26 := by rw [hw1]; rfl
       have s0 : (t3.s.toList == [99, 111, 110, 116, 97, 105, 110, 115]) = false := by simp [hw1]
       have s1 : (t3.s.toList == [99, 111, 110, 116, 97, 105, 110, 115, 65, 108, 108]) = true := by simp [hw1]
       have s2 : (t3.s.toList == [99, 111, 110, 116, 97, 105, 110, 115, 65, 110, 121]) = false := by simp [hw1]
       rw [hd] at HR
       clear hd hw1 hn0
       cases hb : hdS [40] (x.ts.drop (j + 1 + 1)) with
       | false =>
         have HB1 := Lib.hid hb
         have q1 := HR.out
         rw [if_pos (.inr hb)] at q1
         have HQr := Lib.hid q1
         clear q1 hb HR
         go_wp2_with fail
         refine (XS3.out.is ⟨#[40]⟩ _ l_bo false (by rw [XS3.out.sg (c := 40) (r := []) (by decide)]; exact HB1.out)).mono ?_
         rintro r w4 ⟨rfl, S4, o4⟩
         have HE_4 := Lib.hid (HE_3.out.on o4 HLT.out)
         have XS4 := Lib.hid S4
         clear S4 o4 HE_3 XS3
         go_wp2_with fail
         refine (XS4.out.node ⟨22, 0, t3.s, ⟨#[]⟩⟩ 22 [⟨A, c, e⟩] #[.slice A e.length c] rfl (mem1 HE_4.out) (by have := HLE.out; simp [catN]; omega) (by simp) (E := opS 22 t3.s e) (by simp [catN, opS])).mono ?_
         rintro r w5 ⟨A5, c5, rfl, E5, S5, o5⟩
         have HEm := Lib.hid E5
         have HSm := Lib.hid S5
         have HLm : Hid ((opS 22 t3.s e).length ≤ 302 * (j + 1 + 1 + 1)) := by show _ ≤ _; simp [opS]; omega
         have HQm : Hid (pa gg (.po (opS 22 t3.s e)) (x.ts.drop (j + 1 + 1)) = Q) := HQr.out
         clear E5 S5 o5 HQr
         generalize opS 22 t3.s e = EE at HEm HLm HQm ⊢
         go_wp2_with fail
         go_roundg gg
         case measure => have := HGK.out; omega
         case rel => exact ⟨A5, c5, EE, j + 1 + 1, rfl, by omega, HLm.out, HEm.out, HSm.out, HQm.out⟩
       | true =>
         have HB1 := Lib.hid hb
         have q1 := HR.out
         rw [if_neg (by rw [hb]; simp)] at q1
         have HQr := Lib.hid q1
         clear q1 hb HR
         go_wp2_with fail
         refine (XS3.out.is ⟨#[40]⟩ _ l_bo true (by rw [XS3.out.sg (c := 40) (r := []) (by decide)]; exact HB1.out)).mono ?_
         rintro r w4 ⟨rfl, S4, o4⟩
         have HE_4 := Lib.hid (HE_3.out.on o4 HLT.out)
         have XS4 := Lib.hid S4
         clear S4 o4 HE_3 XS3
         go_wp2_with fail
         refine (XS4.out.need_yes ⟨#[40]⟩ [40] l_bo (by rw [XS4.out.sg (c := 40) (r := []) (by decide)]; exact HB1.out)).mono ?_
         rintro r w5 ⟨rfl, S5, o5⟩
         have HE_5 := Lib.hid (HE_4.out.on o5 HLT.out)
         have XS5 := Lib.hid S5
         clear S5 o5 HE_4 XS4
         go_wp2_with fail
         refine (XS5.out.call HDW.out HN.out trivial HQr.out).mono ?_
         rintro r w6 (⟨k, j, rfl, hp⟩ | ⟨A6, c6, e6, j6, rfl, E6, S6, o6, q6, l6, b6⟩)
         · have HP := Lib.hid hp
           clear hp
           go_wp2_with fail
           exact ⟨rfl, HP.out⟩
         have HE_6 := Lib.hid (HE_5.out.on o6 HLT.out)
         have HE6 := Lib.hid E6
         have XS6 := Lib.hid S6
         have XQ6 := Lib.hid q6
         have HL6 : Hid (e6.length ≤ 300) := l6
         have HG6 := Lib.hid b6
         clear E6 S6 q6 l6 b6 o6 HE_5 XS5 HQr
         go_wp2_with fail
         refine (XS6.out.op 26 22 [⟨A, c, e⟩, ⟨A6, c6, e6⟩] #[.slice A e.length c, .slice A6 e6.length c6] rfl (mem2 HE_6.out HE6.out) (by have := HLE.out; have := HL6.out; simp [catN]; omega) (by simp) (E := opX 26 (e ++ e6)) (by simp [catN, opX])).mono ?_
         rintro r w7 ⟨A7, c7, rfl, E7, S7, o7⟩
         have HEE := Lib.hid E7
         have XS7 := Lib.hid S7
         have HLm : Hid ((opX 26 (e ++ e6)).length ≤ 302 * (j6 + 1)) := by have h1 := HG6.out; have h2 := HL6.out; simp only [PT.starts] at h1; show _ ≤ _; simp [opX]; omega
         clear E7 S7 o7
         have HQm : Hid (needR [41] (x.ts.drop j6) (fun r3 => pa gg (.po (opX 26 (e ++ e6))) r3) = Q) := XQ6.out
         clear XQ6
         generalize opX 26 (e ++ e6) = EE at HEE HLm HQm ⊢
         go_wp2_with fail
         refine (XS7.out.needS ⟨#[41]⟩ l_bc (by decide) HQm.out).mono ?_
         rintro r w8 (⟨k, j, rfl, hp⟩ | ⟨rfl, S8, o8, q8⟩)
         · have HP := Lib.hid hp
           clear hp
           go_wp2_with fail
           exact ⟨rfl, HP.out⟩
         have HEE_8 := Lib.hid (HEE.out.on o8 HLT.out)
         have XS8 := Lib.hid S8
         have XQ8 := Lib.hid q8
         clear S8 q8 o8 HEE XS7 HQm
         have HQn : Hid (pa gg (.po EE) (x.ts.drop (j6 + 1)) = Q) := XQ8.out
         go_wp2_with fail
         go_roundg gg
         case measure => have := HGK.out; omega
         case rel => exact ⟨A7, c7, EE, j6 + 1, rfl, by omega, by have := HLm.out; omega, HEE_8.out, XS8.out, HQn.out⟩
     have hn1 := hw1
     clear hw1
     by_cases hw2 : t3.s.toList = [99, 111, 110, 116, 97, 105, 110, 115, 65, 110, 121]
     · have hd : dotOp t3.s.toList = 27 := by rw [hw2]; rfl
       have s0 : (t3.s.toList == [99, 111, 110, 116, 97, 105, 110, 115]) = false := by simp [hw2]
       have s1 : (t3.s.toList == [99, 111, 110, 116, 97, 105, 110, 115, 65, 108, 108]) = false := by simp [hw2]
       have s2 : (t3.s.toList == [99, 111, 110, 116, 97, 105, 110, 115, 65, 110, 121]) = true := by simp [hw2]
       rw [hd] at HR
       clear hd hw2 hn0 hn1
       cases hb : hdS [40] (x.ts.drop (j + 1 + 1)) with
       | false =>
         have HB1 := Lib.hid hb
         have q1 := HR.out
         rw [if_pos (.inr hb)] at q1
         have HQr := Lib.hid q1
         clear q1 hb HR
         go_wp2_with fail
         refine (XS3.out.is ⟨#[40]⟩ _ l_bo false (by rw [XS3.out.sg (c := 40) (r := []) (by decide)]; exact HB1.out)).mono ?_
         rintro r w4 ⟨rfl, S4, o4⟩
         have HE_4 := Lib.hid (HE_3.out.on o4 HLT.out)
         have XS4 := Lib.hid S4
         clear S4 o4 HE_3 XS3
         go_wp2_with fail
         refine (XS4.out.node ⟨22, 0, t3.s, ⟨#[]⟩⟩ 22 [⟨A, c, e⟩] #[.slice A e.length c] rfl (mem1 HE_4.out) (by have := HLE.out; simp [catN]; omega) (by simp) (E := opS 22 t3.s e) (by simp [catN, opS])).mono ?_
         rintro r w5 ⟨A5, c5, rfl, E5, S5, o5⟩
         have HEm := Lib.hid E5
         have HSm := Lib.hid S5
         have HLm : Hid ((opS 22 t3.s e).length ≤ 302 * (j + 1 + 1 + 1)) := by show _ ≤ _; simp [opS]; omega
         have HQm : Hid (pa gg (.po (opS 22 t3.s e)) (x.ts.drop (j + 1 + 1)) = Q) := HQr.out
         clear E5 S5 o5 HQr
         generalize opS 22 t3.s e = EE at HEm HLm HQm ⊢
         go_wp2_with fail
         go_roundg gg
         case measure => have := HGK.out; omega
         case rel => exact ⟨A5, c5, EE, j + 1 + 1, rfl, by omega, HLm.out, HEm.out, HSm.out, HQm.out⟩
       | true =>
         have HB1 := Lib.hid hb
         have q1 := HR.out
         rw [if_neg (by rw [hb]; simp)] at q1
         have HQr := Lib.hid q1
         clear q1 hb HR
         go_wp2_with fail
         refine (XS3.out.is ⟨#[40]⟩ _ l_bo true (by rw [XS3.out.sg (c := 40) (r := []) (by decide)]; exact HB1.out)).mono ?_
         rintro r w4 ⟨rfl, S4, o4⟩
         have HE_4 := Lib.hid (HE_3.out.on o4 HLT.out)
         have XS4 := Lib.hid S4
         clear S4 o4 HE_3 XS3
         go_wp2_with fail
         refine (XS4.out.need_yes ⟨#[40]⟩ [40] l_bo (by rw [XS4.out.sg (c := 40) (r := []) (by decide)]; exact HB1.out)).mono ?_
         rintro r w5 ⟨rfl, S5, o5⟩
         have HE_5 := Lib.hid (HE_4.out.on o5 HLT.out)
         have XS5 := Lib.hid S5
         clear S5 o5 HE_4 XS4
         go_wp2_with fail
         refine (XS5.out.call HDW.out HN.out trivial HQr.out).mono ?_
         rintro r w6 (⟨k, j, rfl, hp⟩ | ⟨A6, c6, e6, j6, rfl, E6, S6, o6, q6, l6, b6⟩)
         · have HP := Lib.hid hp
           clear hp
           go_wp2_with fail
           exact ⟨rfl, HP.out⟩
         have HE_6 := Lib.hid (HE_5.out.on o6 HLT.out)
         have HE6 := Lib.hid E6
         have XS6 := Lib.hid S6
         have XQ6 := Lib.hid q6
         have HL6 : Hid (e6.length ≤ 300) := l6
         have HG6 := Lib.hid b6
         clear E6 S6 q6 l6 b6 o6 HE_5 XS5 HQr
         go_wp2_with fail
         refine (XS6.out.op 27 22 [⟨A, c, e⟩, ⟨A6, c6, e6⟩] #[.slice A e.length c, .slice A6 e6.length c6] rfl (mem2 HE_6.out HE6.out) (by have := HLE.out; have := HL6.out; simp [catN]; omega) (by simp) (E := opX 27 (e ++ e6)) (by simp [catN, opX])).mono ?_
         rintro r w7 ⟨A7, c7, rfl, E7, S7, o7⟩
         have HEE := Lib.hid E7
         have XS7 := Lib.hid S7
         have HLm : Hid ((opX 27 (e ++ e6)).length ≤ 302 * (j6 + 1)) := by have h1 := HG6.out; have h2 := HL6.out; simp only [PT.starts] at h1; show _ ≤ _; simp [opX]; omega
         clear E7 S7 o7
         have HQm : Hid (needR [41] (x.ts.drop j6) (fun r3 => pa gg (.po (opX 27 (e ++ e6))) r3) = Q) := XQ6.out
         clear XQ6
         generalize opX 27 (e ++ e6) = EE at HEE HLm HQm ⊢
         go_wp2_with fail
         refine (XS7.out.needS ⟨#[41]⟩ l_bc (by decide) HQm.out).mono ?_
         rintro r w8 (⟨k, j, rfl, hp⟩ | ⟨rfl, S8, o8, q8⟩)
         · have HP := Lib.hid hp
           clear hp
           go_wp2_with fail
           exact ⟨rfl, HP.out⟩
         have HEE_8 := Lib.hid (HEE.out.on o8 HLT.out)
         have XS8 := Lib.hid S8
         have XQ8 := Lib.hid q8
         clear S8 q8 o8 HEE XS7 HQm
         have HQn : Hid (pa gg (.po EE) (x.ts.drop (j6 + 1)) = Q) := XQ8.out
         go_wp2_with fail
         go_roundg gg
         case measure => have := HGK.out; omega
         case rel => exact ⟨A7, c7, EE, j6 + 1, rfl, by omega, by have := HLm.out; omega, HEE_8.out, XS8.out, HQn.out⟩
     have hn2 := hw2
     clear hw2
     have hd : dotOp t3.s.toList = 0 := by unfold dotOp; rw [if_neg hn0, if_neg hn1, if_neg hn2]
     have s0 : (t3.s.toList == [99, 111, 110, 116, 97, 105, 110, 115]) = false := by simpa using hn0
     have s1 : (t3.s.toList == [99, 111, 110, 116, 97, 105, 110, 115, 65, 108, 108]) = false := by simpa using hn1
     have s2 : (t3.s.toList == [99, 111, 110, 116, 97, 105, 110, 115, 65, 110, 121]) = false := by simpa using hn2
     have q1 := HR.out
     rw [if_pos (.inl hd)] at q1
     have HQr := Lib.hid q1
     clear q1 hd hn0 hn1 hn2 HR
     go_wp2_with fail
     refine (XS3.out.node ⟨22, 0, t3.s, ⟨#[]⟩⟩ 22 [⟨A, c, e⟩] #[.slice A e.length c] rfl (mem1 HE_3.out) (by have := HLE.out; simp [catN]; omega) (by simp) (E := opS 22 t3.s e) (by simp [catN, opS])).mono ?_
     rintro r w4 ⟨A4, c4, rfl, E4, S4, o4⟩
     have HEm := Lib.hid E4
     have HSm := Lib.hid S4
     have HLm : Hid ((opS 22 t3.s e).length ≤ 302 * (j + 1 + 1 + 1)) := by show _ ≤ _; simp [opS]; omega
     have HQm : Hid (pa gg (.po (opS 22 t3.s e)) (x.ts.drop (j + 1 + 1)) = Q) := HQr.out
     clear E4 S4 o4 HQr
     generalize opS 22 t3.s e = EE at HEm HLm HQm ⊢
     go_wp2_with fail
     go_roundg gg
     case measure => have := HGK.out; omega
     case rel => exact ⟨A4, c4, EE, j + 1 + 1, rfl, by omega, HLm.out, HEm.out, HSm.out, HQm.out⟩
end Go.Proofs.YtbggbcnfkcadjaaGreatDoor
namespace Go.Proofs.YtbggbcnfkcadjaaGreatDoor
set_option maxRecDepth 100000
open Go.RowKit Go.Sort
theorem l_cc : (⟨#[125]⟩ : ByteArray).toList = [125] := bsOf_list [125]
theorem l_colon : (⟨#[58]⟩ : ByteArray).toList = [58] := bsOf_list [58]
def fldR (g : Nat) (ps : List (List Nd)) (last : ByteArray) (ts : List Tk) : Pr := tokR (fun t => t.kind == 1 && !sLate last t.s) ts fun t r1 => needR [58] r1 fun r2 => (pa g .whole r2).bind fun e r3 => pa g (.re (ps ++ [opS 7 t.s e]) t.s) r3
theorem re_end {g : Nat} {ps : List (List Nd)} {last : ByteArray} {ts : List Tk} {j : Nat} (h : hdS [125] (ts.drop j) = true) : pa (g + 1) (.re ps last) (ts.drop j) = .ok (⟨6, ps.length, ⟨#[]⟩, ⟨#[]⟩⟩ :: ps.flatten) (ts.drop (j + 1)) := by
 show (if hdS [125] (ts.drop j) = true then _ else _) = _
 rw [if_pos h, tail_drop']
theorem re_one {g : Nat} {ps : List (List Nd)} {last : ByteArray} {ts : List Tk} {j : Nat} (h : hdS [125] (ts.drop j) = false) (h0 : ps = []) : pa (g + 1) (.re ps last) (ts.drop j) = fldR g ps last (ts.drop j) := by
 show (if hdS [125] (ts.drop j) = true then _ else if ps = [] then _ else _) = _
 rw [if_neg (by rw [h]; simp), if_pos h0]; rfl
theorem re_more {g : Nat} {ps : List (List Nd)} {last : ByteArray} {ts : List Tk} {j : Nat} (h : hdS [125] (ts.drop j) = false) (h0 : ps ≠ []) : pa (g + 1) (.re ps last) (ts.drop j) = needR [44] (ts.drop j) (fldR g ps last) := by
 show (if hdS [125] (ts.drop j) = true then _ else if ps = [] then _ else _) = _
 rw [if_neg (by rw [h]; simp), if_neg h0]; rfl
theorem fld_kind {g : Nat} {ps : List (List Nd)} {last : ByteArray} {ts : List Tk} (h : kdR ts ≠ 1) : fldR g ps last ts = .bad 1 ts := by
 cases ts with
 | nil => rfl
 | cons t r =>
   show (if (t.kind == 1 && !sLate last t.s) = true then _ else _) = _
   rw [if_neg (by have : t.kind ≠ 1 := h
                  simp [this])]
theorem fld_late {g : Nat} {ps : List (List Nd)} {last : ByteArray} {ts : List Tk} {j : Nat} {t : Tk} (ht : ts[j]? = some t) (hl : sLate last t.s = true) : fldR g ps last (ts.drop j) = .bad 1 (ts.drop j) := by
 rw [drop_cons ht]
 show (if (t.kind == 1 && !sLate last t.s) = true then _ else _) = _
 rw [if_neg (by rw [hl]; simp)]
theorem fld_go {g : Nat} {ps : List (List Nd)} {last : ByteArray} {ts : List Tk} {j : Nat} {t : Tk} (ht : ts[j]? = some t) (hk : t.kind = 1) (hl : sLate last t.s = false) : fldR g ps last (ts.drop j) = needR [58] (ts.drop (j + 1)) fun r2 => (pa g .whole r2).bind fun e r3 => pa g (.re (ps ++ [opS 7 t.s e]) t.s) r3 := by
 rw [drop_cons ht]
 show (if (t.kind == 1 && !sLate last t.s) = true then _ else _) = _
 rw [if_pos (by rw [hl, hk]; rfl)]
set_option maxHeartbeats 25600000 in
theorem ph_rec (x : Px) (f : Nat) (hw : ∀ g, g ≤ f → Does x 30 (pa g .whole)) : Does x 237 (pa f (.re [] ⟨#[]⟩)) := by
 intro w i hx hB hi hnb
 obtain ⟨i0, hi0, hz0, hz1, hz2⟩ := info_parts ns_info
 have S0 := St.start hx hB hi
 have hlen := hx.len
 have HS0 := Lib.hid S0
 have HLT := Lib.hid hB.lt
 have HW := Lib.hid hw
 obtain ⟨Q, hQ⟩ : ∃ Q, pa f (.re [] ⟨#[]⟩) (x.ts.drop i) = Q := ⟨_, rfl⟩
 rw [hQ] at hnb ⊢
 have HN := Lib.hid hnb
 have HQ0 := Lib.hid hQ
 clear hx hB hw hnb S0 hQ
 go_enter Tryz.func237, Tryz.ntmps237
 go_wp2_with fail
 go_loopg [3, 4] f (fun gg pv lv wr => ∃ (ms : List NsM) (j : Nat) (last : ByteArray), lv = .string last ∧ gg ≤ f ∧ ms.length ≤ j ∧ Hid ((catN ms).length ≤ 302 * (j + 1)) ∧ Hid (PkR x w wr pv ms) ∧ Hid (St x w wr j) ∧ Hid (pa gg (.re (ms.map NsM.e) last) (x.ts.drop j) = Q))
 case atStart => exact ⟨[], i, ⟨#[]⟩, rfl, Nat.le_refl _, Nat.zero_le _, by show _ ≤ _; simp [catN], PkR.start x w, HS0.out, HQ0.out⟩
 case round =>
   obtain ⟨ms, j, last, rfl, hgg, hml, HCL, HK, HS, HQ⟩ := hrel
   clear HS0 HQ0
   have hj300 : j ≤ 300 := Nat.le_trans HS.out.le hlen
   obtain ⟨gg, hgk⟩ : ∃ gg, gk = gg + 1 := by
     cases gk with
     | zero => exact absurd HQ.out.symm (HN.out _)
     | succ g => exact ⟨g, rfl⟩
   rw [hgk] at HQ
   have HGK := Lib.hid hgk
   have hggf : gg ≤ f := by omega
   clear hgk
   obtain ⟨Ap, cp, hpv, hcp⟩ := own_sl HK.out.row
   subst hpv
   cases hb : hdS [125] (x.ts.drop j) with
   | true =>
     have hqq := HQ.out
     rw [re_end hb, catN_map, List.length_map] at hqq
     have HQQ := Lib.hid hqq
     have HB := Lib.hid hb
     clear hb HQ hqq
     go_wp2_with fail
     refine (HS.out.take_yes ⟨#[125]⟩ _ l_cc (by rw [HS.out.sg (c := 125) (r := []) (by decide)]; exact HB.out)).mono ?_
     rintro r w1 ⟨rfl, S1, o1⟩
     have HK_1 := Lib.hid (HK.out.only o1 HLT.out)
     have XS1 := Lib.hid S1
     clear S1 o1 HK HS
     have HF := Lib.hid (HK_1.out.node XS1.out ⟨6, ms.length, ⟨#[]⟩, ⟨#[]⟩⟩ (by have := HCL.out; omega) (by omega) rfl HQQ.out)
     go_wp2_with fail
     refine HF.out.mono ?_
     rintro r w9 ⟨A9, c9, n9, rfl, hp⟩
     have HP := Lib.hid hp
     clear hp
     go_wp2_with fail
     go_ret
     exact HP.out
   | false =>
     have HB := Lib.hid hb
     have HDW := Lib.hid (HW.out gg hggf)
     by_cases h0 : ms = []
     · have hqq := HQ.out
       rw [re_one hb (by rw [h0]; rfl)] at hqq
       have HQQ := Lib.hid hqq
       have tl : decide (0 < ms.length) = false := by rw [h0]; rfl
       clear hb hqq HQ h0
       go_wp2_with fail
       refine (HS.out.take_no ⟨#[125]⟩ _ l_cc (by rw [HS.out.sg (c := 125) (r := []) (by decide)]; exact HB.out)).mono ?_
       rintro r w1 ⟨rfl, S1, o1⟩
       have HK_1 := Lib.hid (HK.out.only o1 HLT.out)
       have XS1 := Lib.hid S1
       clear S1 o1 HK HS
       by_cases k1 : kdR (x.ts.drop (j)) = 1
       case neg =>
         obtain ⟨kd, hkd⟩ : ∃ kd, kdR (x.ts.drop (j)) = kd := ⟨_, rfl⟩
         have tk : (kd != 1) = true := by rw [← hkd]; simpa using k1
         have HKD := Lib.hid hkd
         have HQb : Hid (.bad 1 (x.ts.drop (j)) = Q) := by show _ = _; rw [← HQQ.out]; exact (fld_kind k1).symm
         clear k1 hkd HQQ
         go_wp2_with fail
         refine wp_region_ord (S := fun W => W.cell? ⟨x.pb, 1, none⟩ = some (.int .i64 ((j : Nat) : Int))) [(0, false), (1, true), (2, false), (3, false), (4, false), (5, false), (6, false), (7, false), (8, false), (9, false), (10, false), (11, false), (12, false), (13, false), (14, false), (15, false), (16, false), (17, false)] (by kernel_rfl) (by kernel_rfl) (fun _ _ _ _ _ h => h) (XS1.out.drew.blk.cell 1) (fun hW' => ?_)
         simp only [ordOps, List.filterMap_cons, List.filterMap_nil, List.getElem?_cons_zero, List.getElem?_cons_succ, Option.map_some]
         (repeat (first | (refine hd_take (v := ?_) (by rfl) ?_ ?_; rotate_left; (focus (intro W hW; obtain s0 := hW; go_simp; try with_reducible rfl)); simp only [Act.put, List.setIfInBounds_toArray, List.set_cons_zero, List.set_cons_succ]) | (refine hd_skip (by rfl) ?_; simp only [Act.put, List.setIfInBounds_toArray, List.set_cons_zero, List.set_cons_succ])))
         clear hW'
         refine hd_call (fun K hK => ?_)
         go_simp
         refine (XS1.out.drew.kind kd HKD.out).mono ?_
         rintro r w2 ⟨rfl, S2, o2⟩
         refine hK _ _ (S2.blk.cell 1) ?_
         clear hK K
         (repeat (first | (refine hd_take (v := ?_) (by rfl) ?_ ?_; rotate_left; (focus (intro W hW; obtain s0 := hW; go_simp; try with_reducible rfl)); simp only [Act.put, List.setIfInBounds_toArray, List.set_cons_zero, List.set_cons_succ]) | (refine hd_skip (by rfl) ?_; simp only [Act.put, List.setIfInBounds_toArray, List.set_cons_zero, List.set_cons_succ])))
         refine hd_nil ?_
         have HK_2 := Lib.hid (HK_1.out.only (((Only.refl _ _ _).drew).trans o2) HLT.out)
         have XS2 := Lib.hid S2
         clear S2 o2 XS1 HK_1
         have HF := Lib.hid (ph_fail x (j) w2 XS2.out.blk)
         go_wp2_with fail
         refine HF.out.mono ?_
         rintro r w90 ⟨rfl, rfl⟩
         go_wp2_with fail
         exact ⟨rfl, by rw [← HQb.out]; exact XS2.out.no 1⟩
       case pos =>
       obtain ⟨t, ht, htk⟩ := kd_some k1 (by decide)
       obtain ⟨b, o, hA, -⟩ := XS1.out.inn.at_ ht
       have hltj : j < x.ts.length := (List.getElem?_eq_some_iff.1 ht).1
       have ti := tok_at b o x.ts.length x.c j hltj
       have HT := Lib.hid ht
       have HTK := Lib.hid htk
       have HA := Lib.hid hA
       have HKD := Lib.hid k1
       clear ht htk hA k1
       cases hlate : sLate last t.s with
       | true =>
         have HQb : Hid (.bad 1 (x.ts.drop (j)) = Q) := by show _ = _; rw [← HQQ.out]; exact (fld_late HT.out hlate).symm
         clear HQQ
         unfold sLate at hlate
         go_wp2_with fail
         refine wp_region_ord (S := PhS x (j) (j) b o t) [(0, false), (1, true), (2, false), (3, false), (4, false), (5, false), (6, false), (7, false), (8, false), (9, false), (10, false), (11, false), (12, false), (13, false), (14, false), (15, false), (16, false), (17, false)] (by kernel_rfl) (by kernel_rfl) (fun _ _ _ _ _ h => h) (XS1.out.drew.phs HT.out HA.out) (fun hW' => ?_)
         simp only [ordOps, List.filterMap_cons, List.filterMap_nil, List.getElem?_cons_zero, List.getElem?_cons_succ, Option.map_some]
         (repeat (first | (refine hd_take (v := ?_) (by rfl) ?_ ?_; rotate_left; (focus (intro W hW; obtain ⟨s0, s1, s2, s3, s4⟩ := hW; go_simp; try with_reducible rfl)); simp only [Act.put, List.setIfInBounds_toArray, List.set_cons_zero, List.set_cons_succ]) | (refine hd_skip (by rfl) ?_; simp only [Act.put, List.setIfInBounds_toArray, List.set_cons_zero, List.set_cons_succ])))
         clear hW'
         refine hd_call (fun K hK => ?_)
         go_simp
         refine (XS1.out.drew.kind 1 HKD.out).mono ?_
         rintro r w2 ⟨rfl, S2, o2⟩
         refine hK _ _ (S2.phs HT.out HA.out) ?_
         clear hK K
         (repeat (first | (refine hd_take (v := ?_) (by rfl) ?_ ?_; rotate_left; (focus (intro W hW; obtain ⟨s0, s1, s2, s3, s4⟩ := hW; go_simp; try with_reducible rfl)); simp only [Act.put, List.setIfInBounds_toArray, List.set_cons_zero, List.set_cons_succ]) | (refine hd_skip (by rfl) ?_; simp only [Act.put, List.setIfInBounds_toArray, List.set_cons_zero, List.set_cons_succ])))
         refine hd_nil ?_
         have HK_2 := Lib.hid (HK_1.out.only (((Only.refl _ _ _).drew).trans o2) HLT.out)
         have XS2 := Lib.hid S2
         clear S2 o2 XS1 HK_1
         have HF := Lib.hid (ph_fail x (j) w2 XS2.out.blk)
         go_wp2_with fail
         refine HF.out.mono ?_
         rintro r w90 ⟨rfl, rfl⟩
         go_wp2_with fail
         exact ⟨rfl, by rw [← HQb.out]; exact XS2.out.no 1⟩
       | false =>
         have hqf := HQQ.out
         have hqf : fldR gg (ms.map NsM.e) last (x.ts.drop (j)) = Q := hqf
         rw [fld_go HT.out HTK.out hlate] at hqf
         have HQf := Lib.hid hqf
         clear hqf HQQ
         unfold sLate at hlate
         go_wp2_with fail
         refine wp_region_ord (S := PhS x (j) (j) b o t) [(0, false), (1, true), (2, false), (3, false), (4, false), (5, false), (6, false), (7, false), (8, false), (9, false), (10, false), (11, false), (12, false), (13, false), (14, false), (15, false), (16, false), (17, false)] (by kernel_rfl) (by kernel_rfl) (fun _ _ _ _ _ h => h) (XS1.out.drew.phs HT.out HA.out) (fun hW' => ?_)
         simp only [ordOps, List.filterMap_cons, List.filterMap_nil, List.getElem?_cons_zero, List.getElem?_cons_succ, Option.map_some]
         (repeat (first | (refine hd_take (v := ?_) (by rfl) ?_ ?_; rotate_left; (focus (intro W hW; obtain ⟨s0, s1, s2, s3, s4⟩ := hW; go_simp; try with_reducible rfl)); simp only [Act.put, List.setIfInBounds_toArray, List.set_cons_zero, List.set_cons_succ]) | (refine hd_skip (by rfl) ?_; simp only [Act.put, List.setIfInBounds_toArray, List.set_cons_zero, List.set_cons_succ])))
         clear hW'
         refine hd_call (fun K hK => ?_)
         go_simp
         refine (XS1.out.drew.kind 1 HKD.out).mono ?_
         rintro r w2 ⟨rfl, S2, o2⟩
         refine hK _ _ (S2.phs HT.out HA.out) ?_
         clear hK K
         (repeat (first | (refine hd_take (v := ?_) (by rfl) ?_ ?_; rotate_left; (focus (intro W hW; obtain ⟨s0, s1, s2, s3, s4⟩ := hW; go_simp; try with_reducible rfl)); simp only [Act.put, List.setIfInBounds_toArray, List.set_cons_zero, List.set_cons_succ]) | (refine hd_skip (by rfl) ?_; simp only [Act.put, List.setIfInBounds_toArray, List.set_cons_zero, List.set_cons_succ])))
         refine hd_nil ?_
         have HK_2 := Lib.hid (HK_1.out.only (((Only.refl _ _ _).drew).trans o2) HLT.out)
         have XS2 := Lib.hid S2
         clear S2 o2 XS1 HK_1
         clear hlate ti
         go_wp2_with fail
         refine (XS2.out.word_yes 1 t HT.out HTK.out).mono ?_
         rintro r w3 ⟨rfl, S3, o3⟩
         have HK_3 := Lib.hid (HK_2.out.only o3 HLT.out)
         have XS3 := Lib.hid S3
         clear S3 o3 HK_2 XS2
         go_wp2_with fail
         refine (XS3.out.needS ⟨#[58]⟩ l_colon (by decide) HQf.out).mono ?_
         rintro r w4 (⟨k, j, rfl, hp⟩ | ⟨rfl, S4, o4, q4⟩)
         · have HP := Lib.hid hp
           clear hp
           go_wp2_with fail
           exact ⟨rfl, HP.out⟩
         have HK_4 := Lib.hid (HK_3.out.only o4 HLT.out)
         have XS4 := Lib.hid S4
         have XQ4 := Lib.hid q4
         clear S4 q4 o4 HK_3 XS3 HQf
         go_wp2_with fail
         refine (XS4.out.callF HDW.out HN.out trivial XQ4.out).mono ?_
         rintro r w5 (⟨k, jx, rfl, hp⟩ | ⟨A5, c5, e5, j5, rfl, E5, S5, o5, q5, l5, b5⟩)
         · have HP := Lib.hid hp
           clear hp
           go_wp2_with fail
           exact ⟨rfl, HP.out⟩
         have HK2 := Lib.hid (HK_4.out.only o5 HLT.out)
         have HE2 := Lib.hid E5
         have HS2 := Lib.hid S5
         have HQ2 : Hid (pa gg (.re (ms.map NsM.e ++ [opS 7 t.s e5]) t.s) (x.ts.drop j5) = Q) := q5
         have HL2 : Hid (e5.length ≤ 300) := l5
         have HG2 : Hid (j + 1 + 1 + 1 ≤ j5) := b5
         clear E5 S5 q5 l5 b5 o5 HK_4 XS4 XQ4
         have hvb : ∀ b, (Value.slice Ap ms.length cp).ownBlock = some b → b < w5.heap.size := fun b hb => (own_lt HK2.out.row hb).2
         have hzz : w.heap.size ≤ w5.heap.size := HS2.out.only.size
         go_wp2_with fail
         refine (HS2.out.nodeF ⟨7, 0, t.s, ⟨#[]⟩⟩ 22 [⟨A5, c5, e5⟩] #[.slice A5 e5.length c5] rfl (mem1 HE2.out) (by have := HL2.out; simp [catN]; omega) (by simp) (E := opS 7 t.s e5) (by simp [catN, opS])).mono ?_
         rintro r w70 ⟨A70, c70, rfl, E70, S70, o70⟩
         have HK3 := Lib.hid (HK2.out.only o70 HLT.out)
         have HFAR := Lib.hid (E70.farG (w := w) (v := .slice Ap ms.length cp) hzz hvb)
         have HNE := Lib.hid E70.ne
         have HS3 := Lib.hid S70
         have HLE : Hid ((opS 7 t.s e5).length ≤ 301) := by have := HL2.out; show _ ≤ _; simp [opS]; omega
         clear E70 S70 o70 hvb hzz HK2 HE2 HS2 HL2
         generalize opS 7 t.s e5 = EE at HFAR HNE HLE HQ2 ⊢
         have hml2 : ms.length + 1 ≤ j5 := by have := HG2.out; omega
         have HROW : Hid ((w70.alloc (.cells #[.slice A70 EE.length c70] 22)).ownsRow w.heap.size 22 1 (.slice Ap ms.length cp) ms.length (flatG NsM.cells ms)) := own_keep HK3.out.row (by (repeat (first | assumption | exact Below.refl _ _ | apply Below.drew | apply below_drewN | (refine Below.alloc ?_ (by first | exact Nat.le_refl _ | omega | (simp; done) | (simp; omega)) _))))
         go_wp2_with (at_builtin; refine wpList_append_own_at _ rfl (.tmp 37) (.tmp 44) 143 rfl w.heap.size 22 i0 _ 1 24 Tryz.underlying143 hi0 hz0 hz1 hz2 rfl (by omega) _ ms.length (flatG NsM.cells ms) rfl HROW.out ⟨w70.heap.size, 0, none⟩ 1 1 [.slice A70 EE.length c70] rfl rfl (cell_one_new _ _ _) (by simp [Value.oneCell']) (by unfold maxLen; omega) (by omega) (by have := HS3.out.only.size; simp; omega) ?_; intro pv6 w60 hown6 hgrow6 _ hloc6)
         have HK6 := Lib.hid (HK3.out.more (y := ⟨A70, c70, EE⟩) HFAR.out HNE.out hown6 hgrow6 hloc6)
         have hbz : RowKit.Below w.heap.size w70 w60 := ((RowKit.Below.refl w.heap.size w70).alloc HS3.out.only.size _).grown hgrow6 (by have := HS3.out.only.size; simp; omega) (fun q hq => (own_lt HK3.out.row hq).1)
         have HS6 := Lib.hid (HS3.out.grown hbz)
         have HC6 : Hid ((catN (ms ++ [(⟨A70, c70, EE⟩ : NsM)])).length ≤ 302 * (j5 + 1)) := by have h1 := HG2.out; have h2 := HLE.out; have h3 := HCL.out; show _ ≤ _; rw [catN_snoc, List.length_append]; simp only; omega
         have HQ6 : Hid (pa gg (.re ((ms ++ [(⟨A70, c70, EE⟩ : NsM)]).map NsM.e) t.s) (x.ts.drop j5) = Q) := by show _ = _; rw [List.map_append]; exact HQ2.out
         clear hown6 hgrow6 hloc6 hbz HROW HK3 HFAR HNE HS3 HQ2
         go_wp2_with fail
         go_roundg gg
         case measure => have := HGK.out; omega
         case rel => exact ⟨ms ++ [⟨A70, c70, EE⟩], j5, t.s, rfl, by omega, by rw [List.length_append, List.length_singleton]; exact hml2, HC6, HK6, HS6, HQ6⟩
     · have hqq := HQ.out
       rw [re_more hb (by simpa using h0)] at hqq
       have HQQ := Lib.hid hqq
       have tl : decide (0 < ms.length) = true := by cases ms with
         | nil => exact absurd rfl h0
         | cons => simp
       clear hb hqq HQ h0
       go_wp2_with fail
       refine (HS.out.take_no ⟨#[125]⟩ _ l_cc (by rw [HS.out.sg (c := 125) (r := []) (by decide)]; exact HB.out)).mono ?_
       rintro r w1 ⟨rfl, S1, o1⟩
       have HK_1 := Lib.hid (HK.out.only o1 HLT.out)
       have XS1 := Lib.hid S1
       clear S1 o1 HK HS
       go_wp2_with fail
       refine (XS1.out.needS ⟨#[44]⟩ l_comma (by decide) HQQ.out).mono ?_
       rintro r w2 (⟨k, j, rfl, hp⟩ | ⟨rfl, S2, o2, q2⟩)
       · have HP := Lib.hid hp
         clear hp
         go_wp2_with fail
         exact ⟨rfl, HP.out⟩
       have HK_2 := Lib.hid (HK_1.out.only o2 HLT.out)
       have XS2 := Lib.hid S2
       have XQ2 := Lib.hid q2
       clear S2 q2 o2 HK_1 XS1 HQQ
       by_cases k1 : kdR (x.ts.drop (j + 1)) = 1
       case neg =>
         obtain ⟨kd, hkd⟩ : ∃ kd, kdR (x.ts.drop (j + 1)) = kd := ⟨_, rfl⟩
         have tk : (kd != 1) = true := by rw [← hkd]; simpa using k1
         have HKD := Lib.hid hkd
         have HQb : Hid (.bad 1 (x.ts.drop (j + 1)) = Q) := by show _ = _; rw [← XQ2.out]; exact (fld_kind k1).symm
         clear k1 hkd XQ2
         go_wp2_with fail
         refine wp_region_ord (S := fun W => W.cell? ⟨x.pb, 1, none⟩ = some (.int .i64 ((j + 1 : Nat) : Int))) [(0, false), (1, true), (2, false), (3, false), (4, false), (5, false), (6, false), (7, false), (8, false), (9, false), (10, false), (11, false), (12, false), (13, false), (14, false), (15, false), (16, false), (17, false)] (by kernel_rfl) (by kernel_rfl) (fun _ _ _ _ _ h => h) (XS2.out.drew.blk.cell 1) (fun hW' => ?_)
         simp only [ordOps, List.filterMap_cons, List.filterMap_nil, List.getElem?_cons_zero, List.getElem?_cons_succ, Option.map_some]
         (repeat (first | (refine hd_take (v := ?_) (by rfl) ?_ ?_; rotate_left; (focus (intro W hW; obtain s0 := hW; go_simp; try with_reducible rfl)); simp only [Act.put, List.setIfInBounds_toArray, List.set_cons_zero, List.set_cons_succ]) | (refine hd_skip (by rfl) ?_; simp only [Act.put, List.setIfInBounds_toArray, List.set_cons_zero, List.set_cons_succ])))
         clear hW'
         refine hd_call (fun K hK => ?_)
         go_simp
         refine (XS2.out.drew.kind kd HKD.out).mono ?_
         rintro r w3 ⟨rfl, S3, o3⟩
         refine hK _ _ (S3.blk.cell 1) ?_
         clear hK K
         (repeat (first | (refine hd_take (v := ?_) (by rfl) ?_ ?_; rotate_left; (focus (intro W hW; obtain s0 := hW; go_simp; try with_reducible rfl)); simp only [Act.put, List.setIfInBounds_toArray, List.set_cons_zero, List.set_cons_succ]) | (refine hd_skip (by rfl) ?_; simp only [Act.put, List.setIfInBounds_toArray, List.set_cons_zero, List.set_cons_succ])))
         refine hd_nil ?_
         have HK_3 := Lib.hid (HK_2.out.only (((Only.refl _ _ _).drew).trans o3) HLT.out)
         have XS3 := Lib.hid S3
         clear S3 o3 XS2 HK_2
         have HF := Lib.hid (ph_fail x (j + 1) w3 XS3.out.blk)
         go_wp2_with fail
         refine HF.out.mono ?_
         rintro r w90 ⟨rfl, rfl⟩
         go_wp2_with fail
         exact ⟨rfl, by rw [← HQb.out]; exact XS3.out.no 1⟩
       case pos =>
       obtain ⟨t, ht, htk⟩ := kd_some k1 (by decide)
       obtain ⟨b, o, hA, -⟩ := XS2.out.inn.at_ ht
       have hltj : j + 1 < x.ts.length := (List.getElem?_eq_some_iff.1 ht).1
       have ti := tok_at1 b o x.ts.length x.c j hltj
       have HT := Lib.hid ht
       have HTK := Lib.hid htk
       have HA := Lib.hid hA
       have HKD := Lib.hid k1
       clear ht htk hA k1
       cases hlate : sLate last t.s with
       | true =>
         have HQb : Hid (.bad 1 (x.ts.drop (j + 1)) = Q) := by show _ = _; rw [← XQ2.out]; exact (fld_late HT.out hlate).symm
         clear XQ2
         unfold sLate at hlate
         go_wp2_with fail
         refine wp_region_ord (S := PhS x (j + 1) (j + 1) b o t) [(0, false), (1, true), (2, false), (3, false), (4, false), (5, false), (6, false), (7, false), (8, false), (9, false), (10, false), (11, false), (12, false), (13, false), (14, false), (15, false), (16, false), (17, false)] (by kernel_rfl) (by kernel_rfl) (fun _ _ _ _ _ h => h) (XS2.out.drew.phs HT.out HA.out) (fun hW' => ?_)
         simp only [ordOps, List.filterMap_cons, List.filterMap_nil, List.getElem?_cons_zero, List.getElem?_cons_succ, Option.map_some]
         (repeat (first | (refine hd_take (v := ?_) (by rfl) ?_ ?_; rotate_left; (focus (intro W hW; obtain ⟨s0, s1, s2, s3, s4⟩ := hW; go_simp; try with_reducible rfl)); simp only [Act.put, List.setIfInBounds_toArray, List.set_cons_zero, List.set_cons_succ]) | (refine hd_skip (by rfl) ?_; simp only [Act.put, List.setIfInBounds_toArray, List.set_cons_zero, List.set_cons_succ])))
         clear hW'
         refine hd_call (fun K hK => ?_)
         go_simp
         refine (XS2.out.drew.kind 1 HKD.out).mono ?_
         rintro r w3 ⟨rfl, S3, o3⟩
         refine hK _ _ (S3.phs HT.out HA.out) ?_
         clear hK K
         (repeat (first | (refine hd_take (v := ?_) (by rfl) ?_ ?_; rotate_left; (focus (intro W hW; obtain ⟨s0, s1, s2, s3, s4⟩ := hW; go_simp; try with_reducible rfl)); simp only [Act.put, List.setIfInBounds_toArray, List.set_cons_zero, List.set_cons_succ]) | (refine hd_skip (by rfl) ?_; simp only [Act.put, List.setIfInBounds_toArray, List.set_cons_zero, List.set_cons_succ])))
         refine hd_nil ?_
         have HK_3 := Lib.hid (HK_2.out.only (((Only.refl _ _ _).drew).trans o3) HLT.out)
         have XS3 := Lib.hid S3
         clear S3 o3 XS2 HK_2
         have HF := Lib.hid (ph_fail x (j + 1) w3 XS3.out.blk)
         go_wp2_with fail
         refine HF.out.mono ?_
         rintro r w90 ⟨rfl, rfl⟩
         go_wp2_with fail
         exact ⟨rfl, by rw [← HQb.out]; exact XS3.out.no 1⟩
       | false =>
         have hqf := XQ2.out
         have hqf : fldR gg (ms.map NsM.e) last (x.ts.drop (j + 1)) = Q := hqf
         rw [fld_go HT.out HTK.out hlate] at hqf
         have HQf := Lib.hid hqf
         clear hqf XQ2
         unfold sLate at hlate
         go_wp2_with fail
         refine wp_region_ord (S := PhS x (j + 1) (j + 1) b o t) [(0, false), (1, true), (2, false), (3, false), (4, false), (5, false), (6, false), (7, false), (8, false), (9, false), (10, false), (11, false), (12, false), (13, false), (14, false), (15, false), (16, false), (17, false)] (by kernel_rfl) (by kernel_rfl) (fun _ _ _ _ _ h => h) (XS2.out.drew.phs HT.out HA.out) (fun hW' => ?_)
         simp only [ordOps, List.filterMap_cons, List.filterMap_nil, List.getElem?_cons_zero, List.getElem?_cons_succ, Option.map_some]
         (repeat (first | (refine hd_take (v := ?_) (by rfl) ?_ ?_; rotate_left; (focus (intro W hW; obtain ⟨s0, s1, s2, s3, s4⟩ := hW; go_simp; try with_reducible rfl)); simp only [Act.put, List.setIfInBounds_toArray, List.set_cons_zero, List.set_cons_succ]) | (refine hd_skip (by rfl) ?_; simp only [Act.put, List.setIfInBounds_toArray, List.set_cons_zero, List.set_cons_succ])))
         clear hW'
         refine hd_call (fun K hK => ?_)
         go_simp
         refine (XS2.out.drew.kind 1 HKD.out).mono ?_
         rintro r w3 ⟨rfl, S3, o3⟩
         refine hK _ _ (S3.phs HT.out HA.out) ?_
         clear hK K
         (repeat (first | (refine hd_take (v := ?_) (by rfl) ?_ ?_; rotate_left; (focus (intro W hW; obtain ⟨s0, s1, s2, s3, s4⟩ := hW; go_simp; try with_reducible rfl)); simp only [Act.put, List.setIfInBounds_toArray, List.set_cons_zero, List.set_cons_succ]) | (refine hd_skip (by rfl) ?_; simp only [Act.put, List.setIfInBounds_toArray, List.set_cons_zero, List.set_cons_succ])))
         refine hd_nil ?_
         have HK_3 := Lib.hid (HK_2.out.only (((Only.refl _ _ _).drew).trans o3) HLT.out)
         have XS3 := Lib.hid S3
         clear S3 o3 XS2 HK_2
         clear hlate ti
         go_wp2_with fail
         refine (XS3.out.word_yes 1 t HT.out HTK.out).mono ?_
         rintro r w4 ⟨rfl, S4, o4⟩
         have HK_4 := Lib.hid (HK_3.out.only o4 HLT.out)
         have XS4 := Lib.hid S4
         clear S4 o4 HK_3 XS3
         go_wp2_with fail
         refine (XS4.out.needS ⟨#[58]⟩ l_colon (by decide) HQf.out).mono ?_
         rintro r w5 (⟨k, j, rfl, hp⟩ | ⟨rfl, S5, o5, q5⟩)
         · have HP := Lib.hid hp
           clear hp
           go_wp2_with fail
           exact ⟨rfl, HP.out⟩
         have HK_5 := Lib.hid (HK_4.out.only o5 HLT.out)
         have XS5 := Lib.hid S5
         have XQ5 := Lib.hid q5
         clear S5 q5 o5 HK_4 XS4 HQf
         go_wp2_with fail
         refine (XS5.out.callF HDW.out HN.out trivial XQ5.out).mono ?_
         rintro r w6 (⟨k, jx, rfl, hp⟩ | ⟨A6, c6, e6, j6, rfl, E6, S6, o6, q6, l6, b6⟩)
         · have HP := Lib.hid hp
           clear hp
           go_wp2_with fail
           exact ⟨rfl, HP.out⟩
         have HK2 := Lib.hid (HK_5.out.only o6 HLT.out)
         have HE2 := Lib.hid E6
         have HS2 := Lib.hid S6
         have HQ2 : Hid (pa gg (.re (ms.map NsM.e ++ [opS 7 t.s e6]) t.s) (x.ts.drop j6) = Q) := q6
         have HL2 : Hid (e6.length ≤ 300) := l6
         have HG2 : Hid (j + 1 + 1 + 1 + 1 ≤ j6) := b6
         clear E6 S6 q6 l6 b6 o6 HK_5 XS5 XQ5
         have hvb : ∀ b, (Value.slice Ap ms.length cp).ownBlock = some b → b < w6.heap.size := fun b hb => (own_lt HK2.out.row hb).2
         have hzz : w.heap.size ≤ w6.heap.size := HS2.out.only.size
         go_wp2_with fail
         refine (HS2.out.nodeF ⟨7, 0, t.s, ⟨#[]⟩⟩ 22 [⟨A6, c6, e6⟩] #[.slice A6 e6.length c6] rfl (mem1 HE2.out) (by have := HL2.out; simp [catN]; omega) (by simp) (E := opS 7 t.s e6) (by simp [catN, opS])).mono ?_
         rintro r w70 ⟨A70, c70, rfl, E70, S70, o70⟩
         have HK3 := Lib.hid (HK2.out.only o70 HLT.out)
         have HFAR := Lib.hid (E70.farG (w := w) (v := .slice Ap ms.length cp) hzz hvb)
         have HNE := Lib.hid E70.ne
         have HS3 := Lib.hid S70
         have HLE : Hid ((opS 7 t.s e6).length ≤ 301) := by have := HL2.out; show _ ≤ _; simp [opS]; omega
         clear E70 S70 o70 hvb hzz HK2 HE2 HS2 HL2
         generalize opS 7 t.s e6 = EE at HFAR HNE HLE HQ2 ⊢
         have hml2 : ms.length + 1 ≤ j6 := by have := HG2.out; omega
         have HROW : Hid ((w70.alloc (.cells #[.slice A70 EE.length c70] 22)).ownsRow w.heap.size 22 1 (.slice Ap ms.length cp) ms.length (flatG NsM.cells ms)) := own_keep HK3.out.row (by (repeat (first | assumption | exact Below.refl _ _ | apply Below.drew | apply below_drewN | (refine Below.alloc ?_ (by first | exact Nat.le_refl _ | omega | (simp; done) | (simp; omega)) _))))
         go_wp2_with (at_builtin; refine wpList_append_own_at _ rfl (.tmp 37) (.tmp 44) 143 rfl w.heap.size 22 i0 _ 1 24 Tryz.underlying143 hi0 hz0 hz1 hz2 rfl (by omega) _ ms.length (flatG NsM.cells ms) rfl HROW.out ⟨w70.heap.size, 0, none⟩ 1 1 [.slice A70 EE.length c70] rfl rfl (cell_one_new _ _ _) (by simp [Value.oneCell']) (by unfold maxLen; omega) (by omega) (by have := HS3.out.only.size; simp; omega) ?_; intro pv6 w60 hown6 hgrow6 _ hloc6)
         have HK6 := Lib.hid (HK3.out.more (y := ⟨A70, c70, EE⟩) HFAR.out HNE.out hown6 hgrow6 hloc6)
         have hbz : RowKit.Below w.heap.size w70 w60 := ((RowKit.Below.refl w.heap.size w70).alloc HS3.out.only.size _).grown hgrow6 (by have := HS3.out.only.size; simp; omega) (fun q hq => (own_lt HK3.out.row hq).1)
         have HS6 := Lib.hid (HS3.out.grown hbz)
         have HC6 : Hid ((catN (ms ++ [(⟨A70, c70, EE⟩ : NsM)])).length ≤ 302 * (j6 + 1)) := by have h1 := HG2.out; have h2 := HLE.out; have h3 := HCL.out; show _ ≤ _; rw [catN_snoc, List.length_append]; simp only; omega
         have HQ6 : Hid (pa gg (.re ((ms ++ [(⟨A70, c70, EE⟩ : NsM)]).map NsM.e) t.s) (x.ts.drop j6) = Q) := by show _ = _; rw [List.map_append]; exact HQ2.out
         clear hown6 hgrow6 hloc6 hbz HROW HK3 HFAR HNE HS3 HQ2
         go_wp2_with fail
         go_roundg gg
         case measure => have := HGK.out; omega
         case rel => exact ⟨ms ++ [⟨A70, c70, EE⟩], j6, t.s, rfl, by omega, by rw [List.length_append, List.length_singleton]; exact hml2, HC6, HK6, HS6, HQ6⟩
end Go.Proofs.YtbggbcnfkcadjaaGreatDoor
namespace Go.Proofs.YtbggbcnfkcadjaaGreatDoor
set_option maxRecDepth 100000
open Go.RowKit Go.Sort
structure AllD (x : Px) (f : Nat) : Prop where
 wh : Does x 30 (pa f .whole)
 c1 : Does x 60 (pa f (.ch 1))
 c2 : Does x 98 (pa f (.ch 2))
 rl : Does x 134 (pa f .rel)
 c4 : Does x 159 (pa f (.ch 4))
 c5 : Does x 177 (pa f (.ch 5))
 sg : Does x 194 (pa f .sign)
 at_ : Does x 224 (pa f .atom)
 se : Does x 236 (pa f (.se []))
 re : Does x 237 (pa f (.re [] ⟨#[]⟩))
theorem does_zero (x : Px) (fn : Nat) (a : PT) : Does x fn (pa 0 a) := fun _ _ _ _ _ hnb => absurd rfl (hnb _)
theorem all_does (x : Px) : ∀ f, AllD x f := by
 intro f
 induction f using Nat.strongRecOn with
 | _ f ih =>
   cases f with
   | zero => exact ⟨does_zero _ _ _, does_zero _ _ _, does_zero _ _ _, does_zero _ _ _, does_zero _ _ _, does_zero _ _ _, does_zero _ _ _, does_zero _ _ _, does_zero _ _ _, does_zero _ _ _⟩
   | succ f =>
     have H : ∀ g, g ≤ f → AllD x g := fun g hg => ih g (by omega)
     have h := H f (Nat.le_refl _)
     have hwh := ph_whole x f h.wh h.c1
     have hW : ∀ g, g ≤ f + 1 → Does x 30 (pa g .whole) := fun g hg => by
       rcases Nat.lt_or_ge g (f + 1) with h1 | h1
       · exact (H g (by omega)).wh
       · have : g = f + 1 := by omega
         subst this; exact hwh
     exact ⟨hwh, ph_either x f (fun g hg => (H g hg).c2), ph_both x f (fun g hg => (H g hg).rl), ph_rel x f h.c4, ph_sum x f (fun g hg => (H g hg).c5), ph_prod x f (fun g hg => (H g hg).sg),
       ph_sign x f h.sg (ph_post x f h.at_ (fun g hg => (H g hg).wh)), ph_atom x f h.wh h.se h.re, ph_set x (f + 1) hW, ph_rec x (f + 1) hW⟩
theorem assert_wrongP (k a : Int) (w : World) : (Instr.typeAssert (.iface 68 (.agg #[.int .i64 k, .int .i64 a])) 20 68 true).run Tryz.prog w = .ok (.tuple #[.agg #[.int .i64 k, .int .i64 a], .bool true]) w := by kernel_rfl
set_option maxHeartbeats 800000 in
theorem parse_idle (p q r : Addr) (w : World) :
   CallsD Tryz.prog 29 #[.pointer (some p), .pointer (some q), .pointer (some r)] .returning w fun e u' w' => e = .returned (.tuple #[]) ∧ u' = .returning ∧ w' = w := by
 refine callsD_of_wpS Tryz.func29 rfl fun c₀ cs hu => ?_
 apply wpS_seq
 apply wpS_region
 simp [wpOpsS, go_sem, recoverD, hu, Tryz.ntmps29, Exit.thenS]
 refine wpS_of_wp ?_
 simp only [Array.replicate_succ, Array.replicate_zero, List.push_toArray, List.nil_append, List.cons_append]
 go_wp2
 cases c₀
 simp_all [bodyPostS, results, Tryz.results29]
def CaughtP (b : Nat) (k a : Int) (w w' : World) : Prop :=
 w'.cell? ⟨b, 0, none⟩ = some (.slice none 0 0) ∧ w'.cell? ⟨b + 1, 0, none⟩ = some (.int .i64 a) ∧ w'.cell? ⟨b + 2, 0, none⟩ = some (.iface 33 (.int .i64 k)) ∧ RowKit.Below b w w'
set_option maxHeartbeats 1600000 in
theorem parse_catch (b : Nat) (x y z : Value) (k a : Int) (older : List PanicEntry) (w : World) (hx : Blk w b 22 #[x]) (hy : Blk w (b + 1) 3 #[y]) (hz : Blk w (b + 2) 25 #[z]) :
   CallsD Tryz.prog 29 #[.pointer (some ⟨b, 0, none⟩), .pointer (some ⟨b + 1, 0, none⟩), .pointer (some ⟨b + 2, 0, none⟩)] (.panicking ({ v := .iface 68 (.agg #[.int .i64 k, .int .i64 a]), recovered := false } :: older)) w fun e u' w' =>
     e = .returned (.tuple #[]) ∧ u' = .panicking ({ v := .iface 68 (.agg #[.int .i64 k, .int .i64 a]), recovered := true } :: older) ∧ CaughtP b k a w w' := by
 have hta := assert_wrongP k a
 have lx := hx.lt
 have ly := hy.lt
 have lz := hz.lt
 have cx := hx.cell 0
 have cy := hy.cell 0
 have cz := hz.cell 0
 have fx := hx.frozen 0
 have fy := hy.frozen 0
 have fz := hz.frozen 0
 simp only [List.getElem?_toArray, List.getElem?_cons_zero] at cx cy cz
 clear hx hy hz
 refine callsD_of_wpS Tryz.func29 rfl fun c₀ cs hu => ?_
 apply wpS_seq
 apply wpS_region
 simp [wpOpsS, go_sem, recoverD, hu, Tryz.ntmps29, Exit.thenS]
 refine wpS_of_wp ?_
 simp only [Array.replicate_succ, Array.replicate_zero, List.push_toArray, List.nil_append, List.cons_append]
 go_wp2
 have g0 : (w.alloc (.cells #[.int .i64 k, .int .i64 a] 68)).cell? ⟨w.heap.size, 0, none⟩ = some (.int .i64 k) := by simp [go_sem]
 have g1 : (w.alloc (.cells #[.int .i64 k, .int .i64 a] 68)).cell? ⟨w.heap.size, 1, none⟩ = some (.int .i64 a) := by simp [go_sem]
 have hbw : RowKit.Below w.heap.size w (w.alloc (.cells #[.int .i64 k, .int .i64 a] 68)) := by (repeat (first | assumption | exact Below.refl _ _ | apply Below.drew | apply below_drewN | (refine Below.alloc ?_ (by first | exact Nat.le_refl _ | omega | (simp; done) | (simp; omega)) _)))
 obtain ⟨hcc, hff⟩ := bcell hbw
 have cx1 := (hcc b 0 lx).trans cx
 have cy1 := (hcc (b + 1) 0 ly).trans cy
 have cz1 := (hcc (b + 2) 0 lz).trans cz
 have fx1 := (hff b 0 lx).trans fx
 have fy1 := (hff (b + 1) 0 ly).trans fy
 have fz1 := (hff (b + 2) 0 lz).trans fz
 have hn0 : ¬ w.heap.size = b := by omega
 have hn1 : ¬ w.heap.size = b + 1 := by omega
 have hn2 : ¬ w.heap.size = b + 2 := by omega
 have hm0 : ¬ b = w.heap.size := by omega
 have hm1 : ¬ b + 1 = w.heap.size := by omega
 have hm2 : ¬ b + 2 = w.heap.size := by omega
 have HBW := Lib.hid hbw
 clear hcc hff cx cy cz fx fy fz hbw
 generalize (w.alloc (.cells #[.int .i64 k, .int .i64 a] 68)) = w1 at *
 go_region
 go_wp2
 simp [bodyPostS, results, Tryz.results29]
 have hb1 : ¬ b = b + 1 := by omega
 have hb2 : ¬ b = b + 2 := by omega
 have hb3 : ¬ b + 1 = b + 2 := by omega
 have hbw := HBW.out.mono (show b ≤ w.heap.size by omega)
 refine ⟨?_, ?_, ?_, (((hbw.setCell (p := ⟨b, 0, none⟩) (Nat.le_refl _) _).setCell (p := ⟨b + 1, 0, none⟩) (Nat.le_succ _) _).setCell (p := ⟨b + 2, 0, none⟩) (Nat.le_add_right _ _) _).drew⟩
 · simp [go_sem]
   exact World.cell?_setCell_same _ _ _ cx1
 · simp [go_sem]
   exact World.cell?_setCell_same _ _ _ ((World.cell?_setCell_other _ _ _ _ (by simp)).trans cy1)
 · exact World.cell?_setCell_same _ _ _ (((World.cell?_setCell_other _ _ _ _ (by simp)).trans (World.cell?_setCell_other _ _ _ _ (by simp))).trans cz1)
end Go.Proofs.YtbggbcnfkcadjaaGreatDoor
namespace Go.Proofs.YtbggbcnfkcadjaaGreatDoor
open Go.RowKit Go.Sort
theorem string_infoQ : (Tryz.prog.info? 9).map (fun i => (i.zero, i.size, i.bytes)) = some (some (.string ⟨#[]⟩), 1, 16) := by kernel_rfl
def quoL : List (List UInt8) := [[92], [92, 92], [34], [92, 34]]
theorem own_strsQ {w : World} {base : Nat} {v : Value} {n : Nat} {ss : List (List UInt8)} (h : w.ownsRow base 9 1 v n (ss.map encStr)) (hn : n = ss.length) :
   ∃ A c, v = .slice A n c ∧ n ≤ c ∧ c ≤ 9223372036854775807 ∧ StrSl w w.heap.size A ss := by
 subst hn
 rcases h.2 with ⟨hv, h0⟩ | ⟨g, cap, cur, hv, hbase, hb, h1, h2, h3, h4⟩
 · have : ss = [] := List.eq_nil_of_length_eq_zero h0
   subst this
   exact ⟨none, 0, hv, by simp, by omega, StrSl.nil _ _ _⟩
 · subst hv
   unfold maxLen at h2
   refine ⟨_, cap, rfl, h1, h2, fun _ => ⟨g, 0, rfl, (Array.getElem?_eq_some_iff.1 hb).1, fun i l hl => ?_⟩⟩
   have hi := (List.getElem?_eq_some_iff.1 hl).1
   rw [Nat.zero_add, h.cellAt i (by omega), List.getElem?_map, hl]; rfl
def RepNew (w : World) (r : Nat) : Prop :=
 ∃ A c, Blk w r 206 #[.int .u32 0, .int .i32 0, .int .u32 0, .nilIface, .slice A 4 c] ∧ StrSl w r A quoL
set_option maxRecDepth 100000 in
set_option maxHeartbeats 1600000 in
theorem rep_New (b : Nat) (w : World) (_hb : b < w.heap.size) (hc : ∀ i l, quoL[i]? = some l → w.cell? ⟨b, i, none⟩ = some (encStr l)) :
   Calls Tryz.prog 125 #[.slice (some ⟨b, 0, none⟩) 4 4] w fun e w' => ∃ r, e = .returned (.pointer (some ⟨r, 0, none⟩)) ∧ w.heap.size ≤ r ∧ RepNew w' r ∧ Below w.heap.size w w' := by
 obtain ⟨i0, hi, hz0, hz1, hz2⟩ := info_parts string_infoQ
 have hnews : ∀ j u, (quoL.map encStr)[j]? = some u → w.cell? ((⟨b, 0, none⟩ : Addr).add j) = some u := by
   intro j u hu
   rw [List.getElem?_map] at hu
   cases hq : quoL[j]? with
   | none => rw [hq] at hu; simp at hu
   | some l =>
     rw [hq] at hu; simp at hu; subst hu
     have := hc j l hq
     unfold Addr.add; split
     · rename_i h0; subst h0; exact this
     · rw [Nat.zero_add]; exact this
 have hone : ∀ u ∈ quoL.map encStr, u.oneCell' = true := by
   intro u hu
   obtain ⟨l, _, rfl⟩ := List.mem_map.1 hu
   rfl
 go_enter Tryz.func125, Tryz.ntmps125
 go_wp2_with (at_builtin; refine wpList_append_own _ rfl (.const (.slice none 0 0)) (.tmp 8) 44 rfl w.heap.size 9 i0 _ 1 16 Tryz.underlying44 hi hz0 hz1 hz2 rfl (by omega) (.slice none 0 0) 0 [] rfl (World.ownsRow_nil _ _ _ _) ⟨b, 0, none⟩ 4 4 (quoL.map encStr) rfl rfl hnews hone (by unfold maxLen; omega) (by omega) (by omega) ?_)
 intro v1 w1 hown1 hgrow1 _
 obtain ⟨A, c, hv, _, _, hs⟩ := own_strsQ hown1 rfl
 subst hv
 go_outline
 go_wp2_with fail
 go_ret
 refine ⟨w1.heap.size, rfl, hgrow1.size, ⟨A, c, ?_, ?_⟩, ?_⟩
 · exact Blk.new _ _ _
 · exact hs.below (Below.alloc (Below.refl w1.heap.size w1) (Nat.le_refl _) _)
 · exact ((Below.refl w.heap.size w).grown hgrow1 (Nat.le_refl _) (fun k hk => by cases hk)).alloc hgrow1.size _
end Go.Proofs.YtbggbcnfkcadjaaGreatDoor
namespace Go.Proofs.YtbggbcnfkcadjaaGreatDoor
open Go.RowKit Go.Sort
theorem one257 (v : Value) (hv : v.oneCell' = true) : (Tryz.zeroCells249.setIfInBounds 256 v).all (·.oneCell') = true := by
 rw [Array.all_eq_true_iff_forall_mem]
 intro x hx
 rcases Array.mem_or_eq_of_mem_setIfInBounds hx with h | h
 · exact (Array.all_eq_true_iff_forall_mem.1 (by decide +kernel : Tryz.zeroCells249.all (·.oneCell') = true)) x h
 · rw [h]; exact hv
theorem store257 (w : World) (v : Value) (hv : v.oneCell' = true) (g : Nat) (hg : g = w.heap.size) :
   Sem.run Tryz.prog (storeCells ⟨g, 0, none⟩ (Tryz.zeroCells249.toList.set 256 v)) (w.alloc (.cells Tryz.zeroCells249 249)) = .ok () (w.alloc (.cells (Tryz.zeroCells249.setIfInBounds 256 v) 249)) := by
 subst hg
 have h := run_storeCells_new (P := Tryz.prog) w 249 Tryz.zeroCells249 (Tryz.zeroCells249.setIfInBounds 256 v) (by rw [Array.size_setIfInBounds]; kernel_rfl) (by simp) (one257 v hv)
 rw [Array.toList_setIfInBounds] at h
 exact h
structure RepTab (w : World) (lo B g : Nat) : Prop where
 ge : lo ≤ g
 lt : g < B
 le : B ≤ w.heap.size
 no : ∀ i, i < 256 → i ≠ 34 → i ≠ 92 → w.cell? ⟨g, i, none⟩ = some (.slice none 0 0)
 q : ∃ a c, w.cell? ⟨g, 34, none⟩ = some (.slice (some ⟨a, 0, none⟩) 2 c) ∧ (lo ≤ a ∧ a < B) ∧ w.cell? ⟨a, 0, none⟩ = some (.int .u8 92) ∧ w.cell? ⟨a, 1, none⟩ = some (.int .u8 34)
 s : ∃ a c, w.cell? ⟨g, 92, none⟩ = some (.slice (some ⟨a, 0, none⟩) 2 c) ∧ (lo ≤ a ∧ a < B) ∧ w.cell? ⟨a, 0, none⟩ = some (.int .u8 92) ∧ w.cell? ⟨a, 1, none⟩ = some (.int .u8 92)
 t : ∃ a, w.cell? ⟨g, 256, none⟩ = some (.slice (some ⟨a, 0, none⟩) 2 2) ∧ (lo ≤ a ∧ a < B) ∧ w.cell? ⟨a, 0, none⟩ = some (.string ⟨#[34]⟩) ∧ w.cell? ⟨a, 1, none⟩ = some (.string ⟨#[92]⟩)
theorem RepTab.keep {w w' : World} {lo B g : Nat} (h : RepTab w lo B g) (hs : w.heap.size ≤ w'.heap.size) (e : ∀ g i, lo ≤ g → g < B → w'.cell? ⟨g, i, none⟩ = w.cell? ⟨g, i, none⟩) : RepTab w' lo B g := by
 obtain ⟨h0, h1, h2, h3, ⟨a, c, q1, q2, q5, q6⟩, ⟨a', c', s1, s2, s5, s6⟩, ⟨a'', t1, t2, t3, t4⟩⟩ := h
 exact ⟨h0, h1, Nat.le_trans h2 hs, fun i hi n1 n2 => (e _ _ h0 h1).trans (h3 i hi n1 n2), ⟨a, c, (e _ _ h0 h1).trans q1, q2, (e _ _ q2.1 q2.2).trans q5, (e _ _ q2.1 q2.2).trans q6⟩,
   ⟨a', c', (e _ _ h0 h1).trans s1, s2, (e _ _ s2.1 s2.2).trans s5, (e _ _ s2.1 s2.2).trans s6⟩, ⟨a'', (e _ _ h0 h1).trans t1, t2, (e _ _ t2.1 t2.2).trans t3, (e _ _ t2.1 t2.2).trans t4⟩⟩
theorem RepTab.below {w w' : World} {lo B g : Nat} (h : RepTab w lo B g) (hb : Below B w w') : RepTab w' lo B g := h.keep hb.size fun g i _ hg => hb.cell (p := ⟨g, i, none⟩) hg
theorem Blk.grown {w w' : World} {g : Nat} {t : TypeId} {cs : Array Value} {row : Option Nat} (h : Blk w g t cs) (hg : w.grownBy w' row) (hn : some g ≠ row) : Blk w' g t cs := (hg.block g h.lt hn).trans h
theorem own_far {w : World} {base : Nat} {e : TypeId} {size : Nat} {v : Value} {n : Nat} {xs : List Value} (h : w.ownsRow base e size v n xs) {p : Addr} (hp : v.ownBlock ≠ some p.block) (u : Value) : (w.setCell p u).ownsRow base e size v n xs :=
 h.kept (row := some p.block) ⟨rfl, rfl, rfl, by simp [World.setCell], fun k _ hk => Below.heap_setCell _ _ _ _ (fun e => hk (by rw [e]))⟩ (.inr hp)
theorem zero150l : Tryz.zeroCells249 = (List.replicate 257 (.slice none 0 0)).toArray := by kernel_rfl
theorem zero150 (i : Nat) (hi : i < 256) : Tryz.zeroCells249[i]? = some (.slice none 0 0) := by
 rw [zero150l, List.getElem?_toArray, List.getElem?_replicate, if_pos (by omega)]
theorem bytes_one (W : World) (g : Nat) (hg : g = W.heap.size) (v : UInt8) :
   (convert 135 9 (.slice (some ⟨g, 0, none⟩) 1 1)).run Tryz.prog (W.alloc (.cells #[.int .u8 v.toNat] 5)) = .ok (.string ⟨#[v]⟩) (W.alloc (.cells #[.int .u8 v.toNat] 5)) := by
 subst hg
 exact run_convert_bytes_back (P := Tryz.prog) _ 135 9 5 ⟨W.heap.size, 0, none⟩ 1 [v] Tryz.underlying135 Tryz.underlying5 Tryz.underlying9 (fun j hj => by
   obtain rfl : j = 0 := by simp at hj; omega
   rw [add_none, Nat.zero_add, World.cell?_alloc_new]; rfl)
set_option maxRecDepth 100000 in
set_option maxHeartbeats 1600000 in
theorem rep_build (r : Nat) (w : World) (A : Option Addr) (c : Nat) (x0 x1 x2 x3 : Value) (hr : Blk w r 206 #[x0, x1, x2, x3, .slice A 4 c]) (hs : StrSl w w.heap.size A quoL) :
   Calls Tryz.prog 169 #[.pointer (some ⟨r, 0, none⟩)] w fun e w' => ∃ g, e = .returned (.iface 250 (.pointer (some ⟨g, 0, none⟩))) ∧ RepTab w' w.heap.size w'.heap.size g ∧ Below w.heap.size w w' := by
 obtain ⟨i0, hi, hz0, hz1, hz2⟩ := info_parts string_infoQ
 obtain ⟨b, o, rfl, hb, hc⟩ := hs (by decide)
 have c4 : w.cell? ⟨r, 4, none⟩ = some (.slice (some ⟨b, o, none⟩) 4 c) := (hr.cell 4).trans rfl
 have d0 : w.cell? ⟨b, o, none⟩ = some (.string ⟨#[92]⟩) := hc 0 _ rfl
 have d1 : w.cell? ⟨b, o + 1, none⟩ = some (.string ⟨#[92, 92]⟩) := hc 1 _ rfl
 have d2 : w.cell? ⟨b, o + 2, none⟩ = some (.string ⟨#[34]⟩) := hc 2 _ rfl
 have d3 : w.cell? ⟨b, o + 3, none⟩ = some (.string ⟨#[92, 34]⟩) := hc 3 _ rfl
 have hmk : ∀ w, (Instr.makeSlice 44 (.int .i64 0) (.int .i64 2)).run Tryz.prog w = .ok (.slice (some ⟨w.heap.size, 0, none⟩) 0 2) (w.alloc (.cells #[.string ⟨#[]⟩, .string ⟨#[]⟩] 9)) := fun _ => by kernel_rfl
 obtain ⟨Z, hZ, hst⟩ : ∃ Z : Array Value, Z = Tryz.zeroCells249.setIfInBounds 256 (.slice (some ⟨w.heap.size, 0, none⟩) 0 2) ∧
     Sem.run Tryz.prog (storeCells ⟨w.heap.size + 1, 0, none⟩ (Tryz.zeroCells249.toList.set 256 (.slice (some ⟨w.heap.size, 0, none⟩) 0 2))) ((w.alloc (.cells #[.string ⟨#[]⟩, .string ⟨#[]⟩] 9)).alloc (.cells Tryz.zeroCells249 249)) = .ok () ((w.alloc (.cells #[.string ⟨#[]⟩, .string ⟨#[]⟩] 9)).alloc (.cells Z 249)) :=
   ⟨_, rfl, store257 _ _ rfl _ (by simp)⟩
 have zno : ∀ i, i < 256 → Z[i]? = some (.slice none 0 0) := fun i hi => by rw [hZ, Array.getElem?_setIfInBounds_ne (by omega)]; exact zero150 i hi
 have ZNO := Lib.hid zno
 clear zno
 have z92 : Z[92]? = some (.slice none 0 0) := by rw [hZ]; kernel_rfl
 have z34 : Z[34]? = some (.slice none 0 0) := by rw [hZ]; kernel_rfl
 have z256 : Z[256]? = some (.slice (some ⟨w.heap.size, 0, none⟩) 0 2) := by rw [hZ]; kernel_rfl
 have i34 : (({ data := #[34] } : ByteArray)[0]'(by decide)).toNat = 34 := rfl
 have i92 : (({ data := #[92] } : ByteArray)[0]'(by decide)).toNat = 92 := rfl
 clear hZ
 go_enter Tryz.func169, Tryz.ntmps169
 go_wp2_with fail
 refine wp_loop_rounds 3 ?_
 rw [rounds_succ]
 go_wp2_with fail
 rw [rounds_succ]
 go_wp2_with fail
 rw [rounds_succ]
 go_wp2_with fail
 clear hst hmk
 have hown0 : ((w.alloc (.cells #[.string ⟨#[]⟩, .string ⟨#[]⟩] 9)).alloc (.cells Z 249)).ownsRow w.heap.size 9 1 (.slice (some ⟨w.heap.size, 0, none⟩) 0 2) 0 [] :=
   (World.ownsRow_made w #[.string ⟨#[]⟩, .string ⟨#[]⟩] 2 (Nat.le_refl _) (by unfold maxLen; omega) rfl).alloc _
 have hblk0 : Blk ((w.alloc (.cells #[.string ⟨#[]⟩, .string ⟨#[]⟩] 9)).alloc (.cells Z 249)) (w.heap.size + 1) 249 Z := by
   have := Blk.new (w.alloc (.cells #[.string ⟨#[]⟩, .string ⟨#[]⟩] 9)) 249 Z
   simpa using this
 have hbel0 : Below w.heap.size w ((w.alloc (.cells #[.string ⟨#[]⟩, .string ⟨#[]⟩] 9)).alloc (.cells Z 249)) := by (repeat (first | assumption | exact Below.refl _ _ | apply Below.drew | apply below_drewN | (refine Below.alloc ?_ (by first | exact Nat.le_refl _ | omega | (simp; done) | (simp; omega)) _)))
 have hsz0 : ((w.alloc (.cells #[.string ⟨#[]⟩, .string ⟨#[]⟩] 9)).alloc (.cells Z 249)).heap.size = w.heap.size + 2 := by simp
 generalize hW : ((w.alloc (.cells #[.string ⟨#[]⟩, .string ⟨#[]⟩] 9)).alloc (.cells Z 249)) = W at hown0 hblk0 hbel0 hsz0 ⊢
 clear hW
 have e0 := hbel0.cell (p := ⟨b, o, none⟩) hb
 have e1 := hbel0.cell (p := ⟨b, o + 1, none⟩) hb
 have e2 := hbel0.cell (p := ⟨b, o + 2, none⟩) hb
 have e3 := hbel0.cell (p := ⟨b, o + 3, none⟩) hb
 rw [d0] at e0
 rw [d1] at e1
 rw [d2] at e2
 rw [d3] at e3
 have HZ := Lib.hid hsz0
 clear hsz0
 have q34 : W.cell? ⟨w.heap.size + 1, 34, none⟩ = some (.slice none 0 0) := (hblk0.cell 34).trans z34
 have q256 : W.cell? ⟨w.heap.size + 1, 256, none⟩ = some (.slice (some ⟨w.heap.size, 0, none⟩) 0 2) := (hblk0.cell 256).trans z256
 have f0 := hblk0.frozen
 have heq := fun (W : World) (a : Option Addr) (n c : Nat) => Lib.run_eql_slice_nil (P := Tryz.prog) W 135 5 a n c 0 0 Tryz.underlying135
 have hbs34 : ∀ W : World, (convert 135 9 (.slice (some ⟨W.heap.size, 0, none⟩) 1 1)).run Tryz.prog (W.alloc (.cells #[.int .u8 34] 5)) = .ok (.string ⟨#[34]⟩) (W.alloc (.cells #[.int .u8 34] 5)) := fun W => bytes_one W _ rfl 34
 have hbs92 : ∀ W : World, (convert 135 9 (.slice (some ⟨W.heap.size, 0, none⟩) 1 1)).run Tryz.prog (W.alloc (.cells #[.int .u8 92] 5)) = .ok (.string ⟨#[92]⟩) (W.alloc (.cells #[.int .u8 92] 5)) := fun W => bytes_one W _ rfl 92
 refine wp_loop_rounds 3 ?_
 rw [rounds_succ]
 go_wp2_with (at_builtin; refine wpList_append_fits _ rfl (.tmp 119) (.tmp 123) 44 rfl w.heap.size 9 i0 1 Tryz.underlying44 hi hz1 w.heap.size 0 2 [] rfl ((hown0.alloc _).alloc _) ⟨W.heap.size + 1, 0, none⟩ 1 1 [.string ⟨#[34]⟩] rfl rfl (new_one (W.alloc _) _ _ _ (by simp)) (by simp [Value.oneCell']) (by omega) ?_)
 intro w1 hown1 hgrow1
 have hb1 : Blk w1 (w.heap.size + 1) 249 Z := ((hblk0.alloc _).alloc _).grown hgrow1 (by simp)
 have hbel1 : Below w.heap.size w w1 := (((hbel0.alloc (by have := HZ.out; omega) _).alloc (by have := HZ.out; simp; omega) _)).grown hgrow1 (by have := HZ.out; simp; omega) (by rintro k ⟨⟩; omega)
 clear hgrow1 hown0 hblk0 hbel0 q34 q256 f0 e0 e1 e2 e3
 obtain ⟨cp1, w2, hr1, hcl1, hbl1⟩ := bytes_conv (P := Tryz.prog) (w1.setCell ⟨w.heap.size + 1, 256, none⟩ (.slice (some ⟨w.heap.size, 0, none⟩) 1 2)) 9 135 5 ⟨#[92, 34]⟩ Tryz.underlying9 Tryz.underlying135 Tryz.underlying5
 have q256 : w1.cell? ⟨w.heap.size + 1, 256, none⟩ = some (.slice (some ⟨w.heap.size, 0, none⟩) 0 2) := (hb1.cell 256).trans z256
 have f0 := hb1.frozen
 have hb2 : Blk w2 (w.heap.size + 1) 249 (Z.setIfInBounds 256 (.slice (some ⟨w.heap.size, 0, none⟩) 1 2)) := (hb1.set 256 _).below hbl1 (hb1.set 256 _).lt
 have z34' : (Z.setIfInBounds 256 (.slice (some ⟨w.heap.size, 0, none⟩) 1 2))[34]? = some (.slice none 0 0) := by rw [Array.getElem?_setIfInBounds_ne (by omega)]; exact z34
 have z92' : (Z.setIfInBounds 256 (.slice (some ⟨w.heap.size, 0, none⟩) 1 2))[92]? = some (.slice none 0 0) := by rw [Array.getElem?_setIfInBounds_ne (by omega)]; exact z92
 have p34 : w2.cell? ⟨w.heap.size + 1, 34, none⟩ = some (.slice none 0 0) := (hb2.cell 34).trans z34'
 have f2 := hb2.frozen
 have HC1 := Lib.hid hcl1
 have HB1 := Lib.hid hbl1
 clear hcl1 hbl1
 have HO1 := Lib.hid hown1
 clear hown1
 have hr1' : (convert 9 135 (.string ⟨#[92, 34]⟩)).run Tryz.prog (w1.setCell ⟨w.heap.size + 1, 256, none⟩ (.slice (some ⟨w.heap.size, 0, none⟩) 1 2)) = .ok (.slice (some ⟨w1.heap.size, 0, none⟩) 2 cp1) w2 := by
   have := hr1
   simp only [World.size_setCell] at this
   exact this
 clear hr1
 go_wp2_with fail
 have hsz1 : w.heap.size + 1 < w1.heap.size := hb1.lt
 have hb3 : Blk (w2.setCell ⟨w.heap.size + 1, 34, none⟩ (.slice (some ⟨w1.heap.size, 0, none⟩) 2 cp1)) (w.heap.size + 1) 249 ((Z.setIfInBounds 256 (.slice (some ⟨w.heap.size, 0, none⟩) 1 2)).setIfInBounds 34 (.slice (some ⟨w1.heap.size, 0, none⟩) 2 cp1)) := hb2.set 34 _
 have hown3 : (w2.setCell ⟨w.heap.size + 1, 34, none⟩ (.slice (some ⟨w1.heap.size, 0, none⟩) 2 cp1)).ownsRow w.heap.size 9 1 (.slice (some ⟨w.heap.size, 0, none⟩) 1 2) 1 [.string ⟨#[34]⟩] :=
   own_far (p := ⟨w.heap.size + 1, 34, none⟩) (own_keep (own_far (p := ⟨w.heap.size + 1, 256, none⟩) HO1.out (by simp [Value.ownBlock]) _) HB1.out) (by simp [Value.ownBlock]) _
 have hbel3 : Below w.heap.size w (w2.setCell ⟨w.heap.size + 1, 34, none⟩ (.slice (some ⟨w1.heap.size, 0, none⟩) 2 cp1)) :=
   ((hbel1.setCell (p := ⟨w.heap.size + 1, 256, none⟩) (by simp) _).trans (HB1.out.mono (by rw [World.size_setCell]; omega))).setCell (by simp) _
 have hk0 : w2.cell? ⟨w1.heap.size, 0, none⟩ = some (.int .u8 92) := by
   have := HC1.out 0 (by decide)
   rw [World.size_setCell] at this
   exact this
 have hk1 : w2.cell? ⟨w1.heap.size, 1, none⟩ = some (.int .u8 34) := by
   have := HC1.out 1 (by decide)
   rw [World.size_setCell] at this
   exact this
 have hd0 := (World.cell?_setCell_other w2 ⟨w.heap.size + 1, 34, none⟩ ⟨w1.heap.size, 0, none⟩ (.slice (some ⟨w1.heap.size, 0, none⟩) 2 cp1) (by simp)).trans hk0
 have hd1 := (World.cell?_setCell_other w2 ⟨w.heap.size + 1, 34, none⟩ ⟨w1.heap.size, 1, none⟩ (.slice (some ⟨w1.heap.size, 0, none⟩) 2 cp1) (by simp)).trans hk1
 have hs2 : w1.heap.size < (w2.setCell ⟨w.heap.size + 1, 34, none⟩ (.slice (some ⟨w1.heap.size, 0, none⟩) 2 cp1)).heap.size := by
   rw [World.size_setCell]
   exact World.block_lt_of_cell? _ _ hk0
 generalize hW3 : w2.setCell ⟨w.heap.size + 1, 34, none⟩ (.slice (some ⟨w1.heap.size, 0, none⟩) 2 cp1) = W3 at hb3 hown3 hbel3 hd0 hd1 hs2 ⊢
 clear hW3 hk0 hk1 HC1 HB1 HO1 hr1' f2 p34 hb2 f0 q256 hbel1 hb1
 have e0 : W3.cell? ⟨b, o, none⟩ = some (.string ⟨#[92]⟩) := (hbel3.cell (p := ⟨b, o, none⟩) hb).trans d0
 have e1 : W3.cell? ⟨b, o + 1, none⟩ = some (.string ⟨#[92, 92]⟩) := (hbel3.cell (p := ⟨b, o + 1, none⟩) hb).trans d1
 obtain ⟨Z3, hZ3, zz34, zz92, zz256, zzno⟩ : ∃ Z3 : Array Value, Z3 = (Z.setIfInBounds 256 (.slice (some ⟨w.heap.size, 0, none⟩) 1 2)).setIfInBounds 34 (.slice (some ⟨w1.heap.size, 0, none⟩) 2 cp1) ∧
     Z3[34]? = some (.slice (some ⟨w1.heap.size, 0, none⟩) 2 cp1) ∧ Z3[92]? = some (.slice none 0 0) ∧ Z3[256]? = some (.slice (some ⟨w.heap.size, 0, none⟩) 1 2) ∧ (∀ i, i < 256 → i ≠ 34 → Z3[i]? = some (.slice none 0 0)) := by
   have hn : ∀ i, i < 256 → i ≠ 34 → ((Z.setIfInBounds 256 (.slice (some ⟨w.heap.size, 0, none⟩) 1 2)).setIfInBounds 34 (.slice (some ⟨w1.heap.size, 0, none⟩) 2 cp1))[i]? = some (.slice none 0 0) := fun i hi hne => by
     rw [Array.getElem?_setIfInBounds_ne (by omega), Array.getElem?_setIfInBounds_ne (by omega)]
     exact ZNO.out i hi
   refine ⟨_, rfl, ?_, hn 92 (by omega) (by omega), ?_, hn⟩
   · rw [Array.getElem?_setIfInBounds_self]
     have := (Array.getElem?_eq_some_iff.1 z34).1
     simpa using this
   · rw [Array.getElem?_setIfInBounds_ne (by omega), Array.getElem?_setIfInBounds_self]
     have := (Array.getElem?_eq_some_iff.1 z256).1
     simpa using this
 rw [← hZ3] at hb3
 have ZN3 := Lib.hid zzno
 clear hZ3 zzno z34' z92' z34 z92 z256 ZNO
 have q92 : W3.cell? ⟨w.heap.size + 1, 92, none⟩ = some (.slice none 0 0) := (hb3.cell 92).trans zz92
 have q256 : W3.cell? ⟨w.heap.size + 1, 256, none⟩ = some (.slice (some ⟨w.heap.size, 0, none⟩) 1 2) := (hb3.cell 256).trans zz256
 have f3 := hb3.frozen
 have HD0 := Lib.hid hd0
 have HD1 := Lib.hid hd1
 clear hd0 hd1
 rw [rounds_succ]
 go_wp2_with (at_builtin; refine wpList_append_fits _ rfl (.tmp 119) (.tmp 123) 44 rfl w.heap.size 9 i0 1 Tryz.underlying44 hi hz1 w.heap.size 1 2 [.string ⟨#[34]⟩] rfl ((hown3.alloc _).alloc _) ⟨W3.heap.size + 1, 0, none⟩ 1 1 [.string ⟨#[92]⟩] rfl rfl (new_one (W3.alloc _) _ _ _ (by simp)) (by simp [Value.oneCell']) (by omega) ?_)
 intro w4 hown4 hgrow4
 have hlt3 := hb3.lt
 have hb4 : Blk w4 (w.heap.size + 1) 249 Z3 := ((hb3.alloc _).alloc _).grown hgrow4 (by simp)
 have hbel4 : Below w.heap.size w w4 := (((hbel3.alloc (by omega) _).alloc (by simp; omega) _)).grown hgrow4 (by simp; omega) (by rintro k ⟨⟩; omega)
 have hd0 : w4.cell? ⟨w1.heap.size, 0, none⟩ = some (.int .u8 92) := hgrow4.cell ((World.cell?_alloc_lt _ _ _ (by simp; omega)).trans ((World.cell?_alloc_lt _ _ _ (by simp; omega)).trans HD0.out)) (by simp; omega)
 have hd1 : w4.cell? ⟨w1.heap.size, 1, none⟩ = some (.int .u8 34) := hgrow4.cell ((World.cell?_alloc_lt _ _ _ (by simp; omega)).trans ((World.cell?_alloc_lt _ _ _ (by simp; omega)).trans HD1.out)) (by simp; omega)
 clear hgrow4 hown3 hb3 hbel3 q92 q256 f3 e0 e1 HD0 HD1
 obtain ⟨cp2, w5, hr2, hcl2, hbl2⟩ := bytes_conv (P := Tryz.prog) (w4.setCell ⟨w.heap.size + 1, 256, none⟩ (.slice (some ⟨w.heap.size, 0, none⟩) 2 2)) 9 135 5 ⟨#[92, 92]⟩ Tryz.underlying9 Tryz.underlying135 Tryz.underlying5
 have hr2' : (convert 9 135 (.string ⟨#[92, 92]⟩)).run Tryz.prog (w4.setCell ⟨w.heap.size + 1, 256, none⟩ (.slice (some ⟨w.heap.size, 0, none⟩) 2 2)) = .ok (.slice (some ⟨w4.heap.size, 0, none⟩) 2 cp2) w5 := by
   have := hr2
   simp only [World.size_setCell] at this
   exact this
 clear hr2
 have q256 : w4.cell? ⟨w.heap.size + 1, 256, none⟩ = some (.slice (some ⟨w.heap.size, 0, none⟩) 1 2) := (hb4.cell 256).trans zz256
 have f4 := hb4.frozen
 have hb5 : Blk w5 (w.heap.size + 1) 249 (Z3.setIfInBounds 256 (.slice (some ⟨w.heap.size, 0, none⟩) 2 2)) := (hb4.set 256 _).below hbl2 (hb4.set 256 _).lt
 have p92 : w5.cell? ⟨w.heap.size + 1, 92, none⟩ = some (.slice none 0 0) := (hb5.cell 92).trans (by rw [Array.getElem?_setIfInBounds_ne (by omega)]; exact zz92)
 have f5 := hb5.frozen
 have hlt4 := hb4.lt
 have hbel5 : Below w.heap.size w w5 := (hbel4.setCell (p := ⟨w.heap.size + 1, 256, none⟩) (by simp) _).trans (hbl2.mono (by rw [World.size_setCell]; omega))
 have hk0 : w5.cell? ⟨w4.heap.size, 0, none⟩ = some (.int .u8 92) := by
   have := hcl2 0 (by decide)
   rw [World.size_setCell] at this
   exact this
 have hk1 : w5.cell? ⟨w4.heap.size, 1, none⟩ = some (.int .u8 92) := by
   have := hcl2 1 (by decide)
   rw [World.size_setCell] at this
   exact this
 have hl4 : w1.heap.size < w4.heap.size := World.block_lt_of_cell? _ _ hd0
 have hf : ∀ g i, g < w4.heap.size → g ≠ w.heap.size + 1 → w5.cell? ⟨g, i, none⟩ = w4.cell? ⟨g, i, none⟩ := fun g i hg hne =>
   (hbl2.cell (p := ⟨g, i, none⟩) (by rw [World.size_setCell]; exact hg)).trans (World.cell?_setCell_other w4 ⟨w.heap.size + 1, 256, none⟩ ⟨g, i, none⟩ _ (by simp))
 have hr4 := hown4.cells (g := w.heap.size) rfl
 have hg0 : w4.cell? ⟨w.heap.size, 0, none⟩ = some (.string ⟨#[34]⟩) := by have := hr4 0 _ rfl; rwa [add_none] at this
 have hg1 : w4.cell? ⟨w.heap.size, 1, none⟩ = some (.string ⟨#[92]⟩) := by have := hr4 1 _ rfl; rwa [add_none] at this
 have hs5 : w4.heap.size < w5.heap.size := World.block_lt_of_cell? _ _ hk0
 have fin : RepTab (w5.setCell ⟨w.heap.size + 1, 92, none⟩ (.slice (some ⟨w4.heap.size, 0, none⟩) 2 cp2)) w.heap.size w5.heap.size (w.heap.size + 1) := by
   have hb6 := hb5.set 92 (.slice (some ⟨w4.heap.size, 0, none⟩) 2 cp2)
   have hs : ∀ g i, g ≠ w.heap.size + 1 → (w5.setCell ⟨w.heap.size + 1, 92, none⟩ (.slice (some ⟨w4.heap.size, 0, none⟩) 2 cp2)).cell? ⟨g, i, none⟩ = w5.cell? ⟨g, i, none⟩ := fun g i hne => World.cell?_setCell_other w5 _ _ _ (by simp)
   have n92 := (Array.getElem?_eq_some_iff.1 zz92).1
   have n256 := (Array.getElem?_eq_some_iff.1 zz256).1
   refine ⟨by omega, by omega, by rw [World.size_setCell]; exact Nat.le_refl _, fun i hi n1 n2 => ?_, ⟨w1.heap.size, cp1, ?_, by omega, ?_, ?_⟩, ⟨w4.heap.size, cp2, ?_, by omega, ?_, ?_⟩, ⟨w.heap.size, ?_, by omega, ?_, ?_⟩⟩
   · rw [hb6.cell, Array.getElem?_setIfInBounds_ne (by omega), Array.getElem?_setIfInBounds_ne (by omega)]; exact ZN3.out i hi n1
   · rw [hb6.cell, Array.getElem?_setIfInBounds_ne (by omega), Array.getElem?_setIfInBounds_ne (by omega)]; exact zz34
   · rw [hs _ _ (by omega), hf _ _ (by omega) (by omega)]; exact hd0
   · rw [hs _ _ (by omega), hf _ _ (by omega) (by omega)]; exact hd1
   · rw [hb6.cell, Array.getElem?_setIfInBounds_self]; simp [n92]
   · rw [hs _ _ (by omega)]; exact hk0
   · rw [hs _ _ (by omega)]; exact hk1
   · rw [hb6.cell, Array.getElem?_setIfInBounds_ne (by omega), Array.getElem?_setIfInBounds_self]; simp [n256]
   · rw [hs _ _ (by omega), hf _ _ (by omega) (by omega)]; exact hg0
   · rw [hs _ _ (by omega), hf _ _ (by omega) (by omega)]; exact hg1
 have FIN := Lib.hid fin
 have HB5 := Lib.hid hbel5
 clear fin hf hr4 hg0 hg1 hd0 hd1 hk0 hk1 hcl2 hbl2 hown4 hbel4 hbel5 hs hc hr
 go_wp2_with fail
 rw [rounds_succ]
 go_wp2_with fail
 go_ret
 refine ⟨_, rfl, ?_, HB5.out.setCell (by simp) _⟩
 have := FIN.out
 rw [World.size_setCell]
 exact this
end Go.Proofs.YtbggbcnfkcadjaaGreatDoor
namespace Go.Proofs.YtbggbcnfkcadjaaGreatDoor
open Go.RowKit Go.Sort
def RepDone (w : World) (lo r : Nat) (x0 x1 x2 : Value) : Prop :=
 ∃ g, Blk w r 206 #[x0, x1, x2, .iface 250 (.pointer (some ⟨g, 0, none⟩)), .slice none 0 0] ∧ RepTab w lo w.heap.size g
set_option maxRecDepth 100000 in
set_option maxHeartbeats 1600000 in
theorem rep_buildOnce (r : Nat) (w : World) (A : Option Addr) (c : Nat) (x0 x1 x2 x3 : Value) (hr : Blk w r 206 #[x0, x1, x2, x3, .slice A 4 c]) (hs : StrSl w w.heap.size A quoL) :
   Calls Tryz.prog 150 #[.pointer (some ⟨r, 0, none⟩)] w fun e w' => e = .returned (.tuple #[]) ∧ RepDone w' w.heap.size r x0 x1 x2 ∧ Only w.heap.size r w w' := by
 go_enter Tryz.func150, Tryz.ntmps150
 go_wp2_with fail
 refine (rep_build r w A c x0 x1 x2 x3 hr hs).mono ?_
 rintro e w1 ⟨g, rfl, htab, hb1⟩
 have hr1 := hr.below hb1 hr.lt
 have c3 := hr1.cell 3
 have c4 := hr1.cell 4
 have f1 := hr1.frozen
 go_wp2_with fail
 go_end0
 have hlt := hr.lt
 have hr2 := (hr1.set 3 (.iface 250 (.pointer (some ⟨g, 0, none⟩)))).set 4 (.slice none 0 0)
 refine ⟨rfl, ⟨g, ?_, ?_⟩, ?_⟩
 · exact hr2
 · rw [World.size_setCell, World.size_setCell]
   exact htab.keep (by rw [World.size_setCell, World.size_setCell]; exact Nat.le_refl _) fun g i hg _ => (World.cell?_setCell_other _ ⟨r, 4, none⟩ ⟨g, i, none⟩ _ (by simp)).trans (World.cell?_setCell_other _ ⟨r, 3, none⟩ ⟨g, i, none⟩ _ (by simp))
 · exact ((Only.of_below hb1 (Nat.le_refl _)).setCell (p := ⟨r, 3, none⟩) (.inl rfl) _).setCell (p := ⟨r, 4, none⟩) (.inl rfl) _
end Go.Proofs.YtbggbcnfkcadjaaGreatDoor
namespace Go.Proofs.YtbggbcnfkcadjaaGreatDoor
open Go.RowKit Go.Sort
theorem slice_from (W : World) (G N j : Nat) (hj : j < N) : (Instr.slice 135 (.slice (some ⟨G, 0, none⟩) N N) (some (.int .i64 (j : Int))) none none).run Tryz.prog W = .ok (.slice (some ⟨G, j, none⟩) (N - j) (N - j)) W := by
 have hel : Tryz.prog.elem 135 = 5 := by kernel_rfl
 have hsz : (Go.sizeOf 5).run Tryz.prog W = .ok 1 W := by kernel_rfl
 rw [run_slice_l (P := Tryz.prog) (w := W) 135 (some ⟨G, 0, none⟩) N N (by rw [hel]; exact Tryz.underlying135) .i64 (j : Int) (by omega) (by omega), hel, hsz]
 simp only [Result.andThen, sliced, Int.toNat_natCast]
 rw [if_neg (by omega)]
 simp [Addr.add]
 omega
theorem two_cells {w : World} {a : Nat} {x y : UInt8} (h0 : w.cell? ⟨a, 0, none⟩ = some (.int .u8 (x.toNat : Int))) (h1 : w.cell? ⟨a, 1, none⟩ = some (.int .u8 (y.toNat : Int))) :
   ∀ j v, (byC [x, y])[j]? = some v → w.cell? ((⟨a, 0, none⟩ : Addr).add j) = some v := by
 intro j v hv
 rw [add_none, Nat.zero_add]
 match j, hv with
 | 0, hv => exact h0.trans hv
 | 1, hv => exact h1.trans hv
theorem two_min {N j : Nat} {x y : UInt8} (h : j + 2 ≤ N) : (byC [x, y]).length = Nat.min 2 (N - j) := by
 rw [byC_len]; show 2 = min 2 (N - j); omega
theorem byC_one (l : List UInt8) : ∀ v ∈ byC l, v.oneCell' = true := by
 intro v hv
 obtain ⟨b, _, rfl⟩ := List.mem_map.1 hv
 rfl
theorem splice_take {cur cs : List Value} {j : Nat} (h : j + cs.length ≤ cur.length) : (splice cur j cs).take (j + cs.length) = cur.take j ++ cs := by
 unfold splice
 rw [← List.append_assoc, List.take_append_of_le_length (by simp; omega), List.take_of_length_le (by simp; omega)]
theorem set_take {cur : List Value} {j : Nat} {v : Value} (h : j < cur.length) : (cur.set j v).take (j + 1) = cur.take j ++ [v] := by
 rw [List.take_add_one, List.take_set_of_le (Nat.le_refl _), List.getElem?_set_self h]; rfl
theorem wrap2 (j : Nat) (a b : UInt8) (h : (j : Int) ≤ 5000) : IntKind.i64.wrap ((j : Int) + ((byC [a, b]).length : Nat)) = ((j + 2 : Nat) : Int) := by
 rw [show (byC [a, b]).length = 2 from rfl, IntWalk.i64_in _ (by omega)]; omega
theorem Tryz.info5q : (Tryz.prog.info? 5).map (fun i => (i.zero, i.size, i.bytes)) = some (some (.int .u8 0), 1, 1) := by kernel_rfl
set_option maxRecDepth 100000 in
set_option maxHeartbeats 1600000 in
theorem bsr_Replace (g lo : Nat) (s : ByteArray) (w : World) (ht : RepTab w lo w.heap.size g) (hs : s.size ≤ 1000) :
   Calls Tryz.prog 294 #[.pointer (some ⟨g, 0, none⟩), .string s] w fun e w' => e = .returned (.string ⟨(escP s.toList).toArray⟩) ∧ Below w.heap.size w w' := by
 obtain ⟨hge, hgl, _, hno, ⟨qa, qc, q0, ⟨_, q1⟩, q2, q3⟩, ⟨sa, sc, s0, ⟨_, s1⟩, s2, s3⟩, ⟨ta, t0, ⟨_, t1⟩, t2, t3⟩⟩ := ht
 have HNO := Lib.hid hno
 clear hno
 have hcl : ((escN s.toList : Nat) : Int) ≤ 1000 := by have := escN_le s.toList; rw [toList_len] at this; omega
 have hneq := fun (W : World) (a : Option Addr) (n c : Nat) => run_neq_slice_nil_any (P := Tryz.prog) W 135 5 a n c 0 0 Tryz.underlying135
 go_enter Tryz.func294, Tryz.ntmps294
 go_upto_if 26 with fail
 go_cut [5, 6] (fun s5 s6 wx => s5 = .int .i64 ((s.size : Int) + escN s.toList) ∧ s6 = .bool (escN s.toList != 0) ∧ ∃ n, wx = w.drewN n)
 case first =>
   obtain ⟨c1, hc1⟩ : ∃ c1, Lib.countByte s.data.toList 34 = c1 := ⟨_, rfl⟩
   obtain ⟨c2, hc2⟩ : ∃ c2, Lib.countByte s.data.toList 92 = c2 := ⟨_, rfl⟩
   have hsum : c1 + c2 = escN s.toList := by rw [← hc1, ← hc2, ByteArray.toList_eq]; exact escN_count _
   have HS := Lib.hid hsum
   have hb12 : ((c1 : Nat) : Int) + c2 ≤ 1000 := by omega
   have hC1 : ∀ W, Calls Tryz.prog 296 #[.string s, .string ⟨#[34]⟩] W fun e w' => e = .returned (.int .i64 (c1 : Int)) ∧ W = w' := fun W => by rw [← hc1]; exact (Tryz.strings_Count_one s 34 W).mono fun _ _ h => ⟨h.1, h.2.symm⟩
   have hC2 : ∀ W, Calls Tryz.prog 296 #[.string s, .string ⟨#[92]⟩] W fun e w' => e = .returned (.int .i64 (c2 : Int)) ∧ W = w' := fun W => by rw [← hc2]; exact (Tryz.strings_Count_one s 92 W).mono fun _ _ h => ⟨h.1, h.2.symm⟩
   have HC1 := Lib.hid hC1
   have HC2 := Lib.hid hC2
   clear hc1 hc2 hsum hC1 hC2
   have i34 : (({ data := #[34] } : ByteArray)[0]'(by decide)).toNat = 34 := rfl
   have i92 : (({ data := #[92] } : ByteArray)[0]'(by decide)).toNat = 92 := rfl
   by_cases h16 : 16 ≤ s.size
   · by_cases z1 : c1 = 0
     · have b1 : (((c1 : Nat) : Int) != 0) = false := by simp [z1]
       have Z1 := Lib.hid z1
       clear z1
       by_cases z2 : c2 = 0
       · have b2 : (((c2 : Nat) : Int) != 0) = false := by simp [z2]
         have Z2 := Lib.hid z2
         clear z2
         go_wp2_with fail
         refine wp_loop_rounds 3 ?_
         rw [rounds_succ]
         go_wp2_with fail
         refine (HC1.out _).mono ?_
         rintro e w' ⟨rfl, rfl⟩
         go_wp2_with fail
         rw [rounds_succ]
         go_wp2_with fail
         refine (HC2.out _).mono ?_
         rintro e w' ⟨rfl, rfl⟩
         go_wp2_with fail
         rw [rounds_succ]
         go_wp2_with fail
         go_meet
         have h1 := Z1.out
         have h2 := Z2.out
         have h3 := HS.out
         exact ⟨by rw [← h3]; first | (rw [h1]; simp; done) | go_num | (simp [h1, h2]; try omega), by rw [← h3]; simp [h1, h2], by first | exact ⟨_, rfl⟩ | exact ⟨0, rfl⟩⟩
       · have b2 : (((c2 : Nat) : Int) != 0) = true := by rw [bne_iff_ne]; omega
         have Z2 := Lib.hid z2
         clear z2
         go_wp2_with fail
         refine wp_loop_rounds 3 ?_
         rw [rounds_succ]
         go_wp2_with fail
         refine (HC1.out _).mono ?_
         rintro e w' ⟨rfl, rfl⟩
         go_wp2_with fail
         rw [rounds_succ]
         go_wp2_with fail
         refine (HC2.out _).mono ?_
         rintro e w' ⟨rfl, rfl⟩
         go_wp2_with fail
         go_quiet (fail)
         go_wp2_with fail
         rw [rounds_succ]
         go_wp2_with fail
         go_meet
         have h1 := Z1.out
         have h2 := Z2.out
         have h3 := HS.out
         exact ⟨by rw [← h3]; first | (rw [h1]; simp; done) | go_num | (simp [h1]; try omega), by rw [← h3]; simp [h1, h2], by first | exact ⟨_, rfl⟩ | exact ⟨0, rfl⟩⟩
     · have b1 : (((c1 : Nat) : Int) != 0) = true := by rw [bne_iff_ne]; omega
       have Z1 := Lib.hid z1
       clear z1
       by_cases z2 : c2 = 0
       · have b2 : (((c2 : Nat) : Int) != 0) = false := by simp [z2]
         have Z2 := Lib.hid z2
         clear z2
         go_wp2_with fail
         refine wp_loop_rounds 3 ?_
         rw [rounds_succ]
         go_wp2_with fail
         refine (HC1.out _).mono ?_
         rintro e w' ⟨rfl, rfl⟩
         go_wp2_with fail
         go_quiet (fail)
         go_wp2_with fail
         rw [rounds_succ]
         go_wp2_with fail
         refine (HC2.out _).mono ?_
         rintro e w' ⟨rfl, rfl⟩
         go_wp2_with fail
         rw [rounds_succ]
         go_wp2_with fail
         go_meet
         have h1 := Z1.out
         have h2 := Z2.out
         have h3 := HS.out
         exact ⟨by rw [← h3]; first | (rw [h1]; simp; done) | go_num | (simp [h1, h2]; try omega), by rw [← h3]; simp [h1, h2], by first | exact ⟨_, rfl⟩ | exact ⟨0, rfl⟩⟩
       · have b2 : (((c2 : Nat) : Int) != 0) = true := by rw [bne_iff_ne]; omega
         have Z2 := Lib.hid z2
         clear z2
         go_wp2_with fail
         refine wp_loop_rounds 3 ?_
         rw [rounds_succ]
         go_wp2_with fail
         refine (HC1.out _).mono ?_
         rintro e w' ⟨rfl, rfl⟩
         go_wp2_with fail
         go_quiet (fail)
         go_wp2_with fail
         rw [rounds_succ]
         go_wp2_with fail
         refine (HC2.out _).mono ?_
         rintro e w' ⟨rfl, rfl⟩
         go_wp2_with fail
         go_quiet (fail)
         go_wp2_with fail
         rw [rounds_succ]
         go_wp2_with fail
         go_meet
         have h1 := Z1.out
         have h2 := Z2.out
         have h3 := HS.out
         exact ⟨by rw [← h3]; first | (rw [h1]; simp; done) | go_num | (simp [h1, h2]; try omega), by rw [← h3]; simp [h1, h2], by first | exact ⟨_, rfl⟩ | exact ⟨0, rfl⟩⟩
   · have HQ := Lib.hid h16
     clear h16
     have h16 : s.size < 16 := by have := HQ.out; omega
     clear HC1 HC2 HS hb12 i34 i92
     go_wp2_with fail
     go_loop [5, 6, 10] (fun n5 n6 i => ∃ k : Nat, k ≤ s.size ∧ i = .int .i64 k ∧ n5 = .int .i64 ((s.size : Int) + escN (s.toList.take k)) ∧ n6 = .bool (escN (s.toList.take k) != 0)) (fun _ _ i => s.size - (intOf i).toNat)
     case atStart => exact ⟨0, by omega, rfl, by simp [escN], by simp [escN]⟩
     case round =>
       obtain ⟨k, hk, rfl, rfl, rfl⟩ := hrel
       by_cases hlt : k < s.size
       · have hg := toList_get s k hlt
         have hq : ((escN (s.toList.take k) : Nat) : Int) ≤ 1000 := by have := escN_le (s.toList.take k); simp [toList_len] at this; omega
         have HT : Hid (s.toList.take (k + 1) = s.toList.take k ++ [s[k]]) := by rw [List.take_add_one, hg]; rfl
         clear hg
         by_cases h34 : s[k].toNat = 34
         · have HY : Hid (escB s[k] = true) := (escB_yes _).2 (.inl h34)
           go_wp2_with fail
           go_round
           case rel => exact ⟨k + 1, by omega, by go_num, by rw [HT.out, escN_snoc, HY.out]; simp; go_num, by rw [HT.out, escN_snoc, HY.out]; simp⟩
           case measure => simp [intOf]; omega
         · by_cases h92 : s[k].toNat = 92
           · have HY : Hid (escB s[k] = true) := (escB_yes _).2 (.inr h92)
             go_wp2_with fail
             go_round
             case rel => exact ⟨k + 1, by omega, by go_num, by rw [HT.out, escN_snoc, HY.out]; simp; go_num, by rw [HT.out, escN_snoc, HY.out]; simp⟩
             case measure => simp [intOf]; omega
           · have HY : Hid (escB s[k] = false) := by
               show _ = _
               cases hq : escB s[k] with
               | false => rfl
               | true => rcases (escB_yes _).1 hq with h | h <;> contradiction
             have hcell := HNO.out s[k].toNat (UInt8.toNat_lt _) h34 h92
             have hb256 : s[k].toNat < 256 := UInt8.toNat_lt _
             go_wp2_with fail
             go_round
             case rel => exact ⟨k + 1, by omega, by go_num, by rw [HT.out, escN_snoc, HY.out]; simp, by rw [HT.out, escN_snoc, HY.out]; simp⟩
             case measure => simp [intOf]; omega
       · have hks : k = s.size := by omega
         subst hks
         have HA : Hid (s.toList.take s.size = s.toList) := List.take_of_length_le (by rw [toList_len]; omega)
         go_wp2_with fail
         go_meet
         exact ⟨by rw [HA.out], by rw [HA.out], ⟨0, rfl⟩⟩
 case rest =>
   obtain ⟨rfl, rfl, n, rfl⟩ := hcut
   have hlen : s.toList.length = s.size := toList_len s
   by_cases hz : escN s.toList = 0
   · have hb0 : (escN s.toList != 0) = false := by simp [hz]
     have HZ := Lib.hid hz
     have HL := Lib.hid hlen
     clear hz hlen
     go_wp2_with fail
     go_ret
     exact ⟨ret_val (by rw [escN_zero _ HZ.out]; exact (encStr_of s).symm), below_drewN (Below.refl _ _) _⟩
   · have hb0 : (escN s.toList != 0) = true := by simp [hz]
     have hN := escP_len s.toList
     obtain ⟨i0, hi, hz0, hz1, hz2⟩ := info_parts (Tryz.info5q)
     have HZ := Lib.hid hz
     have HL := Lib.hid hlen
     have HN := Lib.hid hN
     clear hz hlen hN
     go_wp2_with (at_make; refine wpList_make_full _ rfl (.tmp 84) (.tmp 84) 135 rfl w.heap.size 5 i0 (.int .u8 0) 1 Tryz.underlying135 hi hz0 hz1 .i64 .i64 _ _ (s.size + escN s.toList) rfl rfl (by go_num) (by go_num) (by rw [hz2]; omega) (by unfold maxLen; omega) (by simp) ?_)
     intro w1 hown1 hgrow1
     have hbel1 : Below w.heap.size w w1 := (below_drewN (Below.refl _ _) n).grown hgrow1 (by simp) (by rintro k ⟨⟩)
     obtain ⟨cur0, hcur0, hlen0⟩ : ∃ cur0 : List Value, w1.heap[w.heap.size]? = some (.cells cur0.toArray 5 (0, 0)) ∧ cur0.length = s.size + escN s.toList := by
       rcases hown1.2 with ⟨hv, _⟩ | ⟨g', cap, cur, hv, _, hg, _, _, hsz, _⟩
       · simp at hv
       · injection hv with e1 e2 e3
         injection e1 with e1
         injection e1 with e1
         refine ⟨cur.toList, ?_, ?_⟩
         · rw [Array.toArray_toList]; rw [show w.heap.size = g' from e1]; exact hg
         · rw [Array.length_toList, hsz]; omega
     clear hown1 hgrow1
     have HC0 := Lib.hid hcur0
     have HE0 := Lib.hid hlen0
     clear hcur0 hlen0
     go_wp2_with fail
     go_loopw [13, 14] (fun j i wr => ∃ (k : Nat) (cur : List Value), k ≤ s.size ∧ i = .int .i64 k ∧ j = .int .i64 ((escP (s.toList.take k)).length : Nat) ∧ Hid (cur.length = s.size + escN s.toList) ∧ Hid (wr.heap[w.heap.size]? = some (.cells cur.toArray 5 (0, 0))) ∧
         Hid (cur.take (escP (s.toList.take k)).length = byC (escP (s.toList.take k))) ∧ Below w.heap.size w wr) (fun _ i _ => s.size - (intOf i).toNat)
     case atStart => exact ⟨0, cur0, by omega, rfl, by simp [escP], HE0, HC0, by simp [escP, byC, Hid], hbel1⟩
     case round =>
       obtain ⟨k, cur, hk, rfl, rfl, HE, HC, HT, hb⟩ := hrel
       by_cases hlt : k < s.size
       · have hg := toList_get s k hlt
         have hle := escP_take s.toList (k + 1)
         have HK : Hid (escP (s.toList.take (k + 1)) = escP (s.toList.take k) ++ esc1 s[k]) := by rw [List.take_add_one, hg]; exact escP_snoc _ _
         rw [HK.out, List.length_append, toList_len] at hle
         have HLE := Lib.hid hle
         clear hg hle
         generalize hjn : (escP (s.toList.take k)).length = jn at HT HLE ⊢
         have HJ := Lib.hid hjn
         clear hjn
         have fz : wr.frozen? ⟨w.heap.size, jn, none⟩ = false := by simp [World.frozen?, HC.out]
         by_cases h34 : s[k].toNat = 34
         · have HY : Hid (esc1 s[k] = [92, 34]) := by show _ = _; rw [esc1, if_pos ((escB_yes _).2 (.inl h34)), UInt8.toNat_inj.1 (h34.trans rfl : s[k].toNat = (34 : UInt8).toNat)]
           have g0 : wr.cell? ⟨g, 34, none⟩ = some (.slice (some ⟨qa, 0, none⟩) 2 qc) := (hb.cell (p := ⟨g, 34, none⟩) (by omega)).trans q0
           have hj2 : jn + 2 ≤ s.size + escN s.toList := by have := HLE.out; rw [HY.out] at this; simpa using this
           have hji : (0 : Int) ≤ (jn : Int) := by omega
           have hjN : (jn : Int) ≤ ((s.size + escN s.toList : Nat) : Int) := by omega
           have hsl := fun W => slice_from W w.heap.size (s.size + escN s.toList) jn (by omega)
           have hsrc : ∀ j v, (byC [92, 34])[j]? = some v → wr.cell? ((⟨qa, 0, none⟩ : Addr).add j) = some v := two_cells ((hb.cell (p := ⟨qa, 0, none⟩) q1).trans q2) ((hb.cell (p := ⟨qa, 1, none⟩) q1).trans q3)
           have HSR := Lib.hid hsrc
           clear hsrc
           go_wp2_with fail
           go_region_held3 (fun w' => w'.cell? ⟨g, 34, none⟩ = some (.slice (some ⟨qa, 0, none⟩) 2 qc)) (first | go_keep | (exact (hB4.cell (p := ⟨g, 34, none⟩) hgl).trans q0)) ((refine step_copy_splice rfl (.tmp 105) (.tmp 111) 135 135 rfl 5 Tryz.underlying135 (by kernel_rfl) (some ⟨w.heap.size, jn, none⟩) (some ⟨qa, 0, none⟩) (s.size + escN s.toList - jn) (s.size + escN s.toList - jn) 2 qc (by rfl) (by rfl) w.heap.size jn cur 5 HC.out (byC [92, 34]) (two_min hj2) (fun _ => ⟨rfl, _, rfl, HSR.out⟩) (by rw [HE.out]; exact hj2) (byC_one _) w.heap.size w (below_drewN hb 1) (Nat.le_refl _) ?_; intro w4 HG4 hB4))
           have hL : Hid (jn + 2 = (escP (s.toList.take (k + 1))).length) := by show _ = _; rw [HK.out, List.length_append, HJ.out, HY.out]; rfl
           have hR : Hid ((splice cur jn (byC [92, 34])).take (jn + 2) = byC (escP (s.toList.take (k + 1)))) := by
             show _ = _
             rw [HK.out, byC_append, HY.out, ← HT.out]; exact splice_take (cur := cur) (cs := byC [92, 34]) (j := jn) (by rw [HE.out]; exact hj2)
           have hE : Hid ((splice cur jn (byC [92, 34])).length = s.size + escN s.toList) := by show _ = _; rw [length_splice _ _ _ (by rw [HE.out]; exact hj2)]; exact HE.out
           rw [wrap2 jn 92 34 (by omega)]
           go_wp2_with fail
           go_roundw
           case rel => exact ⟨k + 1, splice cur jn (byC [92, 34]), by omega, by go_num, by rw [hL.out], hE, HG4, by rw [← hL.out]; exact hR, hB4⟩
           case measure => simp [intOf]; omega
         · by_cases h92 : s[k].toNat = 92
           · have HY : Hid (esc1 s[k] = [92, 92]) := by show _ = _; rw [esc1, if_pos ((escB_yes _).2 (.inr h92)), UInt8.toNat_inj.1 (h92.trans rfl : s[k].toNat = (92 : UInt8).toNat)]
             have g0 : wr.cell? ⟨g, 92, none⟩ = some (.slice (some ⟨sa, 0, none⟩) 2 sc) := (hb.cell (p := ⟨g, 92, none⟩) (by omega)).trans s0
             have hj2 : jn + 2 ≤ s.size + escN s.toList := by have := HLE.out; rw [HY.out] at this; simpa using this
             have hji : (0 : Int) ≤ (jn : Int) := by omega
             have hjN : (jn : Int) ≤ ((s.size + escN s.toList : Nat) : Int) := by omega
             have hsl := fun W => slice_from W w.heap.size (s.size + escN s.toList) jn (by omega)
             have hsrc : ∀ j v, (byC [92, 92])[j]? = some v → wr.cell? ((⟨sa, 0, none⟩ : Addr).add j) = some v := two_cells ((hb.cell (p := ⟨sa, 0, none⟩) s1).trans s2) ((hb.cell (p := ⟨sa, 1, none⟩) s1).trans s3)
             have HSR := Lib.hid hsrc
             clear hsrc
             go_wp2_with fail
             go_region_held3 (fun w' => w'.cell? ⟨g, 92, none⟩ = some (.slice (some ⟨sa, 0, none⟩) 2 sc)) (first | go_keep | (exact (hB4.cell (p := ⟨g, 92, none⟩) hgl).trans s0)) ((refine step_copy_splice rfl (.tmp 105) (.tmp 111) 135 135 rfl 5 Tryz.underlying135 (by kernel_rfl) (some ⟨w.heap.size, jn, none⟩) (some ⟨sa, 0, none⟩) (s.size + escN s.toList - jn) (s.size + escN s.toList - jn) 2 sc (by rfl) (by rfl) w.heap.size jn cur 5 HC.out (byC [92, 92]) (two_min hj2) (fun _ => ⟨rfl, _, rfl, HSR.out⟩) (by rw [HE.out]; exact hj2) (byC_one _) w.heap.size w (below_drewN hb 1) (Nat.le_refl _) ?_; intro w4 HG4 hB4))
             have hL : Hid (jn + 2 = (escP (s.toList.take (k + 1))).length) := by show _ = _; rw [HK.out, List.length_append, HJ.out, HY.out]; rfl
             have hR : Hid ((splice cur jn (byC [92, 92])).take (jn + 2) = byC (escP (s.toList.take (k + 1)))) := by
               show _ = _
               rw [HK.out, byC_append, HY.out, ← HT.out]; exact splice_take (cur := cur) (cs := byC [92, 92]) (j := jn) (by rw [HE.out]; exact hj2)
             have hE : Hid ((splice cur jn (byC [92, 92])).length = s.size + escN s.toList) := by show _ = _; rw [length_splice _ _ _ (by rw [HE.out]; exact hj2)]; exact HE.out
             rw [wrap2 jn 92 92 (by omega)]
             go_wp2_with fail
             go_roundw
             case rel => exact ⟨k + 1, splice cur jn (byC [92, 92]), by omega, by go_num, by rw [hL.out], hE, HG4, by rw [← hL.out]; exact hR, hB4⟩
             case measure => simp [intOf]; omega
           · have hnq : escB s[k] = false := by
               cases hq : escB s[k] with
               | false => rfl
               | true => rcases (escB_yes _).1 hq with h | h <;> contradiction
             have HY : Hid (esc1 s[k] = [s[k]]) := by show _ = _; rw [esc1, hnq]; rfl
             have hb256 : s[k].toNat < 256 := UInt8.toNat_lt _
             have hcell : wr.cell? ⟨g, s[k].toNat, none⟩ = some (.slice none 0 0) := (hb.cell (p := ⟨g, s[k].toNat, none⟩) hgl).trans (HNO.out s[k].toNat hb256 h34 h92)
             have hj2 : jn + 1 ≤ s.size + escN s.toList := by have := HLE.out; rw [HY.out] at this; simpa using this
             clear hnq
             have hcj : wr.cell? ⟨w.heap.size, jn, none⟩ = some (cur[jn]'(by rw [HE.out]; omega)) := by
               have h1 : jn < cur.length := by rw [HE.out]; omega
               simp [World.cell?, HC.out, h1]
             have hL : Hid (jn + 1 = (escP (s.toList.take (k + 1))).length) := by show _ = _; rw [HK.out, List.length_append, HJ.out, HY.out]; rfl
             have hR : Hid ((cur.set jn (.int .u8 (s[k].toNat : Int))).take (jn + 1) = byC (escP (s.toList.take (k + 1)))) := by
               show _ = _
               rw [HK.out, byC_append, HY.out, ← HT.out]; exact set_take (by rw [HE.out]; omega)
             have hE : Hid ((cur.set jn (.int .u8 (s[k].toNat : Int))).length = s.size + escN s.toList) := by show _ = _; rw [List.length_set]; exact HE.out
             have hS : Hid ((wr.setCell ⟨w.heap.size, jn, none⟩ (.int .u8 (s[k].toNat : Int))).heap[w.heap.size]? = some (.cells (cur.set jn (.int .u8 (s[k].toNat : Int))).toArray 5 (0, 0))) := by
               have := Blk.set (show Blk wr w.heap.size 5 cur.toArray from HC.out) jn (.int .u8 (s[k].toNat : Int))
               rw [List.setIfInBounds_toArray] at this
               exact this
             go_wp2_with fail
             go_roundw
             case rel => exact ⟨k + 1, cur.set jn (.int .u8 (s[k].toNat : Int)), by omega, by go_num, by rw [← hL.out]; go_num, hE, hS, by rw [← hL.out]; exact hR, hb.setCell (by simp) _⟩
             case measure => simp [intOf]; omega
       · have hks : k = s.size := by omega
         subst hks
         have HA : s.toList.take s.size = s.toList := List.take_of_length_le (by rw [toList_len]; omega)
         rw [HA] at HT ⊢
         clear HA
         have hcv : (convert 135 9 (.slice (some ⟨w.heap.size, 0, none⟩) (s.size + escN s.toList) (s.size + escN s.toList))).run Tryz.prog wr = .ok (.string ⟨(escP s.toList).toArray⟩) wr := by
           have hl : (escP s.toList).length = s.size + escN s.toList := by rw [HN.out, HL.out]
           have := run_convert_bytes_back (P := Tryz.prog) wr 135 9 5 ⟨w.heap.size, 0, none⟩ (s.size + escN s.toList) (escP s.toList) Tryz.underlying135 Tryz.underlying5 Tryz.underlying9 (fun j hj => by
             have ht := HT.out
             rw [List.take_of_length_le (by rw [HE.out, hl]; exact Nat.le_refl _)] at ht
             rw [add_none, Nat.zero_add]
             simp only [World.cell?, HC.out]
             rw [ht]
             simp [byC, hj])
           rwa [hl] at this
         go_wp2_with fail
         go_ret
         exact ⟨rfl, hb⟩
end Go.Proofs.YtbggbcnfkcadjaaGreatDoor
namespace Go.Proofs.YtbggbcnfkcadjaaGreatDoor
open Go.RowKit Go.Sort Go.MuLone
abbrev muLink : Go.Conc.Locks.MuLink := { lock := 186, unlock := 187, ilock := 200, iunlock := 201, lockSlow := 215, unlockSlow := 218, disable := 211, enable := 213, acquire := 214, relMerge := 216, cas32 := 212, add32 := 217, tMutex := 200, tIMutex := 198, tPMutex := 256, tPIMutex := 273, tPI32 := 275, tUP := 118, tNoCopy := 192, tU32 := 194 }
theorem muLib : Go.Conc.Locks.MuLib Tryz.prog muLink :=
 ⟨Tryz.func186, Tryz.func187, Tryz.func200, Tryz.func201, Tryz.func211, Tryz.func213, Tryz.func214, Tryz.func216, Tryz.func212, Tryz.func217, Tryz.underlying198, Tryz.runUnderlying198, Tryz.sizeOf198, Tryz.isAgg198, Tryz.zeroValue198, Tryz.underlying200, Tryz.runUnderlying200, Tryz.sizeOf200, Tryz.isAgg200, Tryz.zeroValue200, Tryz.underlying256, Tryz.runUnderlying256, Tryz.sizeOf256, Tryz.isAgg256, Tryz.zeroValue256, Tryz.underlying273, Tryz.runUnderlying273, Tryz.sizeOf273, Tryz.isAgg273, Tryz.zeroValue273, Tryz.underlying275, Tryz.runUnderlying275, Tryz.sizeOf275, Tryz.isAgg275, Tryz.zeroValue275, Tryz.underlying118, Tryz.runUnderlying118, Tryz.sizeOf118, Tryz.isAgg118, Tryz.zeroValue118, Tryz.underlying192, Tryz.runUnderlying192, Tryz.sizeOf192, Tryz.isAgg192, Tryz.zeroValue192, Tryz.underlying21, Tryz.runUnderlying21, Tryz.sizeOf21, Tryz.isAgg21, Tryz.zeroValue21, (by kernel_rfl)⟩
theorem store_deferred (a : Addr) (x : Value) (u : FrameMode) (w : World) (hc : w.cell? a = some x) (hz : w.frozen? a = false) :
   CallsD Tryz.prog 188 #[.pointer (some a), .bool true] u w fun e u' w' => u' = u ∧ (e = .returned (.tuple #[]) ∧ w' = w.drew.setCell a (.int .u32 1)) := by
 have hc' : w.drew.cell? a = some x := by go_simp
 have hz' : w.drew.frozen? a = false := by go_simp
 have hst := run_call_store (P := Tryz.prog) Tryz.func202 (by kernel_rfl) (by kernel_rfl) (by kernel_rfl) (by kernel_rfl) (k := .u32) (y := 1) hc' hz'
 go_enter_d Tryz.func188, Tryz.ntmps188
 go_wp2
 go_region_calls
 all_goals (go_end0; exact ⟨rfl, rfl⟩)
set_option maxRecDepth 100000 in
set_option maxHeartbeats 1600000 in
theorem once_slow (r : Nat) (fv : Value) (K : Nat) (args : Array Value) (hfv : fv = .func (.func K) args #[]) (hK : K = 150) (w : World) (Q : World → Prop)
   (h0 : w.cell? ⟨r, 0, none⟩ = some (.int .u32 0)) (h1 : w.cell? ⟨r, 1, none⟩ = some (.int .i32 0)) (f1 : w.frozen? ⟨r, 1, none⟩ = false)
   (hB : Calls Tryz.prog K args (w.setCell ⟨r, 1, none⟩ (.int .i32 1)) fun e w' => e = .returned (.tuple #[]) ∧ Q w')
   (hQ : ∀ w', Q w' → w'.cell? ⟨r, 0, none⟩ = some (.int .u32 0) ∧ w'.cell? ⟨r, 1, none⟩ = some (.int .i32 1) ∧ w'.frozen? ⟨r, 0, none⟩ = false ∧ w'.frozen? ⟨r, 1, none⟩ = false) :
   Calls Tryz.prog 168 #[.pointer (some ⟨r, 0, none⟩), fv] w fun e w' => e = .returned (.tuple #[]) ∧ ∃ w2, Q w2 ∧ w' = (w2.drew.setCell ⟨r, 0, none⟩ (.int .u32 1)).setCell ⟨r, 1, none⟩ (.int .i32 0) := by
 subst hfv hK
 have hl := run_call_load (P := Tryz.prog) Tryz.func185 (by kernel_rfl) (by kernel_rfl) (by kernel_rfl) .u32 (by kernel_rfl) (w := w.setCell ⟨r, 1, none⟩ (.int .i32 1)) (a := ⟨r, 0, none⟩) (x := 0) ((World.cell?_setCell_other _ ⟨r, 1, none⟩ ⟨r, 0, none⟩ _ (by simp)).trans h0)
 have hnot : ∀ (x : Bool) (w : World), (Op.unary .not (.bool x)).run Tryz.prog w = .ok (.bool (!x)) w := fun _ _ => rfl
 go_enter_defers Tryz.func168, Tryz.ntmps168
 go_wp2_with (first | (go_at_call 186; refine (lock_free muLib ⟨r, 1, none⟩ _ h1 f1).mono ?_; rintro e w' ⟨rfl, rfl⟩) | (go_at_call 167; go_in))
 refine hB.mono ?_
 rintro e w2 ⟨rfl, hq⟩
 obtain ⟨q0, q1, z0, z1⟩ := hQ w2 hq
 go_wp2
 -- the door: two deferred calls, the last laid first
 refine leaves_cons (f := 188) (args := #[.pointer (some ⟨r, 0, none⟩), .bool true]) (by simp) (by simp [go_sem]) ?_
 refine (store_deferred ⟨r, 0, none⟩ (.int .u32 0) .returning _ q0 z0).mono ?_
 rintro e u' w'' ⟨rfl, rfl, rfl⟩
 refine leaves_cons (f := 187) (args := #[.pointer (some ⟨r, 1, none⟩)]) (by simp [settle]) (by simp [go_sem]) ?_
 refine (unlock_deferred muLib ⟨r, 1, none⟩ _ _ ?_ (by simp [z1])).mono ?_
 · refine (World.cell?_setCell_other _ ⟨r, 0, none⟩ ⟨r, 1, none⟩ _ (by simp)).trans ?_
   rw [World.cell?_drew]
   exact q1
 rintro e u' w'' ⟨rfl, rfl, rfl⟩
 exact ⟨_, results_none rfl _ _ _, rfl, w2, hq, rfl⟩
set_option maxRecDepth 100000 in
set_option maxHeartbeats 1600000 in
theorem once_Do (r : Nat) (fv : Value) (args : Array Value) (hfv : fv = .func (.func 150) args #[]) (w : World) (Q : World → Prop)
   (h0 : w.cell? ⟨r, 0, none⟩ = some (.int .u32 0)) (h1 : w.cell? ⟨r, 1, none⟩ = some (.int .i32 0)) (f1 : w.frozen? ⟨r, 1, none⟩ = false)
   (hB : Calls Tryz.prog 150 args (w.setCell ⟨r, 1, none⟩ (.int .i32 1)) fun e w' => e = .returned (.tuple #[]) ∧ Q w')
   (hQ : ∀ w', Q w' → w'.cell? ⟨r, 0, none⟩ = some (.int .u32 0) ∧ w'.cell? ⟨r, 1, none⟩ = some (.int .i32 1) ∧ w'.frozen? ⟨r, 0, none⟩ = false ∧ w'.frozen? ⟨r, 1, none⟩ = false) :
   Calls Tryz.prog 149 #[.pointer (some ⟨r, 0, none⟩), fv] w fun e w' => e = .returned (.tuple #[]) ∧ ∃ w2, Q w2 ∧ w' = (w2.drew.setCell ⟨r, 0, none⟩ (.int .u32 1)).setCell ⟨r, 1, none⟩ (.int .i32 0) := by
 have hl := run_call_load (P := Tryz.prog) Tryz.func185 (by kernel_rfl) (by kernel_rfl) (by kernel_rfl) .u32 (by kernel_rfl) h0
 have hnot : ∀ (x : Bool) (w : World), (Op.unary .not (.bool x)).run Tryz.prog w = .ok (.bool (!x)) w := fun _ _ => rfl
 go_enter Tryz.func149, Tryz.ntmps149
 go_wp2_with (go_at_call 167; go_in)
 refine (once_slow r _ 150 args rfl rfl _ Q h0 h1 f1 hB hQ).mono ?_
 rintro e w' ⟨rfl, w2, hq, rfl⟩
 go_wp2
 go_end0
 exact ⟨rfl, w2, hq, rfl⟩
end Go.Proofs.YtbggbcnfkcadjaaGreatDoor
namespace Go.Proofs.YtbggbcnfkcadjaaGreatDoor
open Go.RowKit Go.Sort
set_option maxRecDepth 100000 in
set_option maxHeartbeats 1600000 in
theorem rep_Replace (r : Nat) (w : World) (s : ByteArray) (hr : RepNew w r) (hs : s.size ≤ 1000) :
   Calls Tryz.prog 126 #[.pointer (some ⟨r, 0, none⟩), .string s] w fun e w' => e = .returned (.string ⟨(escP s.toList).toArray⟩) ∧ Only w.heap.size r w w' := by
 obtain ⟨A, c, hb, hsl⟩ := hr
 have hlt := hb.lt
 have c0 : w.cell? ⟨r, 0, none⟩ = some (.int .u32 0) := hb.cell 0
 have c1 : w.cell? ⟨r, 1, none⟩ = some (.int .i32 0) := hb.cell 1
 have f1 := hb.frozen 1
 have hb1 : Blk (w.setCell ⟨r, 1, none⟩ (.int .i32 1)) r 206 #[.int .u32 0, .int .i32 1, .int .u32 0, .nilIface, .slice A 4 c] := hb.set 1 _
 have hB : Calls Tryz.prog 150 #[.pointer (some ⟨r, 0, none⟩)] (w.setCell ⟨r, 1, none⟩ (.int .i32 1)) fun e w' => e = .returned (.tuple #[]) ∧ (RepDone w' w.heap.size r (.int .u32 0) (.int .i32 1) (.int .u32 0) ∧ Only w.heap.size r w w') := by
   refine (rep_buildOnce r _ A c _ _ _ _ hb1 ?_).mono ?_
   · rw [World.size_setCell]
     exact (hsl.keep fun p hp => World.cell?_setCell_other w ⟨r, 1, none⟩ p _ (by rintro rfl; simp at hp)).more (Nat.le_of_lt hlt)
   · rintro e w' ⟨rfl, h1, h2⟩
     rw [World.size_setCell] at h1 h2
     exact ⟨rfl, h1, ((Only.refl _ _ _).setCell (p := ⟨r, 1, none⟩) (.inl rfl) _).trans h2⟩
 have hm : ∀ (a : Addr) (w : World), (method 447 250 (.pointer (some a)) "Replace").run Tryz.prog w = .ok (294, .pointer (some a)) w := fun _ _ => by kernel_rfl
 go_enter Tryz.func126, Tryz.ntmps126
 go_wp2_with fail
 refine (once_Do r _ #[.pointer (some ⟨r, 0, none⟩)] rfl w _ c0 c1 f1 hB ?_).mono ?_
 · rintro w' ⟨⟨g, hd, _⟩, _⟩
   exact ⟨hd.cell 0, hd.cell 1, hd.frozen 0, hd.frozen 1⟩
 rintro e w' ⟨rfl, w2, ⟨⟨g, hd, htab⟩, honly⟩, rfl⟩
 have hlt2 : r < w2.heap.size := hd.lt
 have hd4 : Blk ((w2.drew.setCell ⟨r, 0, none⟩ (.int .u32 1)).setCell ⟨r, 1, none⟩ (.int .i32 0)) r 206 #[.int .u32 1, .int .i32 0, .int .u32 0, .iface 250 (.pointer (some ⟨g, 0, none⟩)), .slice none 0 0] := (hd.drew.set 0 _).set 1 _
 have ht4 : RepTab ((w2.drew.setCell ⟨r, 0, none⟩ (.int .u32 1)).setCell ⟨r, 1, none⟩ (.int .i32 0)) w.heap.size ((w2.drew.setCell ⟨r, 0, none⟩ (.int .u32 1)).setCell ⟨r, 1, none⟩ (.int .i32 0)).heap.size g := by
   rw [World.size_setCell, World.size_setCell]
   exact htab.keep (by rw [World.size_setCell, World.size_setCell]; exact Nat.le_refl _) fun g i hg _ => (World.cell?_setCell_other _ ⟨r, 1, none⟩ ⟨g, i, none⟩ _ (by simp)).trans (World.cell?_setCell_other w2.drew ⟨r, 0, none⟩ ⟨g, i, none⟩ _ (by simp))
 have ho4 : Only w.heap.size r w ((w2.drew.setCell ⟨r, 0, none⟩ (.int .u32 1)).setCell ⟨r, 1, none⟩ (.int .i32 0)) := (honly.drew.setCell (p := ⟨r, 0, none⟩) (.inl rfl) _).setCell (p := ⟨r, 1, none⟩) (.inl rfl) _
 generalize hW : (w2.drew.setCell ⟨r, 0, none⟩ (.int .u32 1)).setCell ⟨r, 1, none⟩ (.int .i32 0) = W at hd4 ht4 ho4 ⊢
 clear hW hB hd htab honly hsl hb hb1 c0 c1 f1
 have c3 : W.cell? ⟨r, 3, none⟩ = some (.iface 250 (.pointer (some ⟨g, 0, none⟩))) := hd4.cell 3
 go_wp2_with fail
 refine (bsr_Replace g w.heap.size s W ht4 hs).mono ?_
 rintro e w' ⟨rfl, hbw⟩
 go_wp2_with fail
 go_ret
 exact ⟨rfl, ho4.trans (Only.of_below hbw (by have := ho4.size; exact this))⟩
set_option maxRecDepth 100000 in
set_option maxHeartbeats 1600000 in
theorem name_Quote (s : ByteArray) (w : World) (hs : s.size ≤ 140737488351232) :
   Calls Tryz.prog 92 #[.string s] w fun e w' => e = .returned (.tuple #[encStr (quoteV s.toList), errV (textErr s.toList)]) ∧ Below w.heap.size w w' := by
 by_cases he : textErr s.toList = 0
 · have h60 : s.size ≤ 1000 := by
     unfold textErr at he
     split at he
     · cases he
     · rename_i h; rw [toList_len] at h; omega
   have HE := Lib.hid he
   clear he
   have hP := name_Plain s
   rw [HE.out, errV_zero] at hP
   have HP := Lib.hid hP
   clear hP
   go_enter Tryz.func92, Tryz.ntmps92
   go_wp2_with fail
   refine (HP.out _ hs).mono ?_
   rintro e w1 ⟨rfl, hb1⟩
   go_wp2_with fail
   refine (rep_New w1.heap.size _ (by simp) ?_).mono ?_
   · intro i l hl
     rw [World.cell?_alloc_new]
     match i, hl with
     | 0, hl => cases hl; rfl
     | 1, hl => cases hl; rfl
     | 2, hl => cases hl; rfl
     | 3, hl => cases hl; rfl
   rintro e w2 ⟨r, rfl, hr, hrep, hb2⟩
   have hbel : Below w.heap.size w w2 := (hb1.alloc hb1.size _).trans (hb2.mono (by simp; have := hb1.size; omega))
   have hrw : w.heap.size ≤ r := by simp at hr; have := hb1.size; omega
   clear hb2 hr hb1
   go_wp2_with fail
   refine (rep_Replace r w2 s hrep h60).mono ?_
   rintro e w3 ⟨rfl, ho⟩
   have hqz : (⟨(escP s.toList).toArray⟩ : ByteArray).size ≤ 2000 := by
     show (escP s.toList).toArray.size ≤ 2000
     rw [List.size_toArray, escP_len]
     have := escN_le s.toList
     rw [toList_len] at this ⊢
     omega
   generalize hq : (⟨(escP s.toList).toArray⟩ : ByteArray) = qs at hqz ⊢
   have HQ := Lib.hid hq
   clear hq
   go_wp2_with fail
   go_ret2
   refine ⟨?_, hbel.trans (ho.below hbel.size hrw)⟩
   rw [quoteV, if_pos HE.out, HE.out, errV_zero, ← HQ.out]
   rfl
 · have hne : (textErr s.toList != 0) = true := by simp [he]
   have HE := Lib.hid he
   clear he
   go_enter Tryz.func92, Tryz.ntmps92
   go_wp2_with fail
   refine (name_Plain s _ hs).mono ?_
   rintro e w1 ⟨rfl, hb1⟩
   go_wp2_with fail
   go_ret2
   exact ⟨by rw [quoteV, if_neg HE.out]; rfl, hb1⟩
end Go.Proofs.YtbggbcnfkcadjaaGreatDoor
namespace Go.Proofs.YtbggbcnfkcadjaaGreatDoor
open Go.RowKit
theorem eql_tok (x y : Tk) (w : World) : (binOp .eql 42 (.agg #[.int .i64 x.kind, .string x.s, .int .i64 x.at_]) (.agg #[.int .i64 y.kind, .string y.s, .int .i64 y.at_])).run Tryz.prog w = .ok (.bool (tkEq x y)) w := by
 have u3 := Tryz.underlying3
 have us := Tryz.underlying9
 have a3 := Tryz.isAgg3
 have z3 := Tryz.sizeOf3
 have as1 := Tryz.isAgg9
 have zs1 := Tryz.sizeOf9
 have hS : Tryz.prog.underlying 42 = some (.struct (Tryz.prog.fieldsOf 42)) := by kernel_rfl
 have hp : Tryz.prog.stoodInHeld 42 = false := by kernel_rfl
 rw [run_eql_struct, show (10000 : Nat) = 9999 + 1 from rfl, run_equalIn_agg w 9999 42 _ _ hS hp]
 simp only [Program.fieldsOf, Tryz.underlying42]
 go_simp
 by_cases h1 : x.kind = y.kind <;> by_cases h2 : x.s.toList = y.s.toList <;> by_cases h3 : x.at_ = y.at_ <;> simp [tkEq, h1, h2, h3]
theorem bsOf_size (l : List UInt8) : (bsOf l).size = l.length := by show l.toArray.size = _; simp
theorem speltP_bad {x : Tk} {q : List Tk} {a : Nat} {k : Int} (h : ¬ (x.kind = 3 ∧ textErr x.s.toList ≠ 0)) (hq : readP (bsOf (speltT x)) = (q, a, k)) (hk : ¬ k = 0 ∨ ¬ q.length = 1) : speltP x = ([], false) := by
 rw [speltP, if_neg h, hq]
 match q, hk with
 | [], _ => rfl
 | [t], hk => simp only; rw [if_neg (by simpa using hk)]
 | _ :: _ :: _, _ => rfl
theorem speltP_ok {x t : Tk} {a : Nat} (h : ¬ (x.kind = 3 ∧ textErr x.s.toList ≠ 0)) (hq : readP (bsOf (speltT x)) = ([t], a, 0)) : speltP x = (speltT x, tkEq t ⟨x.kind, x.s, 0⟩) := by
 rw [speltP, if_neg h, hq]; rfl
theorem speltT_len (x : Tk) (hx : x.s.size ≤ 140737488351232) : (bsOf (speltT x)).size ≤ 140737488351300 := by
 rw [bsOf_size]
 unfold speltT
 split
 · have := quoteV_len x.s.toList; omega
 · split
   · rw [List.length_cons, toList_len]; omega
   · rw [toList_len]; omega
structure SpAt (x : Tk) (W w : World) : Prop where
 on : Below W.heap.size W w
 c0 : w.cell? ⟨W.heap.size, 0, none⟩ = some (.int .i64 x.kind)
 c1 : w.cell? ⟨W.heap.size, 1, none⟩ = some (.string x.s)
 lt : W.heap.size < w.heap.size
theorem SpAt.new (x : Tk) (W : World) : SpAt x W (W.alloc (.cells #[.int .i64 x.kind, .string x.s, .int .i64 x.at_] 42)) :=
 ⟨(Below.refl _ _).alloc (Nat.le_refl _) _, by rw [World.cell?_alloc_new]; rfl, by rw [World.cell?_alloc_new]; rfl, by simp⟩
theorem SpAt.later {x : Tk} {W w w' : World} (h : SpAt x W w) (hb : Below w.heap.size w w') : SpAt x W w' :=
 ⟨h.on.trans (hb.mono h.on.size), (hb.cell (p := ⟨W.heap.size, 0, none⟩) h.lt).trans h.c0, (hb.cell (p := ⟨W.heap.size, 1, none⟩) h.lt).trans h.c1, Nat.lt_of_lt_of_le h.lt hb.size⟩
set_option maxRecDepth 100000 in
set_option maxHeartbeats 3200000 in
theorem word_spelt3 (x : Tk) (w : World) (hx : x.s.size ≤ 140737488351232) (h3 : x.kind = 3) (he : textErr x.s.toList = 0) :
   Calls Tryz.prog 56 #[.agg #[.int .i64 x.kind, .string x.s, .int .i64 x.at_]] w fun e w' => e = .returned (.tuple #[encStr (speltP x).1, .bool (speltP x).2]) ∧ Below w.heap.size w w' := by
 have t3 : (x.kind == 3) = true := by simp [h3]
 have hT : encStr (quoteV x.s.toList) = .string (bsOf (speltT x)) := by rw [speltT, if_pos h3]; rfl
 have hn : ¬ (x.kind = 3 ∧ textErr x.s.toList ≠ 0) := fun h => h.2 he
 have hq0 := name_Quote x.s
 rw [hT, he, errV_zero] at hq0
 have HQ0 := Lib.hid hq0
 clear hq0 hT
 obtain ⟨q, a, k, hq⟩ : ∃ q a k, readP (bsOf (speltT x)) = (q, a, k) := ⟨_, _, _, rfl⟩
 obtain ⟨r, hr⟩ : ∃ r, speltP x = r := ⟨_, rfl⟩
 have hR0 := fun W => word_ReadX (bsOf (speltT x)) W (speltT_len x hx)
 rw [hq] at hR0
 have HR := Lib.hid hR0
 rw [hr]
 clear hR0
 by_cases hk : k = 0
 · by_cases hl : q.length = 1
   · obtain ⟨t, rfl⟩ : ∃ t, q = [t] := by
       match q, hl with
       | [t], _ => exact ⟨t, rfl⟩
     subst hk
     have hv := speltP_ok hn hq
     rw [hr] at hv
     have HV := Lib.hid hv
     clear hr hn hq hv hl h3 he
     go_enter Tryz.func56, Tryz.ntmps56
     go_wp2_with fail
     refine (HQ0.out _ (by omega)).mono ?_
     rintro e w1 ⟨rfl, hb1⟩
     have hsp := (SpAt.new x w).later hb1
     clear hb1
     go_wp2_with fail
     refine Calls.mono (HR.out _) ?_
     rintro r2 w2 ⟨A, c, rfl, hnc, hcm, hs, hb2⟩
     have hsp2 := hsp.later hb2
     clear hb2 hsp
     obtain ⟨hon, d0, d1, hlt⟩ := hsp2
     obtain ⟨b, o, rfl, hbl, ⟨e0, e1, e2⟩⟩ := tkSl_at hs (i := 0) (x := t) rfl
     rw [Nat.zero_mul, Nat.add_zero] at e0 e1 e2
     have heq := fun W => eql_tok t ⟨x.kind, x.s, 0⟩ W
     clear hs
     go_wp2_with fail
     go_quiet (fail)
     go_wp2_with fail
     go_ret2
     rw [HV.out]
     exact ⟨rfl, below_drewN hon _⟩
   · have hl1 : ((q.length : Int) != 1) = true := by rw [bne_iff_ne]; omega
     have hk0 : (k != 0) = false := by simp [hk]
     have hv := speltP_bad hn hq (.inr hl)
     rw [hr] at hv
     have HV := Lib.hid hv
     clear hr hn hq hv hl hk h3 he
     go_enter Tryz.func56, Tryz.ntmps56
     go_wp2_with fail
     refine (HQ0.out _ (by omega)).mono ?_
     rintro e w1 ⟨rfl, hb1⟩
     have hsp := (SpAt.new x w).later hb1
     clear hb1
     go_wp2_with fail
     refine Calls.mono (HR.out _) ?_
     rintro r2 w2 ⟨A, c, rfl, hnc, hcm, hs, hb2⟩
     have hsp2 := hsp.later hb2
     clear hb2 hsp
     obtain ⟨hon, d0, d1, hlt⟩ := hsp2
     go_wp2_with fail
     go_ret2
     rw [HV.out]
     exact ⟨rfl, hon⟩
 · have hk0 : (k != 0) = true := by simp [hk]
   have hv := speltP_bad hn hq (.inl hk)
   rw [hr] at hv
   have HV := Lib.hid hv
   clear hr hn hq hv hk h3 he
   go_enter Tryz.func56, Tryz.ntmps56
   go_wp2_with fail
   refine (HQ0.out _ (by omega)).mono ?_
   rintro e w1 ⟨rfl, hb1⟩
   have hsp := (SpAt.new x w).later hb1
   clear hb1
   go_wp2_with fail
   refine Calls.mono (HR.out _) ?_
   rintro r2 w2 ⟨A, c, rfl, hnc, hcm, hs, hb2⟩
   have hsp2 := hsp.later hb2
   clear hb2 hsp
   obtain ⟨hon, d0, d1, hlt⟩ := hsp2
   go_wp2_with fail
   go_ret2
   rw [HV.out]
   exact ⟨rfl, hon⟩
set_option maxRecDepth 100000 in
set_option maxHeartbeats 3200000 in
theorem word_spelt4 (x : Tk) (w : World) (hx : x.s.size ≤ 140737488351232) (h3 : ¬ x.kind = 3) (h4 : x.kind = 4) :
   Calls Tryz.prog 56 #[.agg #[.int .i64 x.kind, .string x.s, .int .i64 x.at_]] w fun e w' => e = .returned (.tuple #[encStr (speltP x).1, .bool (speltP x).2]) ∧ Below w.heap.size w w' := by
 have t3 : (x.kind == 3) = false := by simp [h3]
 have t4 : (x.kind == 4) = true := by simp [h4]
 have hT : (⟨#[63]⟩ : ByteArray) ++ x.s = bsOf (speltT x) := by
   rw [speltT, if_neg h3, if_pos h4]
   apply ByteArray.ext
   rw [ByteArray.data_append, ByteArray.toList_eq]
   show _ = (63 :: x.s.data.toList).toArray
   apply Array.toList_inj.1
   simp
 have hn : ¬ (x.kind = 3 ∧ textErr x.s.toList ≠ 0) := fun h => h3 h.1
 obtain ⟨q, a, k, hq⟩ : ∃ q a k, readP (bsOf (speltT x)) = (q, a, k) := ⟨_, _, _, rfl⟩
 obtain ⟨r, hr⟩ : ∃ r, speltP x = r := ⟨_, rfl⟩
 have hR0 := fun W => word_ReadX (bsOf (speltT x)) W (speltT_len x hx)
 rw [hq] at hR0
 have HT := Lib.hid hT
 clear hT
 have HR := Lib.hid hR0
 rw [hr]
 clear hR0
 by_cases hk : k = 0
 · by_cases hl : q.length = 1
   · obtain ⟨t, rfl⟩ : ∃ t, q = [t] := by
       match q, hl with
       | [t], _ => exact ⟨t, rfl⟩
     subst hk
     have hv := speltP_ok hn hq
     rw [hr] at hv
     have HV := Lib.hid hv
     clear hr hn hq hv hl h3 h4
     go_enter Tryz.func56, Tryz.ntmps56
     go_wp2_with fail
     rw [HT.out]
     have hsp := SpAt.new x w
     refine Calls.mono (HR.out _) ?_
     rintro r2 w2 ⟨A, c, rfl, hnc, hcm, hs, hb2⟩
     have hsp2 := hsp.later hb2
     clear hb2 hsp
     obtain ⟨hon, d0, d1, hlt⟩ := hsp2
     obtain ⟨b, o, rfl, hbl, ⟨e0, e1, e2⟩⟩ := tkSl_at hs (i := 0) (x := t) rfl
     rw [Nat.zero_mul, Nat.add_zero] at e0 e1 e2
     have heq := fun W => eql_tok t ⟨x.kind, x.s, 0⟩ W
     clear hs
     go_wp2_with fail
     go_quiet (fail)
     go_wp2_with fail
     go_ret2
     rw [HV.out]
     exact ⟨rfl, below_drewN hon _⟩
   · have hl1 : ((q.length : Int) != 1) = true := by rw [bne_iff_ne]; omega
     have hk0 : (k != 0) = false := by simp [hk]
     have hv := speltP_bad hn hq (.inr hl)
     rw [hr] at hv
     have HV := Lib.hid hv
     clear hr hn hq hv hl hk h3 h4
     go_enter Tryz.func56, Tryz.ntmps56
     go_wp2_with fail
     rw [HT.out]
     have hsp := SpAt.new x w
     refine Calls.mono (HR.out _) ?_
     rintro r2 w2 ⟨A, c, rfl, hnc, hcm, hs, hb2⟩
     have hsp2 := hsp.later hb2
     clear hb2 hsp
     obtain ⟨hon, d0, d1, hlt⟩ := hsp2
     go_wp2_with fail
     go_ret2
     rw [HV.out]
     exact ⟨rfl, hon⟩
 · have hk0 : (k != 0) = true := by simp [hk]
   have hv := speltP_bad hn hq (.inl hk)
   rw [hr] at hv
   have HV := Lib.hid hv
   clear hr hn hq hv hk h3 h4
   go_enter Tryz.func56, Tryz.ntmps56
   go_wp2_with fail
   rw [HT.out]
   have hsp := SpAt.new x w
   refine Calls.mono (HR.out _) ?_
   rintro r2 w2 ⟨A, c, rfl, hnc, hcm, hs, hb2⟩
   have hsp2 := hsp.later hb2
   clear hb2 hsp
   obtain ⟨hon, d0, d1, hlt⟩ := hsp2
   go_wp2_with fail
   go_ret2
   rw [HV.out]
   exact ⟨rfl, hon⟩
set_option maxRecDepth 100000 in
set_option maxHeartbeats 3200000 in
theorem word_spelt0 (x : Tk) (w : World) (hx : x.s.size ≤ 140737488351232) (h3 : ¬ x.kind = 3) (h4 : ¬ x.kind = 4) :
   Calls Tryz.prog 56 #[.agg #[.int .i64 x.kind, .string x.s, .int .i64 x.at_]] w fun e w' => e = .returned (.tuple #[encStr (speltP x).1, .bool (speltP x).2]) ∧ Below w.heap.size w w' := by
 have t3 : (x.kind == 3) = false := by simp [h3]
 have t4 : (x.kind == 4) = false := by simp [h4]
 have hT : x.s = bsOf (speltT x) := by
   rw [speltT, if_neg h3, if_neg h4, ByteArray.toList_eq]; rfl
 have hn : ¬ (x.kind = 3 ∧ textErr x.s.toList ≠ 0) := fun h => h3 h.1
 obtain ⟨q, a, k, hq⟩ : ∃ q a k, readP (bsOf (speltT x)) = (q, a, k) := ⟨_, _, _, rfl⟩
 obtain ⟨r, hr⟩ : ∃ r, speltP x = r := ⟨_, rfl⟩
 have hR0 := fun W => word_ReadX x.s W (by omega)
 rw [show readP x.s = (q, a, k) by rw [← hq, ← hT]] at hR0
 have HS := Lib.hid (show Value.string x.s = encStr (speltT x) by rw [encStr_bs, ← hT])
 clear hT
 have HR := Lib.hid hR0
 rw [hr]
 clear hR0
 by_cases hk : k = 0
 · by_cases hl : q.length = 1
   · obtain ⟨t, rfl⟩ : ∃ t, q = [t] := by
       match q, hl with
       | [t], _ => exact ⟨t, rfl⟩
     subst hk
     have hv := speltP_ok hn hq
     rw [hr] at hv
     have HV := Lib.hid hv
     clear hr hn hq hv hl h3 h4
     go_enter Tryz.func56, Tryz.ntmps56
     go_wp2_with fail
     have hsp := SpAt.new x w
     refine Calls.mono (HR.out _) ?_
     rintro r2 w2 ⟨A, c, rfl, hnc, hcm, hs, hb2⟩
     have hsp2 := hsp.later hb2
     clear hb2 hsp
     obtain ⟨hon, d0, d1, hlt⟩ := hsp2
     obtain ⟨b, o, rfl, hbl, ⟨e0, e1, e2⟩⟩ := tkSl_at hs (i := 0) (x := t) rfl
     rw [Nat.zero_mul, Nat.add_zero] at e0 e1 e2
     have heq := fun W => eql_tok t ⟨x.kind, x.s, 0⟩ W
     clear hs
     go_wp2_with fail
     go_quiet (fail)
     go_wp2_with fail
     go_ret2
     rw [HV.out, ← HS.out]
     exact ⟨rfl, below_drewN hon _⟩
   · have hl1 : ((q.length : Int) != 1) = true := by rw [bne_iff_ne]; omega
     have hk0 : (k != 0) = false := by simp [hk]
     have hv := speltP_bad hn hq (.inr hl)
     rw [hr] at hv
     have HV := Lib.hid hv
     clear hr hn hq hv hl hk h3 h4
     go_enter Tryz.func56, Tryz.ntmps56
     go_wp2_with fail
     have hsp := SpAt.new x w
     refine Calls.mono (HR.out _) ?_
     rintro r2 w2 ⟨A, c, rfl, hnc, hcm, hs, hb2⟩
     have hsp2 := hsp.later hb2
     clear hb2 hsp
     obtain ⟨hon, d0, d1, hlt⟩ := hsp2
     go_wp2_with fail
     go_ret2
     rw [HV.out]
     exact ⟨rfl, hon⟩
 · have hk0 : (k != 0) = true := by simp [hk]
   have hv := speltP_bad hn hq (.inl hk)
   rw [hr] at hv
   have HV := Lib.hid hv
   clear hr hn hq hv hk h3 h4
   go_enter Tryz.func56, Tryz.ntmps56
   go_wp2_with fail
   have hsp := SpAt.new x w
   refine Calls.mono (HR.out _) ?_
   rintro r2 w2 ⟨A, c, rfl, hnc, hcm, hs, hb2⟩
   have hsp2 := hsp.later hb2
   clear hb2 hsp
   obtain ⟨hon, d0, d1, hlt⟩ := hsp2
   go_wp2_with fail
   go_ret2
   rw [HV.out]
   exact ⟨rfl, hon⟩
set_option maxRecDepth 100000 in
set_option maxHeartbeats 1600000 in
theorem word_spelt (x : Tk) (w : World) (hx : x.s.size ≤ 140737488351232) :
   Calls Tryz.prog 56 #[.agg #[.int .i64 x.kind, .string x.s, .int .i64 x.at_]] w fun e w' => e = .returned (.tuple #[encStr (speltP x).1, .bool (speltP x).2]) ∧ Below w.heap.size w w' := by
 by_cases h3 : x.kind = 3
 · by_cases he : textErr x.s.toList = 0
   · exact word_spelt3 x w hx h3 he
   · have t3 : (x.kind == 3) = true := by simp [h3]
     have HQ := Lib.hid (name_Quote x.s)
     have hne : (textErr x.s.toList != 0) = true := by simp [he]
     obtain ⟨r, hr⟩ : ∃ r, speltP x = r := ⟨_, rfl⟩
     have HR : Hid (r = ([], false)) := by show _ = _; rw [← hr, speltP, if_pos ⟨h3, he⟩]
     rw [hr]
     clear hr h3 he
     go_enter Tryz.func56, Tryz.ntmps56
     go_wp2_with fail
     refine (HQ.out _ (by omega)).mono ?_
     rintro e w1 ⟨rfl, hb1⟩
     go_wp2_with fail
     go_ret2
     rw [HR.out]
     exact ⟨rfl, ((Below.refl _ _).alloc (Nat.le_refl _) _).trans (hb1.mono (by simp))⟩
 · by_cases h4 : x.kind = 4
   · exact word_spelt4 x w hx h3 h4
   · exact word_spelt0 x w hx h3 h4
end Go.Proofs.YtbggbcnfkcadjaaGreatDoor
namespace Go.Proofs.YtbggbcnfkcadjaaGreatDoor
open Go.RowKit Go.Sort
theorem all_snoc (p : Tk → Bool) (xs : List Tk) (k : Nat) (x : Tk) (h : (xs.take k).all p = true) (hx : xs[k]? = some x) (hp : p x = true) : (xs.take (k + 1)).all p = true := by
 rw [List.take_add_one, hx, List.all_append, h]; simp [hp]
theorem map_snoc {β : Type} (f : Tk → β) (xs : List Tk) (k : Nat) (x : Tk) (hx : xs[k]? = some x) : (xs.take (k + 1)).map f = (xs.take k).map f ++ [f x] := by
 rw [List.take_add_one, hx]; simp
def sp1 (x : Tk) : List UInt8 := (speltP x).1
def lineC (xs : List Tk) (k : Nat) : List Value := ((xs.take k).map sp1).map encStr
theorem lineC_succ (xs : List Tk) (k : Nat) (x : Tk) (hx : xs[k]? = some x) : lineC xs (k + 1) = lineC xs k ++ [encStr (sp1 x)] := by
 unfold lineC; rw [map_snoc sp1 xs k x hx, List.map_append]; rfl
theorem own_form1 {w : World} {B : Nat} {e : TypeId} {v : Value} {k : Nat} {cs : List Value} (h : w.ownsRow B e 1 v (k + 1) cs) : ∃ g c, v = .slice (some ⟨g, 0, none⟩) (k + 1) c := by
 rcases h.2 with ⟨_, h0⟩ | ⟨g, c, _, hv, _⟩
 · cases h0
 · exact ⟨g, c, hv⟩
set_option maxRecDepth 100000 in
set_option maxHeartbeats 3200000 in
theorem word_Spell (xs : List Tk) (A : Option Addr) (c : Nat) (w : World) (hs : TkSl w w.heap.size A xs) (hl : xs.length ≤ 9223372036854775807) (hz : ∀ x ∈ xs, x.s.size ≤ 140737488351232) :
   Calls Tryz.prog 28 #[.slice A xs.length c] w fun e w' => e = .returned (.tuple #[encStr (spellP xs).1, errV (spellP xs).2]) ∧ Below w.heap.size w w' := by
 obtain ⟨q, hq⟩ : ∃ q, spellP xs = q := ⟨_, rfl⟩
 rw [hq]
 have HS := Lib.hid hs
 have HZ := Lib.hid hz
 clear hs hz
 by_cases h3 : 300 < xs.length
 · have HQ : Hid (q = ([], 4)) := by show _ = _; rw [← hq, spellP, if_pos h3]
   clear hq
   go_enter Tryz.func28, Tryz.ntmps28
   go_wp2_with fail
   go_ret2
   rw [HQ.out]
   exact ⟨rfl, Below.refl _ _⟩
 · obtain ⟨i0, hi, hz0, hz1, hz2⟩ := info_parts string_infoQ
   go_enter Tryz.func28, Tryz.ntmps28
   have HQ := Lib.hid hq
   clear hq
   go_wp2_with fail
   go_loopw [4, 16] (fun vv ii wr => ∃ (k : Nat) (A2 : Option Addr) (c2 : Nat), ii = .int .i64 k ∧ vv = .slice A2 k c2 ∧ k ≤ xs.length ∧ Hid (wr.ownsRow w.heap.size 9 1 (.slice A2 k c2) k (lineC xs k)) ∧ Hid ((xs.take k).all (fun x => (speltP x).2) = true) ∧ Below w.heap.size w wr) (fun _ ii _ => xs.length - (intOf ii).toNat)
   case atStart => exact ⟨0, none, 0, rfl, rfl, by omega, World.ownsRow_nil _ _ _ _, by simp [Hid], Below.refl _ _⟩
   case round =>
     obtain ⟨k, A2, c2, rfl, rfl, hk, HO, HA, hb⟩ := hrel
     by_cases hlt : k < xs.length
     · obtain ⟨x, hx⟩ : ∃ x, xs[k]? = some x := ⟨_, List.getElem?_eq_getElem hlt⟩
       obtain ⟨b, o, rfl, hbb, ⟨d0, d1, d2⟩⟩ := tkSl_at (HS.out.below hb) hx
       have hsz := hb.size
       have hxz := HZ.out x (List.mem_of_getElem? hx)
       have HX := Lib.hid hx
       clear hx
       obtain ⟨r, hr⟩ : ∃ r, speltP x = r := ⟨_, rfl⟩
       have HP := Lib.hid (fun W => word_spelt x W hxz)
       rw [hr] at HP
       obtain ⟨tx, is⟩ := r
       have HR := Lib.hid hr
       clear hr
       cases is with
       | false =>
         go_wp2_with fail
         refine (HP.out _).mono ?_
         rintro e w1 ⟨rfl, hb1⟩
         go_wp2_with fail
         go_ret2
         have hq : q = ([], 1) := by
           rw [← HQ.out, spellP, if_neg h3, if_pos]
           rw [← Bool.not_eq_true, List.all_eq_true]
           intro h
           have := h x (List.mem_of_getElem? HX.out)
           rw [HR.out] at this
           cases this
         rw [hq]
         exact ⟨rfl, (hb.alloc hsz _).trans (hb1.mono (by simp; omega))⟩
       | true =>
         go_wp2_with fail
         refine (HP.out _).mono ?_
         rintro e w1 ⟨rfl, hb1⟩
         have hbw1 : Below w.heap.size w w1 := (hb.alloc hsz _).trans (hb1.mono (by simp; omega))
         have HO1 : Hid (w1.ownsRow w.heap.size 9 1 (.slice A2 k c2) k (lineC xs k)) := own_keep (HO.out.alloc _) hb1
         have hsz1 := hbw1.size
         clear hb1
         go_wp2_with (at_builtin; refine wpList_append_own _ rfl (.tmp 28) (.tmp 30) 44 rfl w.heap.size 9 i0 _ 1 16 Tryz.underlying44 hi hz0 hz1 hz2 rfl (by omega) (.slice A2 k c2) k (lineC xs k) rfl (HO1.out.alloc _) ⟨w1.heap.size, 0, none⟩ 1 1 [encStr tx] rfl rfl (new_one _ _ _ _ (by simp)) (by intro u hu; simp at hu; subst hu; rfl) (by unfold maxLen; omega) (by omega) (by simp; omega) ?_)
         intro v1 w2 hown2 hgrow2 _
         have hown3 : w2.ownsRow w.heap.size 9 1 v1 (k + 1) (lineC xs (k + 1)) := by
           rw [lineC_succ xs k x HX.out]
           have e : sp1 x = tx := by unfold sp1; rw [HR.out]
           rw [e]; exact hown2
         obtain ⟨g3, c3, rfl⟩ := own_form1 hown2
         have hb2 : Below w.heap.size w w2 := (hbw1.alloc hsz1 _).grown hgrow2 (by simp; omega) (fun g hg => (HO1.out.lt g hg).1)
         clear hown2 hgrow2
         have HO3 := Lib.hid hown3
         clear hown3
         go_wp2_with fail
         exact ⟨⟨k + 1, some ⟨g3, 0, none⟩, c3, by go_num, rfl, by omega, HO3, all_snoc _ _ _ _ HA.out HX.out (by rw [HR.out]), hb2⟩, by simp [intOf]; omega⟩
     · have hks : k = xs.length := by omega
       subst hks
       have hall : xs.all (fun x => (speltP x).2) = true := by have := HA.out; rwa [List.take_of_length_le (Nat.le_refl _)] at this
       obtain ⟨J, hJ⟩ : ∃ J, joinP (xs.map sp1) = J := ⟨_, rfl⟩
       have hJl : J.length ≤ 300 * 901 := by
         rw [← hJ]
         have h := joinP_len 900 (xs.map sp1) (fun l hl => by obtain ⟨x, _, rfl⟩ := List.mem_map.1 hl; exact speltP_len x)
         rw [List.length_map] at h
         exact Nat.le_trans h (Nat.mul_le_mul_right _ (by omega))
       have hqv : q = if 900 < J.length then ([], 4) else (J, 0) := by
         rw [← HQ.out, spellP, if_neg h3, if_neg (by rw [hall]; simp), ← hJ]; rfl
       have hC : Calls Tryz.prog 57 #[.slice A2 xs.length c2, .string ⟨#[32]⟩] wr fun e w' => e = .returned (.string (bsOf J)) ∧ Below wr.heap.size wr w' := by
         by_cases h0 : xs.length = 0
         · have hn : xs = [] := List.eq_nil_of_length_eq_zero h0
           subst hn
           refine (Tryz.strings_Join_none A2 c2 ⟨#[32]⟩ wr).mono ?_
           rintro e w' ⟨rfl, rfl⟩
           rw [← hJ]
           exact ⟨rfl, Below.refl _ _⟩
         · rcases HO.out.2 with ⟨_, h⟩ | ⟨g, cap, cur, hv, hg1, hg2, hg3, hg4, hg5, hg6⟩
           · exact absurd h h0
           · injection hv with e1 e2 e3
             subst e1 e3
             have hcl := HO.out.cells (g := g) rfl
             have hln : ((xs.map sp1).map bsOf).length = xs.length := by simp
             have hjj : (Lib.join (((xs.map sp1).map bsOf).map (·.data.toList)) (⟨#[32]⟩ : ByteArray).data.toList) = J := by
               rw [← hJ, List.map_map]
               have : ((fun x : ByteArray => x.data.toList) ∘ bsOf) = id := by funext l; rfl
               rw [this, List.map_id]; rfl
             have h := Tryz.strings_Join g 0 c2 ((xs.map sp1).map bsOf) ⟨#[32]⟩ wr (fun j x hx => by
               have := hcl j (.string x) (by
                 unfold lineC
                 rw [List.take_of_length_le (Nat.le_refl _), List.getElem?_map, List.getElem?_map]
                 rw [List.getElem?_map, List.getElem?_map] at hx
                 cases hxj : xs[j]? with
                 | none => rw [hxj] at hx; cases hx
                 | some y => rw [hxj] at hx; simp only [Option.map_some, Option.some.injEq] at hx ⊢; rw [← hx]; rfl)
               rw [add_none] at this
               exact this) (Array.getElem?_eq_some_iff.1 hg2).1 (by rw [hln]; omega) (by rw [hln]; exact hg3) (by rw [hjj]; omega)
             rw [hjj, hln] at h
             exact h
       have HC := Lib.hid hC
       have HQV := Lib.hid hqv
       have hJz : (bsOf J).size ≤ 300 * 901 := by rw [bsOf_size]; exact hJl
       have HJ2 : Hid ((bsOf J).size = J.length) := bsOf_size J
       clear hC hqv hJ hall HO
       by_cases h9 : 900 < (bsOf J).size
       · go_wp2_with fail
         refine (HC.out).mono ?_
         rintro e w' ⟨rfl, hb9⟩
         go_wp2_with fail
         go_ret2
         rw [HQV.out, if_pos (by rw [← HJ2.out]; exact h9)]
         exact ⟨rfl, hb.trans (hb9.mono hb.size)⟩
       · go_wp2_with fail
         refine (HC.out).mono ?_
         rintro e w' ⟨rfl, hb9⟩
         go_wp2_with fail
         go_ret2
         rw [HQV.out, if_neg (by rw [← HJ2.out]; exact h9)]
         exact ⟨rfl, hb.trans (hb9.mono hb.size)⟩
end Go.Proofs.YtbggbcnfkcadjaaGreatDoor
namespace Go.Proofs.YtbggbcnfkcadjaaGreatDoor
set_option maxRecDepth 100000
open Go.RowKit Go.Sort
def parseP (ts : List Tk) : List Nd × Nat × Int :=
 if 300 < ts.length then ([], 0, 4)
 else match ts.findIdx? (fun t => !(speltP t).2) with
 | some i => ([], i, 1)
 | none => match pa (16 * ts.length + 12) .whole ts with
   | .ok e [] => if 200 < e.length then ([], 0, 4) else (e, 0, 0)
   | .ok _ (t :: r) => ([], ts.length - (t :: r).length, 1)
   | .bad k r => ([], ts.length - r.length, k)
def PBack (w : World) (r : Ending) (w' : World) (q : List Nd × Nat × Int) : Prop :=
 ∃ A c, r = .returned (.tuple #[.slice A q.1.length c, .int .i64 q.2.1, errV q.2.2]) ∧ q.1.length ≤ c ∧ c ≤ 9223372036854775807 ∧ NdSl w' w'.heap.size A q.1 ∧ RowKit.Below w.heap.size w w'
theorem PBack.none {w w' : World} {i : Nat} {k : Int} (h : RowKit.Below w.heap.size w w') : PBack w (.returned (.tuple #[.slice none 0 0, .int .i64 i, errV k])) w' ([], i, k) := ⟨Option.none, 0, rfl, Nat.le_refl _, by omega, NdSl.nil _ _ _, h⟩
theorem spell_one (t : Tk) : (spellP [t]).2 = if (speltP t).2 = true then 0 else 1 := by
 unfold spellP
 rw [if_neg (by simp)]
 have hl := speltP_len t
 cases h : (speltP t).2 with
 | false => rw [if_pos (by simp [h]), if_neg (by simp)]
 | true =>
   rw [if_neg (by simp [h]), if_pos rfl, if_neg (by
     rw [List.map_cons, List.map_nil, joinP_one]; omega)]
theorem cut_tok (b o n c k : Nat) (hk : k < n) (hn : n ≤ c) (W : World) : (Instr.slice 23 (.slice (some ⟨b, o, none⟩) n c) (some (.int .i64 (k : Int))) (some (.int .i64 ((k : Int) + 1))) none).run Tryz.prog W = .ok (.slice (some ⟨b, o + k * 3, none⟩) 1 (c - k)) W := by
 have h1 : k + 1 ≤ c := by omega
 have h2 : k < c := by omega
 have h3 : k + 1 - k = 1 := by omega
 go_simp
 rw [if_pos ⟨by omega, by omega⟩, if_neg (by omega)]
theorem tkSl_one {w : World} {B b o : Nat} {xs : List Tk} (h : TkSl w B (some ⟨b, o, none⟩) xs) {k : Nat} {t : Tk} (ht : xs[k]? = some t) : TkSl w B (some ⟨b, o + k * 3, none⟩) [t] := fun _ => by
 obtain ⟨b', o', e, hb, hc⟩ := h.at_ (List.getElem?_eq_some_iff.1 ht).1
 injection e with e; injection e with e1 e2; subst e1 e2
 refine ⟨b, o + k * 3, rfl, hb, fun i x hx => ?_⟩
 obtain rfl : i = 0 := by have := (List.getElem?_eq_some_iff.1 hx).1; simp at this; exact this
 simp at hx; subst hx
 simpa using hc k t ht
structure R3 (w W : World) (a b c : Value) : Prop where
 ex : Blk W w.heap.size 22 #[a]
 at_ : Blk W (w.heap.size + 1) 3 #[b]
 er : Blk W (w.heap.size + 1 + 1) 25 #[c]
 on : RowKit.Below w.heap.size w W
theorem R3.sz {w W : World} {a b c : Value} (h : R3 w W a b c) : w.heap.size + 3 ≤ W.heap.size := h.er.lt
theorem R3.below {w W W' : World} {a b c : Value} (h : R3 w W a b c) (hb : RowKit.Below W.heap.size W W') : R3 w W' a b c := by
 have := h.sz
 exact ⟨h.ex.below hb (by omega), h.at_.below hb (by omega), h.er.below hb (by omega), h.on.trans (hb.mono (by omega))⟩
theorem R3.only {w W W' : World} {a b c : Value} {pb : Nat} (h : R3 w W a b c) (ho : Only W.heap.size pb W W') (hp : w.heap.size + 3 ≤ pb) : R3 w W' a b c := by
 have := h.sz
 exact ⟨h.ex.only ho (by omega) (by omega), h.at_.only ho (by omega) (by omega), h.er.only ho (by omega) (by omega), h.on.trans (ho.below (by omega) (by omega))⟩
theorem R3.set0 {w W : World} {a b c : Value} (h : R3 w W a b c) (v : Value) : R3 w (W.setCell ⟨w.heap.size, 0, none⟩ v) v b c :=
 ⟨h.ex.set 0 v, h.at_.far (by simp) v, h.er.far (by simp; omega) v, h.on.setCell (Nat.le_refl _) _⟩
theorem R3.set1 {w W : World} {a b c : Value} (h : R3 w W a b c) (v : Value) : R3 w (W.setCell ⟨w.heap.size + 1, 0, none⟩ v) a v c :=
 ⟨h.ex.far (by simp) v, h.at_.set 0 v, h.er.far (by simp) v, h.on.setCell (p := ⟨w.heap.size + 1, 0, none⟩) (Nat.le_succ _) _⟩
theorem R3.set2 {w W : World} {a b c : Value} (h : R3 w W a b c) (v : Value) : R3 w (W.setCell ⟨w.heap.size + 1 + 1, 0, none⟩ v) a b v :=
 ⟨h.ex.far (by simp; omega) v, h.at_.far (by simp) v, h.er.set 0 v, h.on.setCell (p := ⟨w.heap.size + 1 + 1, 0, none⟩) (by simp; omega) _⟩
theorem R3.set {w W : World} {a b c : Value} (h : R3 w W a b c) (x y z : Value) : R3 w (((W.setCell ⟨w.heap.size, 0, none⟩ x).setCell ⟨w.heap.size + 1, 0, none⟩ y).setCell ⟨w.heap.size + 1 + 1, 0, none⟩ z) x y z := ((h.set0 x).set1 y).set2 z
theorem R3.new (w : World) : R3 w (((w.alloc (.cells #[.slice none 0 0] 22)).alloc (.cells #[.int .i64 0] 3)).alloc (.cells #[.nilIface] 25)) (.slice none 0 0) (.int .i64 0) .nilIface := by
 have b0 : Blk (((w.alloc (.cells #[.slice none 0 0] 22)).alloc (.cells #[.int .i64 0] 3)).alloc (.cells #[.nilIface] 25)) w.heap.size 22 #[.slice none 0 0] := ((Blk.new w _ _).alloc _).alloc _
 have b1 := (Blk.new (w.alloc (.cells #[.slice none 0 0] 22)) 3 #[.int .i64 0]).alloc (.cells #[.nilIface] 25)
 have b2 := Blk.new ((w.alloc (.cells #[.slice none 0 0] 22)).alloc (.cells #[.int .i64 0] 3)) 25 #[.nilIface]
 simp only [World.size_alloc] at b1 b2
 exact ⟨b0, b1, b2, by (repeat (first | assumption | exact Below.refl _ _ | apply Below.drew | apply below_drewN | (refine Below.alloc ?_ (by first | exact Nat.le_refl _ | omega | (simp; done) | (simp; omega)) _)))⟩
theorem Exm.cellset {B : Nat} {W : World} {m : NsM} (h : Exm B W m) {g : Nat} (hg : g < B) (v : Value) : Exm B (W.setCell ⟨g, 0, none⟩ v) m :=
 h.only ((Only.refl W.heap.size g W).setCell (p := ⟨g, 0, none⟩) (.inl rfl) v) (Nat.le_refl _) hg
theorem Exm.set3 {B : Nat} {w W : World} {m : NsM} (h : Exm B W m) (hg : w.heap.size + 3 ≤ B) (x y z : Value) : Exm B (((W.setCell ⟨w.heap.size, 0, none⟩ x).setCell ⟨w.heap.size + 1, 0, none⟩ y).setCell ⟨w.heap.size + 1 + 1, 0, none⟩ z) m :=
 ((h.cellset (by omega) x).cellset (by omega) y).cellset (by omega) z
set_option maxHeartbeats 1600000 in
theorem parse_big (ts : List Tk) (A : Option Addr) (c : Nat) (w : World) (h : 300 < ts.length) (hm : ts.length ≤ 9223372036854775807) :
   Calls Tryz.prog 16 #[.slice A ts.length c] w fun r w' => PBack w r w' (parseP ts) := by
 have hv : parseP ts = ([], 0, 4) := by unfold parseP; rw [if_pos h]
 rw [hv]
 clear hv
 have hmf : ∀ (fn : Fn) (first cap : Array Value) (w : World), (Instr.makeFunc fn first cap).run Tryz.prog w = .ok (.func fn first cap) w := fun _ _ _ _ => rfl
 go_enter_defers Tryz.func16, Tryz.ntmps16
 go_wp2
 simp [bodyPostD, Leaves, results, Tryz.results16, go_sem]
 exact PBack.none (k := 4) (by (repeat (first | assumption | exact Below.refl _ _ | apply Below.drew | apply below_drewN | (refine Below.alloc ?_ (by first | exact Nat.le_refl _ | omega | (simp; done) | (simp; omega)) _))))
set_option maxHeartbeats 12800000 in
theorem parse_go (ts : List Tk) (A : Option Addr) (c : Nat) (w : World) (h : ¬ 300 < ts.length) (hc : ts.length ≤ c) (hcm : c ≤ 9223372036854775807) (hsl : TkSl w w.heap.size A ts) (hz : ∀ x ∈ ts, x.s.size ≤ 140737488351232) (hgl : GlC w) (hng : 9 ≤ w.heap.size) :
   Calls Tryz.prog 16 #[.slice A ts.length c] w fun r w' => PBack w r w' (parseP ts) := by
 have hmf : ∀ (fn : Fn) (first cap : Array Value) (w : World), (Instr.makeFunc fn first cap).run Tryz.prog w = .ok (.func fn first cap) w := fun _ _ _ _ => rfl
 obtain ⟨q, hq⟩ : ∃ q, parseP ts = q := ⟨_, rfl⟩
 rw [hq]
 unfold parseP at hq
 rw [if_neg h] at hq
 have HQ := Lib.hid hq
 have HS := Lib.hid hsl
 have HZ := Lib.hid hz
 have HGL := Lib.hid hgl
 have hl300 : ts.length ≤ 300 := by omega
 have h300 : ¬ (300 : Int) < (ts.length : Int) := by omega
 have HR0 := Lib.hid (R3.new w)
 clear hq hsl hz hgl h
 go_enter_defers Tryz.func16, Tryz.ntmps16
 go_wp2_with fail
 go_loopw [15] (fun kk wr => ∃ k : Nat, kk = .int .i64 k ∧ k ≤ ts.length ∧ Hid (∀ t ∈ ts.take k, (speltP t).2 = true) ∧ Hid (R3 w wr (.slice none 0 0) (.int .i64 0) .nilIface)) (fun kk _ => ts.length - (intOf kk).toNat)
 case atStart => exact ⟨0, rfl, Nat.zero_le _, (fun t ht => by simp at ht), HR0.out⟩
 case round =>
   obtain ⟨k, rfl, hk, HP, HR⟩ := hrel
   have hsz := HR.out.sz
   by_cases hlt : k < ts.length
   · obtain ⟨t, ht⟩ : ∃ t, ts[k]? = some t := ⟨_, List.getElem?_eq_getElem hlt⟩
     obtain ⟨b, o, rfl, hb, -⟩ := tkSl_at HS.out ht
     have hcut := cut_tok b o ts.length c k hlt hc
     have HT := Lib.hid ht
     have hts : TkSl wr wr.heap.size (some ⟨b, o + k * 3, none⟩) [t] := (tkSl_one (HS.out.below HR.out.on) ht).more (by omega)
     have HSP := Lib.hid (word_Spell [t] (some ⟨b, o + k * 3, none⟩) (c - k) wr hts (by simp) (fun x hx => by rw [List.mem_singleton] at hx; subst hx; exact HZ.out x (List.mem_of_getElem? ht)))
     have i64k : IntKind.wrap .i64 ((k : Int) + 1) = (k : Int) + 1 := IntWalk.i64_in _ (by omega)
     obtain ⟨u, hu⟩ : ∃ u, spellP [t] = u := ⟨_, rfl⟩
     rw [hu] at HSP
     have h2 := spell_one t
     rw [hu] at h2
     obtain ⟨u1, u2⟩ := u
     simp only at h2
     have HU := Lib.hid h2
     clear ht hts hu h2
     by_cases hs : (speltP t).2 = true
     · have hu2 : u2 = 0 := by rw [HU.out, if_pos hs]
       subst hu2
       have HP2 : Hid (∀ t ∈ ts.take (k + 1), (speltP t).2 = true) := fun x hx => by
         rw [List.take_add_one, HT.out] at hx
         rcases List.mem_append.1 hx with hx | hx
         · exact HP.out x hx
         · simp at hx; subst hx; exact hs
       clear hs HU
       go_wp2_with fail
       refine HSP.out.mono ?_
       rintro r w1 ⟨rfl, hb1⟩
       have HR1 := Lib.hid (HR.out.below hb1)
       clear hb1
       go_wp2_with fail
       exact ⟨⟨k + 1, by go_num, by omega, HP2, HR1⟩, by simp [intOf]; omega⟩
     · have hu2 : u2 = 1 := by rw [HU.out, if_neg hs]
       subst hu2
       have hfi : ts.findIdx? (fun t => !(speltP t).2) = some k := by
         rw [List.findIdx?_eq_some_iff_getElem]
         refine ⟨hlt, ?_, fun j hj => ?_⟩
         · have := HT.out
           rw [List.getElem?_eq_getElem hlt] at this
           injection this with this
           rw [this]; simpa using hs
         · have := HP.out ts[j] (by
             rw [List.mem_take_iff_getElem]
             exact ⟨j, by omega, rfl⟩)
           simp [this]
       have hqq : q = ([], k, 1) := by rw [← HQ.out, hfi]
       have HQQ := Lib.hid hqq
       clear hs HU hfi hqq
       go_wp2_with fail
       refine HSP.out.mono ?_
       rintro r w1 ⟨rfl, hb1⟩
       have HR1 := Lib.hid (HR.out.below hb1)
       have l1 := HR1.out.sz
       have ce := HR1.out.ex.cell 0
       have ca := HR1.out.at_.cell 0
       have cr := HR1.out.er.cell 0
       have fe := HR1.out.ex.frozen 0
       have fa := HR1.out.at_.frozen 0
       have fr := HR1.out.er.frozen 0
       clear hb1
       go_wp2_with fail
       have HR2 := Lib.hid (HR1.out.set (.slice none 0 0) (.int .i64 k) (.iface 33 (.int .i64 1)))
       generalize ((w1.setCell ⟨w.heap.size, 0, none⟩ (.slice none 0 0)).setCell ⟨w.heap.size + 1, 0, none⟩ (.int .i64 k)).setCell ⟨w.heap.size + 1 + 1, 0, none⟩ (.iface 33 (.int .i64 1)) = w2 at HR2 ⊢
       have de := HR2.out.ex.cell 0
       have da := HR2.out.at_.cell 0
       have dr := HR2.out.er.cell 0
       simp only [List.getElem?_toArray, List.getElem?_cons_zero] at de da dr
       simp [bodyPostD, Leaves, results, Tryz.results16, go_sem, de, da, dr]
       rw [HQQ.out]
       exact PBack.none (i := k) (k := 1) HR2.out.on
   · have hall : ts.findIdx? (fun t => !(speltP t).2) = none := by
       rw [List.findIdx?_eq_none_iff]
       intro x hx
       have := HP.out x (by rw [List.take_of_length_le (by omega)]; exact hx)
       simp [this]
     have htk : ∀ t ∈ ts, TkS t := fun x hx => tkS_of (HP.out x (by rw [List.take_of_length_le (by omega)]; exact hx))
     have hqq := HQ.out
     rw [hall] at hqq
     have hb0 : RowKit.Below wr.heap.size wr (wr.alloc (.cells #[.slice A ts.length c, .int .i64 0] 71)) := by (repeat (first | assumption | exact Below.refl _ _ | apply Below.drew | apply below_drewN | (refine Below.alloc ?_ (by first | exact Nat.le_refl _ | omega | (simp; done) | (simp; omega)) _)))
     have hx : PxIn ⟨wr.heap.size, A, c, ts⟩ (wr.alloc (.cells #[.slice A ts.length c, .int .i64 0] 71)) :=
       ⟨((HS.out.below HR.out.on).more (show w.heap.size ≤ wr.heap.size by omega)).below hb0, hl300, hc, hcm, htk, (HGL.out.later HR.out.on hng).later hb0 (by omega), by show 9 ≤ wr.heap.size; omega⟩
     have hB : PxB ⟨wr.heap.size, A, c, ts⟩ (wr.alloc (.cells #[.slice A ts.length c, .int .i64 0] 71)) 0 := Blk.new wr _ _
     have hnb : ∀ r, pa (16 * ts.length + 12) .whole (ts.drop 0) ≠ .bad 0 r := pa_en (16 * ts.length + 12) ts.length .whole (by have := rank_le .whole; omega) ts (Nat.le_refl _)
     have hcall := (all_does ⟨wr.heap.size, A, c, ts⟩ (16 * ts.length + 12)).wh _ 0 hx hB (Nat.zero_le _) hnb
     have HC := Lib.hid hcall
     have HR1 := Lib.hid (HR.out.below hb0)
     have HB := Lib.hid hB
     have HNB := Lib.hid hnb
     have hpb : wr.heap.size < (wr.alloc (.cells #[.slice A ts.length c, .int .i64 0] 71)).heap.size := by simp
     have HQ1 : Hid ((match pa (16 * ts.length + 12) .whole (ts.drop 0) with
       | .ok e [] => if 200 < e.length then ([], 0, 4) else (e, 0, 0)
       | .ok _ (t :: r) => ([], ts.length - (t :: r).length, 1)
       | .bad k r => ([], ts.length - r.length, k)) = q) := hqq
     clear hx hB hnb hcall hall htk hqq hb0 HP HR
     go_wp2_with fail
     generalize wr.alloc (.cells #[.slice A ts.length c, .int .i64 0] 71) = w1 at HC HR1 HB hpb ⊢
     generalize hpq : pa (16 * ts.length + 12) .whole (ts.drop 0) = pq at HC HNB HQ1
     clear hpq
     refine HC.out.mono ?_
     rintro r w2 ⟨ho2, hm⟩
     have ho2' : Only w1.heap.size wr.heap.size w1 w2 := ho2
     have HR2 := Lib.hid (HR1.out.only ho2' (by omega))
     cases pq with
     | bad k rest =>
       obtain ⟨j, rfl, hrest, hj⟩ := hm
       have hj : j ≤ ts.length := hj
       have hqq : q = ([], j, k) := by
         rw [← HQ1.out]
         show ([], ts.length - rest.length, k) = _
         rw [hrest]
         show ([], ts.length - (ts.drop j).length, k) = _
         rw [List.length_drop, show ts.length - (ts.length - j) = j from by omega]
       have HK0 : ¬ k = 0 := fun e => HNB.out rest (by rw [e])
       clear ho2 hrest hj HC
       go_wp2_with fail
       refine leaves_cons (f := 29) (args := #[.pointer (some ⟨w.heap.size, 0, none⟩), .pointer (some ⟨w.heap.size + 1, 0, none⟩), .pointer (some ⟨w.heap.size + 1 + 1, 0, none⟩)]) (by simp) (by simp [go_sem]) ?_
       refine (parse_catch w.heap.size _ _ _ k j [] _ HR2.out.ex HR2.out.at_ HR2.out.er).mono ?_
       rintro e' u' w'' ⟨rfl, rfl, hc0, hc1, hc2, hbw⟩
       simp [Leaves, settle, results, Tryz.results16, go_sem, hc0, hc1, hc2]
       rw [hqq]
       have := PBack.none (w := w) (i := j) (k := k) (HR2.out.on.trans hbw)
       rwa [errV_pos HK0] at this
     | ok e rest =>
       obtain ⟨A2, c2, j, rfl, hE, hrest, hj, hB2⟩ := hm
       have hj : j ≤ ts.length := hj
       have hrest : rest = ts.drop j := hrest
       have HE2 := Lib.hid hE
       have HB2 := Lib.hid hB2
       have ce := HR2.out.ex.cell 0
       have fe := HR2.out.ex.frozen 0
       have l2 := HR2.out.sz
       have kp : w2.cell? ⟨wr.heap.size, 1, none⟩ = some (.int .i64 j) := HB2.out.cell 1
       have lp : wr.heap.size < w2.heap.size := Blk.lt hB2
       have hne : ¬ wr.heap.size = w.heap.size := by omega
       have hne' : ¬ w.heap.size = wr.heap.size := by omega
       have HR3 := Lib.hid (HR2.out.set0 (.slice A2 e.length c2))
       have HB3 : Hid (PxB ⟨wr.heap.size, A, c, ts⟩ (w2.setCell ⟨w.heap.size, 0, none⟩ (.slice A2 e.length c2)) j) := Blk.far HB2.out (by show wr.heap.size ≠ w.heap.size; omega) _
       have hz12 : w.heap.size + 3 ≤ w1.heap.size := HR1.out.sz
       have HE3 := Lib.hid (HE2.out.cellset (g := w.heap.size) (by omega) (.slice A2 e.length c2))
       clear ho2 ho2' hE hB2 HC
       by_cases hjn : j < ts.length
       · have tj : decide ((j : Int) < (ts.length : Int)) = true := by simp; omega
         have hqq : q = ([], j, 1) := by
           rw [← HQ1.out, hrest]
           obtain ⟨t, ht⟩ : ∃ t, ts[j]? = some t := ⟨_, List.getElem?_eq_getElem hjn⟩
           rw [drop_cons ht]
           show ([], ts.length - (t :: ts.drop (j + 1)).length, (1 : Int)) = _
           rw [← drop_cons ht, List.length_drop, show ts.length - (ts.length - j) = j from by omega]
         have HF := Lib.hid (ph_fail ⟨wr.heap.size, A, c, ts⟩ j _ HB3.out)
         clear hrest
         go_wp2_with fail
         refine HF.out.mono ?_
         rintro r w4 ⟨rfl, rfl⟩
         go_wp2_with fail
         refine leaves_cons (f := 29) (args := #[.pointer (some ⟨w.heap.size, 0, none⟩), .pointer (some ⟨w.heap.size + 1, 0, none⟩), .pointer (some ⟨w.heap.size + 1 + 1, 0, none⟩)]) (by simp) (by simp [go_sem]) ?_
         refine (parse_catch w.heap.size _ _ _ 1 j [] _ HR3.out.ex HR3.out.at_ HR3.out.er).mono ?_
         rintro e' u' w'' ⟨rfl, rfl, hc0, hc1, hc2, hbw⟩
         simp [Leaves, settle, results, Tryz.results16, go_sem, hc0, hc1, hc2]
         rw [hqq]
         exact PBack.none (w := w) (i := j) (k := 1) (HR3.out.on.trans hbw)
       · have tj : decide ((j : Int) < (ts.length : Int)) = false := by simp; omega
         have hrn : rest = [] := by rw [hrest]; exact List.drop_eq_nil_of_le (by omega)
         have hqq : (if 200 < e.length then ([], 0, 4) else (e, 0, 0)) = q := by rw [← HQ1.out, hrn]
         have ca := HR2.out.at_.cell 0
         have fa := HR2.out.at_.frozen 0
         have cr := HR2.out.er.cell 0
         have fr := HR2.out.er.frozen 0
         clear hrest hrn
         by_cases h200 : 200 < e.length
         · have t200 : (200 : Int) < (e.length : Int) := by omega
           rw [if_pos h200] at hqq
           have HQQ := Lib.hid hqq
           clear hqq h200
           go_wp2_with fail
           have HR4 := Lib.hid (HR3.out.set (.slice none 0 0) (.int .i64 0) (.iface 33 (.int .i64 4)))
           generalize (((w2.setCell ⟨w.heap.size, 0, none⟩ (.slice A2 e.length c2)).setCell ⟨w.heap.size, 0, none⟩ (.slice none 0 0)).setCell ⟨w.heap.size + 1, 0, none⟩ (.int .i64 0)).setCell ⟨w.heap.size + 1 + 1, 0, none⟩ (.iface 33 (.int .i64 4)) = w4 at HR4 ⊢
           have de := HR4.out.ex.cell 0
           have da := HR4.out.at_.cell 0
           have dr := HR4.out.er.cell 0
           simp only [List.getElem?_toArray, List.getElem?_cons_zero] at de da dr
           refine leaves_cons (f := 29) (args := #[.pointer (some ⟨w.heap.size, 0, none⟩), .pointer (some ⟨w.heap.size + 1, 0, none⟩), .pointer (some ⟨w.heap.size + 1 + 1, 0, none⟩)]) (by simp) (by simp [go_sem]) ?_
           refine (parse_idle ⟨w.heap.size, 0, none⟩ ⟨w.heap.size + 1, 0, none⟩ ⟨w.heap.size + 1 + 1, 0, none⟩ _).mono ?_
           rintro e' u' w'' ⟨rfl, rfl, rfl⟩
           simp [Leaves, settle, results, Tryz.results16, go_sem, de, da, dr]
           rw [← HQQ.out]
           exact PBack.none (i := 0) (k := 4) HR4.out.on
         · have t200 : ¬ (200 : Int) < (e.length : Int) := by omega
           rw [if_neg h200] at hqq
           have HQQ := Lib.hid hqq
           clear hqq h200
           go_wp2_with fail
           have HR4 := Lib.hid (HR3.out.set (.slice A2 e.length c2) (.int .i64 0) .nilIface)
           have HE4 := Lib.hid (HE3.out.set3 (w := w) hz12 (.slice A2 e.length c2) (.int .i64 0) .nilIface)
           generalize (((w2.setCell ⟨w.heap.size, 0, none⟩ (.slice A2 e.length c2)).setCell ⟨w.heap.size, 0, none⟩ (.slice A2 e.length c2)).setCell ⟨w.heap.size + 1, 0, none⟩ (.int .i64 0)).setCell ⟨w.heap.size + 1 + 1, 0, none⟩ .nilIface = w4 at HR4 HE4 ⊢
           have de := HR4.out.ex.cell 0
           have da := HR4.out.at_.cell 0
           have dr := HR4.out.er.cell 0
           simp only [List.getElem?_toArray, List.getElem?_cons_zero] at de da dr
           refine leaves_cons (f := 29) (args := #[.pointer (some ⟨w.heap.size, 0, none⟩), .pointer (some ⟨w.heap.size + 1, 0, none⟩), .pointer (some ⟨w.heap.size + 1 + 1, 0, none⟩)]) (by simp) (by simp [go_sem]) ?_
           refine (parse_idle ⟨w.heap.size, 0, none⟩ ⟨w.heap.size + 1, 0, none⟩ ⟨w.heap.size + 1 + 1, 0, none⟩ _).mono ?_
           rintro e' u' w'' ⟨rfl, rfl, rfl⟩
           simp [Leaves, settle, results, Tryz.results16, go_sem, de, da, dr]
           rw [← HQQ.out]
           exact ⟨A2, c2, rfl, HE4.out.good.le, HE4.out.good.max, HE4.out.good.sl, HR4.out.on⟩
theorem phrase_Parse (ts : List Tk) (A : Option Addr) (c : Nat) (w : World) (hc : ts.length ≤ c) (hcm : c ≤ 9223372036854775807) (hsl : TkSl w w.heap.size A ts) (hz : ∀ x ∈ ts, x.s.size ≤ 140737488351232) (hgl : GlC w) (hng : 9 ≤ w.heap.size) :
   Calls Tryz.prog 16 #[.slice A ts.length c] w fun r w' => PBack w r w' (parseP ts) := by
 by_cases h : 300 < ts.length
 · exact parse_big ts A c w h (by omega)
 · exact parse_go ts A c w h hc hcm hsl hz hgl hng
end Go.Proofs.YtbggbcnfkcadjaaGreatDoor
