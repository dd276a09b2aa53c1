/-
  THE WALKS: the printer of words: negative, atom, list.
  THE WALKS: the printer of words: list.
-/
import Derived.Test.YtbggbcnfkcadjaaGreatDoorPf10
namespace Go.Proofs.YtbggbcnfkcadjaaGreatDoor
set_option maxRecDepth 100000
open Go.RowKit Go.Sort
theorem On.below {pb : Nat} {W0 : World} {v0 : Value} {W W' : World} {S : Qs} {e : List Nd} {ts : List Tk} (h : On pb W0 v0 W S e ts) (hb : RowKit.Below W.heap.size W W') : On pb W0 v0 W' S e ts := ⟨h.pt.below hb, h.fr.trans (Fr.of_below hb _)⟩
theorem Pt.at_ {pb : Nat} {W : World} {S : Qs} {e : List Nd} {ts : List Tk} (h : Pt pb W S e ts) {k : Nat} {m : Nd} (hk : e[k]? = some m) : NdAt W S.b (S.o + k * 4) m := by
 obtain ⟨b, o, e1, -, hc⟩ := h.sl (by rintro rfl; simp at hk)
 injection e1 with e1
 injection e1 with e1 e2
 subst e1 e2
 exact hc k m hk
theorem Pt.e0 {pb : Nat} {W : World} {S : Qs} {e : List Nd} {ts : List Tk} {L : Nat} (h : Pt pb W S e ts) (hL : e.length = L) : W.cell? ⟨pb, 0, none⟩ = some (.slice (some ⟨S.b, S.o, none⟩) L S.c) := by have := h.blk.cell 0; rw [hL] at this; exact this
structure FirstAt (a : List Nd) (k : Nat) (m : Nd) : Prop where
 at_ : a[k]? = some m
 hi : lvlW m.op ≠ 7
 lo : ∀ j y, j < k → a[j]? = some y → lvlW y.op = 7
theorem FirstAt.first : ∀ {a : List Nd} {k : Nat} {m : Nd}, FirstAt a k m → firstN a = (m.op == 2 && decide (0 ≤ m.n))
 | [], _, _, h => by have := h.at_; simp at this
 | n :: a, 0, m, h => by
   have h1 := h.at_
   simp at h1
   subst h1
   show (if lvlW n.op = 7 then _ else _) = _
   rw [if_neg h.hi]
 | n :: a, k + 1, m, h => by
   show (if lvlW n.op = 7 then firstN a else _) = _
   rw [if_pos (h.lo 0 n (by omega) rfl)]
   exact FirstAt.first (a := a) (k := k) ⟨by have := h.at_; simpa using this, h.hi, fun j y hj hy => h.lo (j + 1) y (by omega) (by simpa using hy)⟩
theorem first_ex : ∀ {a : List Nd}, (∃ m ∈ a, lvlW m.op ≠ 7) → ∃ k m, FirstAt a k m
 | [], h => by obtain ⟨m, hm, -⟩ := h; cases hm
 | n :: a, h => by
   by_cases hn : lvlW n.op = 7
   · obtain ⟨m, hm, h7⟩ := h
     have : ∃ m ∈ a, lvlW m.op ≠ 7 := by
       rcases List.mem_cons.1 hm with rfl | hm
       · exact absurd hn h7
       · exact ⟨m, hm, h7⟩
     obtain ⟨k, m, hk⟩ := first_ex this
     exact ⟨k + 1, m, by have := hk.at_; simpa using this, hk.hi, fun j y hj hy => by
       cases j with
       | zero => simp at hy; subst hy; exact hn
       | succ j => exact hk.lo j y (by omega) (by simpa using hy)⟩
   · exact ⟨0, n, rfl, hn, fun j y hj => by omega⟩
theorem nd_at1 (b o n c k : Nat) (hk : k < n) (W : World) : (Instr.indexAt 22 (.slice (some ⟨b, o, none⟩) n c) (.int .i64 (k : Int))).run Tryz.prog W = .ok (.pointer (some ⟨b, o + k * 4, none⟩)) W := by
 go_simp
set_option maxHeartbeats 6400000 in
theorem pr_negative (pb : Nat) (a : List Nd) (k : Nat) (m : Nd) (hf : FirstAt a k m) (h9 : PartOk' pb 9 a) (h6 : PartOk' pb 6 a) : Prints pb 45 a (tSg [45] :: partT (if firstN a = true then 9 else 6) a) := by
 intro W S r ts vs hP hlen hv
 have hfr := hf.first
 have hka : k < a.length := (List.getElem?_eq_some_iff.1 hf.at_).1
 have hkr : (a ++ r)[k]? = some m := by rw [List.getElem?_append_left hka]; exact hf.at_
 have hlo : ∀ j y, j < k → (a ++ r)[j]? = some y → lvlW y.op = 7 := fun j y hj hy => hf.lo j y hj (by rwa [List.getElem?_append_left (by omega)] at hy)
 have hle := hP.le
 have hmx := hP.mx
 obtain ⟨L, hL⟩ : ∃ L, (a ++ r).length = L := ⟨_, rfl⟩
 have hkL : k < L := by rw [← hL]; simp; omega
 have HL := Lib.hid hL
 have HLO := Lib.hid hlo
 have HK := Lib.hid hkr
 have H0 := Lib.hid (On.start hP)
 have HFR := Lib.hid hfr
 have HV := Lib.hid hv
 have HHI := Lib.hid hf.hi
 have H9 := Lib.hid h9
 have H6 := Lib.hid h6
 have hl64 : L ≤ 9223372036854775807 := by omega
 have HLEN := Lib.hid hlen
 have hlen1 : ts.length ≤ 1000000 := by omega
 clear hP hv hfr hlo hkr hf hL h9 h6 hlen hle hmx
 go_enter Tryz.func45, Tryz.ntmps45
 go_wp2_with fail
 refine (pr_sign pb ⟨#[45]⟩ W S _ ts _ H0.out.pt hlen1 rfl).mono ?_
 rintro r0 w1 hD
 obtain ⟨rfl, S1, hN⟩ := H0.out.step hD
 have H1 := Lib.hid hN
 clear hD hN H0
 have k0 := H1.out.pt.e0 HL.out
 go_wp2_with fail
 go_loopw [2] (fun fv wr => ∃ j : Nat, fv = .int .i64 j ∧ j ≤ k ∧ wr = w1) (fun fv _ => k - (intOf fv).toNat)
 case atStart => exact ⟨0, rfl, by omega, rfl⟩
 case round =>
   obtain ⟨j, rfl, hj, rfl⟩ := hrel
   have j1 : (0 : Int) ≤ (j : Int) := by omega
   have j2 : (j : Int) < (L : Int) := by omega
   have q := nd_at1 S1.b S1.o L S1.c j (by omega)
   by_cases hjk : j < k
   · obtain ⟨y, hy⟩ : ∃ y, (a ++ r)[j]? = some y := ⟨_, List.getElem?_eq_getElem (by rw [HL.out]; omega)⟩
     have c0 := (H1.out.pt.at_ hy).c0
     have HLV : Hid (∀ W, Calls Tryz.prog 41 #[.int .i64 y.op] W fun r W' => r = .returned (.int .i64 7) ∧ W' = W) := by
       have := pr_level y.op
       rw [HLO.out j y hjk hy] at this
       exact this
     have u : IntKind.wrap .i64 ((j : Int) + 1) = (j : Int) + 1 := IntWalk.i64_in _ (by omega)
     clear hy
     go_wp2_with fail
     refine (HLV.out wr).mono ?_
     rintro r0 w2 ⟨rfl, rfl⟩
     go_wp2_with fail
     exact ⟨⟨j + 1, by go_num, by omega, by trivial⟩, by simp [intOf]; omega⟩
   · obtain rfl : j = k := by omega
     have hat := H1.out.pt.at_ HK.out
     have c0 := hat.c0
     have c1 := hat.c1
     have c2 := hat.c2
     have c3 := hat.c3
     obtain ⟨z, hz⟩ : ∃ z : Int, (lvlW m.op : Int) = z := ⟨_, rfl⟩
     have hz7 : (z == 7) = false := by rw [← hz]; have := HHI.out; simpa using by omega
     have HLV : Hid (∀ W, Calls Tryz.prog 41 #[.int .i64 m.op] W fun r W' => r = .returned (.int .i64 z) ∧ W' = W) := by
       have := pr_level m.op
       rw [hz] at this
       exact this
     have hal : RowKit.Below wr.heap.size wr (wr.alloc (.cells #[.int .i64 m.op, .int .i64 m.n, .string m.s, .string m.t] 29)) := by (repeat (first | assumption | exact Below.refl _ _ | apply Below.drew | apply below_drewN | (refine Below.alloc ?_ (by first | exact Nat.le_refl _ | omega | (simp; done) | (simp; omega)) _)))
     have H2 := Lib.hid (H1.out.below hal)
     obtain ⟨B, hB⟩ : ∃ B : Bool, (m.op == 2 && decide (0 ≤ m.n)) = B := ⟨_, rfl⟩
     have HLEN2 : Hid (ts.length + 1 + (partT (if B = true then 9 else 6) a).length ≤ 1000000) := by have := HLEN.out; rw [HFR.out, hB, List.length_cons] at this; show _ ≤ _; omega
     have HV2 : Hid (ts ++ [tSg [45]] ++ partT (if B = true then 9 else 6) a = vs) := by show _ = _; rw [← HV.out, HFR.out, hB, List.append_assoc]; rfl
     clear hat hal hz
     by_cases h2 : m.op = 2
     · have t2 : (m.op == 2) = true := by simp [h2]
       rw [h2] at c0 H2 HLV
       by_cases h0 : 0 ≤ m.n
       · have t0 : decide (0 ≤ m.n) = true := by simpa using h0
         rw [t2, t0] at hB
         simp only [Bool.and_self] at hB
         subst hB
         rw [if_pos rfl] at HLEN2 HV2
         clear h2 h0 t2
         go_wp2_with fail
         refine (HLV.out wr).mono ?_
         rintro r0 w2 ⟨rfl, rfl⟩
         go_wp2_with fail
         refine (H9.out _ S1 r _ _ H2.out.pt (by have := HLEN2.out; simp; omega) rfl).mono ?_
         rintro r0 w3 hD
         obtain ⟨rfl, S3, hN⟩ := H2.out.step hD
         have H3 := Lib.hid hN
         clear hD hN H2 H1
         go_wp2_with fail
         simp [bodyPost, results, Tryz.results45, go_sem]
         exact H3.out.done HV2.out
       · have t0 : decide (0 ≤ m.n) = false := by simpa using h0
         rw [t2, t0] at hB
         simp only [Bool.and_false] at hB
         subst hB
         rw [if_neg (by simp)] at HLEN2 HV2
         clear h2 h0 t2
         go_wp2_with fail
         refine (HLV.out wr).mono ?_
         rintro r0 w2 ⟨rfl, rfl⟩
         go_wp2_with fail
         refine (H6.out _ S1 r _ _ H2.out.pt (by have := HLEN2.out; simp; omega) rfl).mono ?_
         rintro r0 w3 hD
         obtain ⟨rfl, S3, hN⟩ := H2.out.step hD
         have H3 := Lib.hid hN
         clear hD hN H2 H1
         go_wp2_with fail
         simp [bodyPost, results, Tryz.results45, go_sem]
         exact H3.out.done HV2.out
     · have t2 : (m.op == 2) = false := by simpa using h2
       rw [t2] at hB
       simp only [Bool.false_and] at hB
       subst hB
       rw [if_neg (by simp)] at HLEN2 HV2
       clear h2
       go_wp2_with fail
       refine (HLV.out wr).mono ?_
       rintro r0 w2 ⟨rfl, rfl⟩
       go_wp2_with fail
       refine (H6.out _ S1 r _ _ H2.out.pt (by have := HLEN2.out; simp; omega) rfl).mono ?_
       rintro r0 w3 hD
       obtain ⟨rfl, S3, hN⟩ := H2.out.step hD
       have H3 := Lib.hid hN
       clear hD hN H2 H1
       go_wp2_with fail
       simp [bodyPost, results, Tryz.results45, go_sem]
       exact H3.out.done HV2.out
end Go.Proofs.YtbggbcnfkcadjaaGreatDoor
namespace Go.Proofs.YtbggbcnfkcadjaaGreatDoor
set_option maxRecDepth 100000
open Go.RowKit Go.Sort
def ItemOk (pb : Nat) (p : List Nd) : Prop := (∃ m q, p = m :: q ∧ m.op ≠ 7 ∧ NextOk pb p) ∨ ∃ f m q, p = f :: m :: q ∧ f.op = 7 ∧ NextOk pb (m :: q)
theorem itemsT_snoc (p : List Nd) : ∀ (b : Bool) (qs : List (List Nd)), itemsT b (qs ++ [p]) = itemsT b qs ++ ((if (b && qs.isEmpty) = true then [] else [tSg [44]]) ++ itemT p)
 | b, [] => by cases b <;> simp [itemsT]
 | b, q :: qs => by
   show (if b = true then [] else [tSg [44]]) ++ (itemT q ++ itemsT false (qs ++ [p])) = (if b = true then [] else [tSg [44]]) ++ (itemT q ++ itemsT false qs) ++ _
   rw [itemsT_snoc p false qs]
   simp
theorem itemsT_take {ps : List (List Nd)} {k : Nat} {p : List Nd} (h : ps[k]? = some p) : itemsT true (ps.take (k + 1)) = itemsT true (ps.take k) ++ ((if k = 0 then [] else [tSg [44]]) ++ itemT p) := by
 have hk : k < ps.length := (List.getElem?_eq_some_iff.1 h).1
 rw [List.take_add_one, h, Option.toList_some, itemsT_snoc]
 by_cases h0 : k = 0
 · subst h0; simp
 · have : (ps.take k).isEmpty = false := by cases ps with
     | nil => simp at hk
     | cons a q => cases k with
       | zero => exact absurd rfl h0
       | succ k => rfl
   rw [this, if_neg h0]; simp
theorem itemsT_le (b : Bool) (ps : List (List Nd)) (k : Nat) : (itemsT b (ps.take k)).length ≤ (itemsT b ps).length := by
 induction ps generalizing b k with
 | nil => simp
 | cons p ps ih =>
   cases k with
   | zero => simp [itemsT]
   | succ k =>
     have := ih false k
     simp only [List.take_succ_cons, itemsT, List.length_append]
     omega
theorem part0 (x : List Nd) : partT 0 x = wordsW x := by unfold partT; rw [if_pos (Nat.zero_le _)]
theorem On.one {pb : Nat} {W0 : World} {v0 : Value} {W : World} {S : Qs} {n : Nd} {e : List Nd} {ts : List Tk} {L : Nat} (h : On pb W0 v0 W S (n :: e) ts) (hL : e.length = L) :
   On pb W0 v0 (W.setCell ⟨pb, 0, none⟩ (.slice (some ⟨S.b, nxo S.c S.o, none⟩) L (S.c - 1))) ⟨S.b, nxo S.c S.o, S.c - 1, S.v⟩ e ts := ⟨(h.pt.one hL).1, h.fr.trans (h.pt.one hL).2⟩
theorem On.as_ {pb : Nat} {W0 : World} {v0 : Value} {W : World} {S : Qs} {e e' : List Nd} {ts ts' : List Tk} (h : On pb W0 v0 W S e ts) (he : e = e') (ht : ts = ts') : On pb W0 v0 W S e' ts' := he ▸ ht ▸ h
theorem drop_flat {ps : List (List Nd)} {k : Nat} {p : List Nd} (h : ps[k]? = some p) (r : List Nd) : (ps.drop k).flatten ++ r = p ++ ((ps.drop (k + 1)).flatten ++ r) := by
 obtain ⟨hk, rfl⟩ := List.getElem?_eq_some_iff.1 h
 rw [List.drop_eq_getElem_cons hk, List.flatten_cons, List.append_assoc]
set_option maxHeartbeats 12800000 in
theorem pr_list (pb : Nat) (lo lc : List UInt8) (ps : List (List Nd)) (hps : ∀ p ∈ ps, ItemOk pb p) (hn : ps.length ≤ 1000000) :
   ∀ (W : World) (S : Qs) (r : List Nd) (ts vs : List Tk), Pt pb W S (ps.flatten ++ r) ts → ts.length + (tSg lo :: (itemsT true ps ++ [tSg lc])).length ≤ 1000000 → ts ++ tSg lo :: (itemsT true ps ++ [tSg lc]) = vs → Calls Tryz.prog 84 #[.pointer (some ⟨pb, 0, none⟩), .string (bsOf lo), .string (bsOf lc), .int .i64 ps.length] W (Done pb W S r vs) := by
 intro W S r ts vs hP hlen hv
 have H0 := Lib.hid (On.start hP)
 have HV := Lib.hid hv
 have HPS := Lib.hid hps
 simp at hlen
 have hlen1 : ts.length ≤ 1000000 := by omega
 clear hP hv hps
 go_enter Tryz.func84, Tryz.ntmps84
 go_wp2_with fail
 refine (pr_sign pb (bsOf lo) W S _ ts _ H0.out.pt hlen1 rfl).mono ?_
 rintro r0 w1 hD
 obtain ⟨rfl, S1, hN⟩ := H0.out.step hD
 have H1 := Lib.hid hN
 clear hD hN H0
 go_wp2_with fail
 go_loopw [13] (fun kk wr => ∃ (k : Nat) (Sk : Qs), kk = .int .i64 k ∧ k ≤ ps.length ∧ Hid (On pb W S.v wr Sk ((ps.drop k).flatten ++ r) (ts ++ [tSg lo] ++ itemsT true (ps.take k)))) (fun kk _ => ps.length - (intOf kk).toNat)
 case atStart => exact ⟨0, S1, rfl, by omega, H1.out.as_ (by simp) (by simp [itemsT, tSg])⟩
 case round =>
   obtain ⟨k, Sk, rfl, hk, HK⟩ := hrel
   by_cases hlt : k < ps.length
   case neg =>
     obtain rfl : k = ps.length := by omega
     have H2 : Hid (On pb W S.v wr Sk r (ts ++ [tSg lo] ++ itemsT true ps)) := HK.out.as_ (by simp) (by simp)
     clear HK hlt
     go_wp2_with fail
     refine (pr_sign pb (bsOf lc) wr Sk _ _ _ H2.out.pt (by simp; omega) rfl).mono ?_
     rintro r0 w3 hD
     obtain ⟨rfl, S3, hN⟩ := H2.out.step hD
     have H3 := Lib.hid hN
     clear hD hN H2
     go_wp2_with fail
     simp [bodyPost, results, Tryz.results84, go_sem]
     exact H3.out.done (by rw [← HV.out]; simp [tSg])
   case pos =>
   obtain ⟨p, hp⟩ : ∃ p, ps[k]? = some p := ⟨_, List.getElem?_eq_getElem hlt⟩
   have hit := itemsT_take hp
   have hle := itemsT_le true ps (k + 1)
   obtain ⟨R, hR⟩ : ∃ R, (ps.drop (k + 1)).flatten ++ r = R := ⟨_, rfl⟩
   have H2 : Hid (On pb W S.v wr Sk (p ++ R) (ts ++ [tSg lo] ++ itemsT true (ps.take k))) := HK.out.as_ (by rw [drop_flat hp r, hR]) rfl
   obtain ⟨P0, hP0⟩ : ∃ P0, itemsT true (ps.take k) = P0 := ⟨_, rfl⟩
   rw [hP0] at H2 hit
   have HIT := Lib.hid hit
   rw [hit] at hle
   simp only [List.length_append] at hle
   have HR := Lib.hid hR
   have u : IntKind.wrap .i64 ((k : Int) + 1) = (k : Int) + 1 := IntWalk.i64_in _ (by omega)
   have i1 : (k : Int) < (ps.length : Int) := by omega
   have HI := HPS.out p (List.mem_of_getElem? hp)
   clear hp hit HK hR hP0
   rcases HI with ⟨m, qq, rfl, h7, hok⟩ | ⟨f, m, qq, rfl, h7, hok⟩
   · have hti : itemT (m :: qq) = wordsW (m :: qq) := by unfold itemT; rw [if_neg (show ¬ ((m :: qq).headD ndQ).op = 7 from h7)]
     have h7b : (m.op == 7) = false := by simpa using h7
     rw [hti] at hle
     have HTI := Lib.hid hti
     have HPT := Lib.hid (part0 (m :: qq))
     have HPO := Lib.hid (pr_part pb 0 (m :: qq) (by simp) hok)
     clear hti h7 hok
     by_cases h0 : k = 0
     · subst h0
       rw [if_pos rfl] at hle HIT
       simp only [List.length_nil, Nat.zero_add] at hle
       have a0 := H2.out.pt.e0 (L := (m :: qq ++ R).length) rfl
       have a1 := (nd_first H2.out.pt).c0
       have a2 : (0 : Int) < ((m :: qq ++ R).length : Int) := by simp; omega
       go_wp2_with fail
       refine (HPO.out wr Sk R _ _ H2.out.pt (by rw [HPT.out]; simp; omega) rfl).mono ?_
       rintro r0 w4 hD
       obtain ⟨rfl, S4, hN⟩ := H2.out.step hD
       have H4 := Lib.hid hN
       clear hD hN H2
       go_wp2_with fail
       exact ⟨⟨0 + 1, S4, by go_num, by omega, H4.out.as_ HR.out.symm (by rw [HIT.out, HTI.out, HPT.out]; simp [tSg, bsOf])⟩, by simp [intOf]; omega⟩
     · have t0 : decide (0 < k) = true := by simp; omega
       rw [if_neg h0] at hle HIT
       simp only [List.length_cons, List.length_nil, Nat.zero_add] at hle
       clear h0
       go_wp2_with fail
       refine (pr_sign pb ⟨#[44]⟩ wr Sk _ _ _ H2.out.pt (by simp; omega) rfl).mono ?_
       rintro r0 w3 hD
       obtain ⟨rfl, S3, hN⟩ := H2.out.step hD
       have H3 := Lib.hid hN
       clear hD hN H2
       have a0 := H3.out.pt.e0 (L := (m :: qq ++ R).length) rfl
       have a1 := (nd_first H3.out.pt).c0
       have a2 : (0 : Int) < ((m :: qq ++ R).length : Int) := by simp; omega
       go_wp2_with fail
       refine (HPO.out w3 S3 R _ _ H3.out.pt (by rw [HPT.out]; simp; omega) rfl).mono ?_
       rintro r0 w4 hD
       obtain ⟨rfl, S4, hN⟩ := H3.out.step hD
       have H4 := Lib.hid hN
       clear hD hN H3
       go_wp2_with fail
       exact ⟨⟨k + 1, S4, by go_num, by omega, H4.out.as_ HR.out.symm (by rw [HIT.out, HTI.out, HPT.out]; simp [tSg, bsOf])⟩, by simp [intOf]; omega⟩
   · have hti : itemT (f :: m :: qq) = ⟨1, f.s, 0⟩ :: tSg [58] :: wordsW (m :: qq) := by
       unfold itemT
       rw [if_pos (show ((f :: m :: qq).headD ndQ).op = 7 from h7)]
       rfl
     have h7b : (f.op == 7) = true := by simpa using h7
     rw [hti] at hle
     simp only [List.length_cons] at hle
     have HTI := Lib.hid hti
     have HPT := Lib.hid (part0 (m :: qq))
     have HPO := Lib.hid (pr_part pb 0 (m :: qq) (by simp) hok)
     obtain ⟨L, hL⟩ : ∃ L, ((m :: qq) ++ R).length = L := ⟨_, rfl⟩
     have HL := Lib.hid hL
     clear hti h7 hok hL
     by_cases h0 : k = 0
     · subst h0
       rw [if_pos rfl] at hle HIT
       simp only [List.length_nil, Nat.zero_add] at hle
       have a0 : wr.cell? ⟨pb, 0, none⟩ = some (.slice (some ⟨Sk.b, Sk.o, none⟩) (L + 1) Sk.c) := H2.out.pt.e0 (by show _ = _ + 1; rw [← HL.out]; rfl)
       have a1 := (nd_first H2.out.pt).c0
       have a3 := (nd_first H2.out.pt).c2
       have a2 : (0 : Int) < ((L + 1 : Nat) : Int) := by omega
       go_wp2_with fail
       refine (pr_put pb 1 f.s wr Sk _ _ _ H2.out.pt (by simp; omega) rfl).mono ?_
       rintro r0 w5 hD
       obtain ⟨rfl, S5, hN⟩ := H2.out.step hD
       have H5 := Lib.hid hN
       clear hD hN H2 a0 a1 a2 a3
       go_wp2_with fail
       refine (pr_sign pb ⟨#[58]⟩ w5 S5 _ _ _ H5.out.pt (by simp; omega) rfl).mono ?_
       rintro r0 w6 hD
       obtain ⟨rfl, S6, hN⟩ := H5.out.step hD
       have H6 := Lib.hid hN
       clear hD hN H5
       have b0 : w6.cell? ⟨pb, 0, none⟩ = some (.slice (some ⟨S6.b, S6.o, none⟩) (L + 1) S6.c) := H6.out.pt.e0 (by show _ = _ + 1; rw [← HL.out]; rfl)
       have b1 : w6.frozen? ⟨pb, 0, none⟩ = false := H6.out.pt.blk.frozen 0
       have b2 : L + 1 ≤ S6.c := by have := H6.out.pt.le; have h := HL.out; simp at this h; omega
       have b3 := H6.out.pt.mx
       have b4 := sl_rest S6.b S6.o L S6.c
       have H7 := Lib.hid (H6.out.one HL.out)
       clear H6
       go_wp2_with fail
       refine (HPO.out _ _ R _ _ H7.out.pt (by rw [HPT.out]; simp; omega) rfl).mono ?_
       rintro r0 w8 hD
       obtain ⟨rfl, S8, hN⟩ := H7.out.step hD
       have H8 := Lib.hid hN
       clear hD hN H7 b0 b1 b2 b3 b4
       go_wp2_with fail
       exact ⟨⟨0 + 1, S8, by go_num, by omega, H8.out.as_ HR.out.symm (by rw [HIT.out, HTI.out, HPT.out]; simp [tSg, bsOf])⟩, by simp [intOf]; omega⟩
     · have t0 : decide (0 < k) = true := by simp; omega
       rw [if_neg h0] at hle HIT
       simp only [List.length_cons, List.length_nil, Nat.zero_add] at hle
       clear h0
       go_wp2_with fail
       refine (pr_sign pb ⟨#[44]⟩ wr Sk _ _ _ H2.out.pt (by simp; omega) rfl).mono ?_
       rintro r0 w3 hD
       obtain ⟨rfl, S3, hN⟩ := H2.out.step hD
       have H3 := Lib.hid hN
       clear hD hN H2
       have a0 : w3.cell? ⟨pb, 0, none⟩ = some (.slice (some ⟨S3.b, S3.o, none⟩) (L + 1) S3.c) := H3.out.pt.e0 (by show _ = _ + 1; rw [← HL.out]; rfl)
       have a1 := (nd_first H3.out.pt).c0
       have a3 := (nd_first H3.out.pt).c2
       have a2 : (0 : Int) < ((L + 1 : Nat) : Int) := by omega
       go_wp2_with fail
       refine (pr_put pb 1 f.s w3 S3 _ _ _ H3.out.pt (by simp; omega) rfl).mono ?_
       rintro r0 w5 hD
       obtain ⟨rfl, S5, hN⟩ := H3.out.step hD
       have H5 := Lib.hid hN
       clear hD hN H3 a0 a1 a2 a3
       go_wp2_with fail
       refine (pr_sign pb ⟨#[58]⟩ w5 S5 _ _ _ H5.out.pt (by simp; omega) rfl).mono ?_
       rintro r0 w6 hD
       obtain ⟨rfl, S6, hN⟩ := H5.out.step hD
       have H6 := Lib.hid hN
       clear hD hN H5
       have b0 : w6.cell? ⟨pb, 0, none⟩ = some (.slice (some ⟨S6.b, S6.o, none⟩) (L + 1) S6.c) := H6.out.pt.e0 (by show _ = _ + 1; rw [← HL.out]; rfl)
       have b1 : w6.frozen? ⟨pb, 0, none⟩ = false := H6.out.pt.blk.frozen 0
       have b2 : L + 1 ≤ S6.c := by have := H6.out.pt.le; have h := HL.out; simp at this h; omega
       have b3 := H6.out.pt.mx
       have b4 := sl_rest S6.b S6.o L S6.c
       have H7 := Lib.hid (H6.out.one HL.out)
       clear H6
       go_wp2_with fail
       refine (HPO.out _ _ R _ _ H7.out.pt (by rw [HPT.out]; simp; omega) rfl).mono ?_
       rintro r0 w8 hD
       obtain ⟨rfl, S8, hN⟩ := H7.out.step hD
       have H8 := Lib.hid hN
       clear hD hN H7 b0 b1 b2 b3 b4
       go_wp2_with fail
       exact ⟨⟨k + 1, S8, by go_num, by omega, H8.out.as_ HR.out.symm (by rw [HIT.out, HTI.out, HPT.out]; simp [tSg, bsOf])⟩, by simp [intOf]; omega⟩
end Go.Proofs.YtbggbcnfkcadjaaGreatDoor
