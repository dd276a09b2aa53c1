/-
  THE WALKS: val.RecOf.
  THE WALKS: (*eval.evaluation).next: what it owes; the leaves, names.
  THE WALKS: (*eval.evaluation).next at a node of one piece, of two pieces.
  THE WALKS: (*eval.evaluation).skip, either, choice, named.
-/
import Derived.Test.YtpheiojmcafolaaGreatDoorSx09
import Derived.Test.YtpheiojmcafolaaGreatDoorSx06
import Derived.Test.YtpheiojmcafolaaGreatDoorSx07
import Derived.Test.YtpheiojmcafolaaGreatDoorSx01
namespace Go.Proofs.YtpheiojmcafolaaGreatDoor
set_option maxRecDepth 100000
open Go.RowKit Go.Sort Go.Maps
theorem StrSl.but {w w' : World} {B g : Nat} {A : Option Addr} {ss : List (List UInt8)} (h : StrSl w B A ss) (hne : ∀ b o, A = some ⟨b, o, none⟩ → b ≠ g) (hk : ∀ k, k < B → k ≠ g → w'.heap[k]? = w.heap[k]?) : StrSl w' B A ss := fun hn => by
 obtain ⟨b, o, e, hb, hc⟩ := h hn
 exact ⟨b, o, e, hb, fun i l hl => (World.cell?_of_block (a := ⟨b, o + i, none⟩) (hk b hb (hne b o e))).trans (hc i l hl)⟩
def fldOf (ss : List (List UInt8)) (ms : List NsM) (l : List UInt8) : List Nd := ⟨7, 0, bsL l, ⟨#[]⟩⟩ :: (((ms.map NsM.e)[ss.idxOf l]?).getD [])
theorem zip_flds (ss : List (List UInt8)) (ms : List NsM) (hl : ms.length = ss.length) (hnd : ss.Nodup) : (((ss.map bsL).zip (ms.map NsM.e)).map fun f => (⟨7, 0, f.1, ⟨#[]⟩⟩ : Nd) :: f.2) = ss.map (fldOf ss ms) := by
 apply List.ext_getElem
 · simp [hl]
 · intro i h1 h2
   have hi : i < ss.length := by simpa using h2
   have hid : ss.idxOf ss[i] = i := by
     have hk : ss.idxOf ss[i] < ss.length := List.idxOf_lt_length_iff.2 (List.getElem_mem hi)
     exact (List.getElem_inj hnd).1 (List.getElem_idxOf hk)
   have hm : i < (ms.map NsM.e).length := by simp; omega
   simp only [List.getElem_map, List.getElem_zip, fldOf, hid]
   rw [List.getElem?_eq_getElem hm]
   simp
theorem sort_flds (ss : List (List UInt8)) (ms : List NsM) : sortN (ss.map (fldOf ss ms)) = (sorted ss).map (fldOf ss ms) := by
 unfold sortN sorted
 rw [List.map_mergeSort]
 intro a _ b _
 show decide (a ≤ b) = decide ((bsL a).toList ≤ (bsL b).toList)
 rw [bsL_toList, bsL_toList]
def catF (ss : List (List UInt8)) (ms : List NsM) (L : List (List UInt8)) : List Nd := L.flatMap (fldOf ss ms)
theorem catF_step {ss : List (List UInt8)} {ms : List NsM} {L : List (List UInt8)} {k : Nat} {l : List UInt8} (h : L[k]? = some l) : catF ss ms (L.take (k + 1)) = catF ss ms (L.take k) ++ fldOf ss ms l := by
 unfold catF
 rw [List.take_add_one, h, List.flatMap_append]; simp
theorem catF_le {ss : List (List UInt8)} {ms : List NsM} {L : List (List UInt8)} (k : Nat) : (catF ss ms (L.take k)).length ≤ (catF ss ms L).length := by
 conv => rhs; rw [← List.take_append_drop k L]
 unfold catF
 rw [List.flatMap_append, List.length_append]; omega
theorem recR_cat (ss : List (List UInt8)) (ms : List NsM) (hl : ms.length = ss.length) (hnd : ss.Nodup) (hg : recGo ((ss.map bsL).zip (ms.map NsM.e)) [] = 0) :
   recR ((ss.map bsL).zip (ms.map NsM.e)) = if 200 < (⟨6, ss.length, ⟨#[]⟩, ⟨#[]⟩⟩ :: catF ss ms (sorted ss) : List Nd).length then .bad 4 else .ok (⟨6, ss.length, ⟨#[]⟩, ⟨#[]⟩⟩ :: catF ss ms (sorted ss)) := by
 unfold recR
 rw [if_neg (by simp [hg])]
 have e : recNodes ((ss.map bsL).zip (ms.map NsM.e)) = ⟨6, ss.length, ⟨#[]⟩, ⟨#[]⟩⟩ :: catF ss ms (sorted ss) := by
   unfold recNodes catF
   rw [zip_flds ss ms hl hnd, sort_flds, ← List.flatMap_def]
   simp [hl]
 rw [e]
set_option maxHeartbeats 12800000 in
theorem val_RecOf (ss : List (List UInt8)) (ms : List NsM) (An Av : Option Addr) (cn cv : Nat) (w : World) (hl : ms.length = ss.length) (hl2 : ss.length ≤ 1000) (hnd : ss.Nodup) (hsz : ∀ l ∈ ss, l.length ≤ 140737488351232) (hnm : ∀ l ∈ ss, nameErr l = 0)
   (hv : ∀ y ∈ ms, valErr y.e = 0 ∧ NdOk y.e) (hg : recGo ((ss.map bsL).zip (ms.map NsM.e)) [] = 0) (hss : StrSl w w.heap.size An ss) (hms : NssAt w Av ms) :
   Calls Tryz.prog 141 #[.slice An ss.length cn, .slice Av ms.length cv] w fun r w' => NdsNewE w r w' (rsL (recR ((ss.map bsL).zip (ms.map NsM.e)))) (rsE (recR ((ss.map bsL).zip (ms.map NsM.e)))) := by
 obtain ⟨j0, hj, hy0, hy1, hy2⟩ := info_parts nd_info
 rw [recR_cat ss ms hl hnd hg]
 have hmm := @run_makeMap Tryz.prog
 have HL := Lib.hid hl
 have hle1 : ms.length ≤ ss.length := by omega
 have hle2 : ss.length ≤ ms.length := by omega
 have tl : ((ss.length : Int) != (ms.length : Int)) = false := by simp; omega
 have HND := Lib.hid hnd
 have HSZ := Lib.hid hsz
 have HNM := Lib.hid hnm
 have HV := Lib.hid hv
 have HSS := Lib.hid hss
 have HMS := Lib.hid hms
 have hb0 : RowKit.Below w.heap.size w (w.alloc (.map #[] 0)) := by (repeat (first | assumption | exact Below.refl _ _ | apply Below.drew | apply below_drewN | (refine Below.alloc ?_ (by first | exact Nat.le_refl _ | omega | (simp; done) | (simp; omega)) _)))
 have HBY0 := Lib.hid (by_made w ss ms)
 obtain ⟨q, hq⟩ : ∃ q, (if 200 < (⟨6, ss.length, ⟨#[]⟩, ⟨#[]⟩⟩ :: catF ss ms (sorted ss) : List Nd).length then (.bad 4 : Rs (List Nd)) else .ok (⟨6, ss.length, ⟨#[]⟩, ⟨#[]⟩⟩ :: catF ss ms (sorted ss))) = q := ⟨_, rfl⟩
 rw [hq]
 have HQ := Lib.hid hq
 clear hl hnd hsz hnm hv hss hms hg hq
 go_enter Tryz.func141, Tryz.ntmps141
 go_wp2_with fail
 go_loopw [25] (fun kk wr => ∃ k : Nat, kk = .int .i64 k ∧ k ≤ ss.length ∧ Hid (ByAt wr w.heap.size ss ms k) ∧ RowKit.Below w.heap.size w wr) (fun kk _ => ss.length - (intOf kk).toNat)
 case atStart => exact ⟨0, rfl, by omega, HBY0.out, hb0⟩
 case round =>
   obtain ⟨k, rfl, hk, HBY, hbr⟩ := hrel
   have hzr := hbr.size
   by_cases hlt : k < ss.length
   · obtain ⟨l, hl⟩ : ∃ l, ss[k]? = some l := ⟨_, List.getElem?_eq_getElem hlt⟩
     have hlm := List.mem_of_getElem? hl
     obtain ⟨bn, on, rfl, hbn, hcs⟩ := (HSS.out.below hbr).at_ hlt
     have d0 : wr.cell? ⟨bn, on + k, none⟩ = some (.string (bsL l)) := hcs k l hl
     obtain ⟨y, hy⟩ : ∃ y, ms[k]? = some y := ⟨_, List.getElem?_eq_getElem (by omega)⟩
     have hym := List.mem_of_getElem? hy
     have HMr := Lib.hid (HMS.out.later hbr)
     obtain ⟨bm, om, rfl, hbm, d1⟩ := nsSl_at HMr.out.sl hy
     have hbs : (bsL l).size ≤ 140737488351232 := by have := HSZ.out l hlm; rw [← toList_len, bsL_toList]; exact this
     have hbs2 : (bsL l).size ≤ maxLen := by unfold maxLen; omega
     have HNC := Lib.hid (by
       have h := name_Check (bsL l) wr hbs
       rw [bsL_toList, HNM.out l hlm] at h
       exact h)
     have hn1 : l ∉ ss.take k := by
       intro hm
       have h1 := HND.out
       rw [← List.take_append_drop k ss, List.nodup_append] at h1
       exact h1.2.2 l hm l (List.mem_of_getElem? (i := 0) (by rw [List.getElem?_drop]; exact hl)) rfl
     have HMISS := Lib.hid (fun W (h : ByAt W w.heap.size ss ms k) => by_miss h hbs2 (by rw [bsL_toList]; exact hn1))
     have HVC := Lib.hid (fun W (hW : RowKit.Below wr.heap.size wr W) => by
       have g := (HMr.out.later hW).good y hym
       have h := val_Check y.e y.A y.c W g.le g.max (HV.out y hym).2 g.sl
       rw [(HV.out y hym).1] at h
       exact h)
     have HPUT := Lib.hid (fun W (h : ByAt W w.heap.size ss ms k) => by_put h HND.out hbs2 (by rw [bsL_toList]; exact hl) hy (by omega))
     clear hl hlm hcs hy hym hbs hn1
     obtain ⟨s, hs⟩ : ∃ s, bsL l = s := ⟨_, rfl⟩
     rw [hs] at d0 HNC HMISS HPUT hbs2
     clear hs
     go_wp2_with fail
     refine HNC.out.mono ?_
     rintro r w1 ⟨rfl, hb1⟩
     have e1 := (hb1.cell (p := ⟨bm, om + k, none⟩) (by show bm < _; exact hbm)).trans d1
     have HBY1 := Lib.hid (HBY.out.below hb1)
     have hlook := HMISS.out w1 HBY1.out
     have HB1 := Lib.hid hb1
     have HVC1 := Lib.hid (HVC.out w1 hb1)
     have hbm1 : bm < w1.heap.size := by have := hb1.size; omega
     clear hb1 d1 d0
     go_wp2_with fail
     refine HVC1.out.mono ?_
     rintro r w2 ⟨rfl, hb2⟩
     have e2 := (hb2.cell (p := ⟨bm, om + k, none⟩) hbm1).trans e1
     have HBY2 := Lib.hid (HBY1.out.below hb2)
     obtain ⟨w3, hput, hby3, hg3⟩ := HPUT.out w2 HBY2.out
     have HBY3 := Lib.hid hby3
     have hw2 := hbr.trans ((HB1.out.trans (hb2.mono HB1.out.size)).mono hzr)
     have hw3 : RowKit.Below w.heap.size w w3 := hw2.grown hg3 hw2.size (fun j hj => by injection hj with hj; omega)
     clear hb2 e1 hlook hby3 hg3 hw2
     go_wp2_with fail
     exact ⟨⟨k + 1, by go_num, by omega, HBY3, hw3⟩, by simp [intOf]; omega⟩
   · have HBYN : Hid (ByAt wr w.heap.size ss ms ss.length) := by
       have e : k = ss.length := by omega
       rw [← e]; exact HBY.out
     clear HBY
     obtain ⟨x0, hx0⟩ : ∃ x0 : Nd, x0 = ⟨6, ss.length, ⟨#[]⟩, ⟨#[]⟩⟩ := ⟨_, rfl⟩
     have HX0 := Lib.hid hx0
     rw [← hx0] at HQ
     have HOL := Lib.hid (World.ownsRow_lit (base := wr.heap.size) (e := 37) (size := 4) wr #[.int .i64 6, .int .i64 ss.length, .string ⟨#[]⟩, .string ⟨#[]⟩] 1 (Nat.le_refl _) (by decide) (by simp))
     obtain ⟨wA, hwA⟩ : ∃ wA, wr.alloc (.cells #[.int .i64 6, .int .i64 ss.length, .string ⟨#[]⟩, .string ⟨#[]⟩] 37) = wA := ⟨_, rfl⟩
     have hbA : RowKit.Below wr.heap.size wr wA := by rw [← hwA]; (repeat (first | assumption | exact Below.refl _ _ | apply Below.drew | apply below_drewN | (refine Below.alloc ?_ (by first | exact Nat.le_refl _ | omega | (simp; done) | (simp; omega)) _)))
     have hzA : wr.heap.size < wA.heap.size := by rw [← hwA]; simp
     have HO0 : Hid (wA.ownsRow wr.heap.size 37 4 (.slice (some ⟨wr.heap.size, 0, none⟩) 1 1) 1 (flat [x0])) := by
       have := HOL.out
       rw [hwA] at this
       rw [hx0]
       simpa [flat, Nd.cells, Hid] using this
     have HBYA := Lib.hid (HBYN.out.below hbA)
     have HWA := Lib.hid hwA
     have HBA := Lib.hid hbA
     have hwA2 := hbr.trans (hbA.mono hzr)
     have HSSA := Lib.hid ((HSS.out.below hwA2).more hwA2.size)
     have HSRT := Lib.hid (names_sorted An ss cn hl2 wA HSSA.out)
     have HVAL := Lib.hid (slices_Values An ss.length cn wA)
     clear hx0 HOL hwA hbA hwA2
     go_wp2_with fail
     rw [HWA.out]
     refine HVAL.out.mono ?_
     rintro r w1 ⟨rfl, rfl⟩
     go_wp2_with fail
     refine HSRT.out.mono ?_
     rintro r w2 ⟨As, cs, rfl, hst, hb2, hasb⟩
     have HASB : Hid (∀ b o, As = some ⟨b, o, none⟩ → b ≠ wr.heap.size) := fun b o e => by have := hasb b o e; omega
     have HST := Lib.hid hst
     have HO2 := Lib.hid (own_keep HO0.out hb2)
     have HBY2 := Lib.hid (HBYA.out.below hb2)
     have HB2 : Hid (RowKit.Below w.heap.size w w2) := hbr.trans ((HBA.out.trans (hb2.mono HBA.out.size)).mono hzr)
     have hz2 : wA.heap.size ≤ w2.heap.size := hb2.size
     have HSL : Hid ((sorted ss).length = ss.length) := by show _ = _; simp [sorted]
     have HSM : Hid (∀ l, l ∈ sorted ss → l ∈ ss) := fun l hl => (List.mergeSort_perm ss _).mem_iff.1 hl
     clear hst hb2 hasb
     generalize sorted ss = S at *
     have hS1 : S.length ≤ ss.length := by have := HSL.out; omega
     have hS2 : ss.length ≤ S.length := by have := HSL.out; omega
     obtain ⟨wo, rfl⟩ : ∃ wo : World, wo = wr := ⟨_, rfl⟩
     go_wp2_with fail
     go_loopw [13, 66] (fun ov kk wr => ∃ (k l : Nat), kk = .int .i64 k ∧ k ≤ S.length ∧ l ≤ 200 ∧ Hid (l = (x0 :: catF ss ms (S.take k)).length) ∧ Hid (wr.ownsRow wo.heap.size 37 4 ov l (flat (x0 :: catF ss ms (S.take k)))) ∧ Hid (ByAt wr w.heap.size ss ms ss.length) ∧ RowKit.Below w.heap.size w wr ∧ Hid (StrSl wr w2.heap.size As S) ∧ Hid (∀ b, ov.ownBlock = some b → b = wo.heap.size ∨ w2.heap.size ≤ b) ∧ w2.heap.size ≤ wr.heap.size) (fun _ kk _ => S.length - (intOf kk).toNat)
     case atStart => exact ⟨0, 1, rfl, by omega, by omega, by simp [catF, Hid], by simpa [catF, Hid] using HO2.out, HBY2.out, HB2.out, HST.out, fun b h => by injection h with h; exact .inl h.symm, Nat.le_refl _⟩
     case round =>
       obtain ⟨k, l, rfl, hk1, hl200, HLL, HOr, HBYr, hbr2, HSTr, HOWr, hzr2⟩ := hrel
       by_cases hlt2 : k < S.length
       · obtain ⟨nm, hnm⟩ : ∃ nm, S[k]? = some nm := ⟨_, List.getElem?_eq_getElem hlt2⟩
         have hns : nm ∈ ss := HSM.out nm (List.mem_of_getElem? hnm)
         obtain ⟨bs, os, rfl, hbs, hcs⟩ := HSTr.out.at_ hlt2
         have d0 : wr.cell? ⟨bs, os + k, none⟩ = some (.string (bsL nm)) := hcs k nm hnm
         have hik : ss.idxOf nm < ss.length := List.idxOf_lt_length_iff.2 hns
         have hig : ss[ss.idxOf nm]? = some nm := by rw [List.getElem?_eq_getElem hik, List.getElem_idxOf hik]
         obtain ⟨⟨Ay, cy, ey⟩, hy⟩ : ∃ y, ms[ss.idxOf nm]? = some y := ⟨_, List.getElem?_eq_getElem (by omega)⟩
         have hym := List.mem_of_getElem? hy
         have HFD : Hid (fldOf ss ms nm = ⟨7, 0, bsL nm, ⟨#[]⟩⟩ :: ey) := by show _ = _; unfold fldOf; rw [List.getElem?_map, hy]; rfl
         have HCT : Hid (catF ss ms (S.take (k + 1)) = catF ss ms (S.take k) ++ fldOf ss ms nm) := catF_step hnm
         have HCL : Hid ((catF ss ms (S.take (k + 1))).length ≤ (catF ss ms S).length) := catF_le (k + 1)
         have hvy := HV.out _ hym
         have hey200 : ey.length ≤ 200 := ((val_iff ey).1 hvy.1).1
         obtain ⟨yy, yr, hyy, -, -⟩ := ((val_iff ey).1 hvy.1).2.ne
         have hne : ey ≠ [] := by rw [hyy]; simp
         have hgy := HMS.out.good _ hym
         obtain ⟨be, oe, rfl, hbe, -⟩ := hgy.sl hne
         have HCE := Lib.hid (fun W (hW : RowKit.Below w.heap.size w W) j u hu => NdSl.flat (hgy.sl.below hW) j u hu)
         have hnz : (bsL nm).size ≤ maxLen := by have := HSZ.out nm hns; rw [← toList_len, bsL_toList]; unfold maxLen; omega
         have HLK := Lib.hid (fun W (h : ByAt W w.heap.size ss ms ss.length) => by_hit h hnz hik (by rw [bsL_toList]; exact hig) hy)
         have hwoz : w.heap.size < wo.heap.size := HBYN.out.lt
         have HZW : Hid (wo.heap.size < wr.heap.size) := by show _ < _; omega
         obtain ⟨s, hs⟩ : ∃ s, bsL nm = s := ⟨_, rfl⟩
         rw [hs] at d0 HLK HFD
         have hwB : RowKit.Below wr.heap.size wr (wr.alloc (.cells #[.int .i64 7, .int .i64 0, .string s, .string ⟨#[]⟩] 37)) := by (repeat (first | assumption | exact Below.refl _ _ | apply Below.drew | apply below_drewN | (refine Below.alloc ?_ (by first | exact Nat.le_refl _ | omega | (simp; done) | (simp; omega)) _)))
         have HOB := Lib.hid (own_keep HOr.out hwB)
         have HOG : Hid (∀ ov1 : Value, ov1 = ov1) := fun _ => rfl
         have hob : ∀ b, u13.ownBlock = some b → wo.heap.size ≤ b := fun b h => (own_lt HOr.out h).1
         have HBG := Lib.hid (fun (w5 : World) (hg : (wr.alloc (.cells #[.int .i64 7, .int .i64 0, .string s, .string ⟨#[]⟩] 37)).grownBy w5 u13.ownBlock) => RowKit.Below.grown (w := wr.alloc (.cells #[.int .i64 7, .int .i64 0, .string s, .string ⟨#[]⟩] 37)) (hbr2.trans (hwB.mono hbr2.size)) hg (by have := hbr2.size; simp; omega) (fun q hq => by have := hob q hq; omega))
         have HBYG := Lib.hid (fun (w5 : World) (hg : (wr.alloc (.cells #[.int .i64 7, .int .i64 0, .string s, .string ⟨#[]⟩] 37)).grownBy w5 u13.ownBlock) => (HBYr.out.below hwB).kept hg (fun e => by have := hob _ e.symm; omega))
         have HZG := Lib.hid (fun (w5 : World) (hg : (wr.alloc (.cells #[.int .i64 7, .int .i64 0, .string s, .string ⟨#[]⟩] 37)).grownBy w5 u13.ownBlock) => (show wr.heap.size + 1 ≤ w5.heap.size from by have := hg.size; simpa using this))
         have HL2 : Hid (l + 1 + ey.length = (x0 :: catF ss ms (S.take (k + 1))).length) := by
           show _ = _
           rw [HLL.out, HCT.out, HFD.out]; simp; omega
         have HLG := Lib.hid (fun (w5 : World) (v5 : Value) (hg : (wr.alloc (.cells #[.int .i64 7, .int .i64 0, .string s, .string ⟨#[]⟩] 37)).grownBy w5 u13.ownBlock) (hloc : v5.ownBlock = u13.ownBlock ∨ v5.ownBlock = some (wr.alloc (.cells #[.int .i64 7, .int .i64 0, .string s, .string ⟨#[]⟩] 37)).heap.size) =>
           (show (∀ b, v5.ownBlock = some b → b = wo.heap.size ∨ w2.heap.size ≤ b) ∧ StrSl w5 w2.heap.size (some ⟨bs, os, none⟩) S from
             ⟨fun b hb => by
               rcases hloc with h | h
               · exact HOWr.out b (h ▸ hb)
               · rw [h] at hb; injection hb with hb; simp at hb; right; omega,
              HSTr.out.but (g := wo.heap.size) (fun b o e => HASB.out b o e) (fun k hk hne => (hg.block k (by simp; omega) (fun e => by rcases HOWr.out k e.symm with h | h; exact hne h; omega)).trans (RowKit.Below.heap_alloc _ _ _ (by omega)))⟩))
         clear hcs hnm hns hig hy hym hvy hyy hne hgy hnz hs hwB hik
         by_cases h200 : 200 < l + 1 + ey.length
         · have HQV : Hid (q = .bad 4) := by
             show _ = _
             rw [← HQ.out, if_pos (by have := HL2.out; have := HCL.out; simp only [List.length_cons] at *; omega)]
           go_wp2_with (first
             | (at_builtin; refine wpList_append_own_at _ rfl (.tmp 70) (.tmp 73) 22 rfl wo.heap.size 37 j0 _ 4 48 Tryz.underlying22 hj hy0 hy1 hy2 rfl (by omega) _ l (flat (x0 :: catF ss ms (S.take k))) rfl HOB.out ⟨wr.heap.size, 0, none⟩ 1 1 (flat [⟨7, 0, s, ⟨#[]⟩⟩]) rfl rfl (fun j u hu => new_flat wr 37 ⟨7, 0, s, ⟨#[]⟩⟩ _ rfl j u hu) (flat_one_cell _) (by unfold maxLen; omega) (by omega) (by simp; omega) ?_; intro v1 w5 hown5 hgrow5 _ hloc5; obtain ⟨A5, c5, hv5, -⟩ := own_nodes' hown5; subst hv5; have HB5 := Lib.hid (HBG.out w5 hgrow5); have HBY5 := Lib.hid (HBYG.out w5 hgrow5); have hlook := HLK.out w5 HBY5.out; have HO5 := Lib.hid hown5; have HZ5 := Lib.hid (HZG.out w5 hgrow5); have HLC5 := Lib.hid (HLG.out w5 (.slice A5 (l + 1) c5) hgrow5 hloc5); clear hown5 hgrow5 hloc5)
             | (at_builtin; refine wpList_append_own_at _ rfl (.tmp 75) (.tmp 78) 22 rfl wo.heap.size 37 j0 _ 4 48 Tryz.underlying22 hj hy0 hy1 hy2 rfl (by omega) _ (l + 1) (flat (x0 :: catF ss ms (S.take k)) ++ flat [⟨7, 0, s, ⟨#[]⟩⟩]) rfl HO5.out ⟨be, oe, none⟩ ey.length cy (flat ey) rfl (flat_len ey) (HCE.out w5 HB5.out) (flat_one_cell ey) (by unfold maxLen; omega) (by omega) (by have := HZ5.out; omega) ?_; intro v2 w6 hown6 hgrow6 _ hloc6; obtain ⟨A6, c6, hv6, -⟩ := own_nodes' hown6; subst hv6))
           have hw6 := HB5.out.grown hgrow6 HB5.out.size (fun q hq => by have := (own_lt HO5.out hq).1; omega)
           clear hown6 hgrow6 hlook
           go_ret2
           rw [HQV.out]
           exact NdsNewE.none (k := 4) hw6
         · go_wp2_with (first
             | (at_builtin; refine wpList_append_own_at _ rfl (.tmp 70) (.tmp 73) 22 rfl wo.heap.size 37 j0 _ 4 48 Tryz.underlying22 hj hy0 hy1 hy2 rfl (by omega) _ l (flat (x0 :: catF ss ms (S.take k))) rfl HOB.out ⟨wr.heap.size, 0, none⟩ 1 1 (flat [⟨7, 0, s, ⟨#[]⟩⟩]) rfl rfl (fun j u hu => new_flat wr 37 ⟨7, 0, s, ⟨#[]⟩⟩ _ rfl j u hu) (flat_one_cell _) (by unfold maxLen; omega) (by omega) (by simp; omega) ?_; intro v1 w5 hown5 hgrow5 _ hloc5; obtain ⟨A5, c5, hv5, -⟩ := own_nodes' hown5; subst hv5; have HB5 := Lib.hid (HBG.out w5 hgrow5); have HBY5 := Lib.hid (HBYG.out w5 hgrow5); have hlook := HLK.out w5 HBY5.out; have HO5 := Lib.hid hown5; have HZ5 := Lib.hid (HZG.out w5 hgrow5); have HLC5 := Lib.hid (HLG.out w5 (.slice A5 (l + 1) c5) hgrow5 hloc5); clear hown5 hgrow5 hloc5)
             | (at_builtin; refine wpList_append_own_at _ rfl (.tmp 75) (.tmp 78) 22 rfl wo.heap.size 37 j0 _ 4 48 Tryz.underlying22 hj hy0 hy1 hy2 rfl (by omega) _ (l + 1) (flat (x0 :: catF ss ms (S.take k)) ++ flat [⟨7, 0, s, ⟨#[]⟩⟩]) rfl HO5.out ⟨be, oe, none⟩ ey.length cy (flat ey) rfl (flat_len ey) (HCE.out w5 HB5.out) (flat_one_cell ey) (by unfold maxLen; omega) (by omega) (by have := HZ5.out; omega) ?_; intro v2 w6 hown6 hgrow6 _ hloc6; obtain ⟨A6, c6, hv6, -⟩ := own_nodes' hown6; subst hv6))
           have hw6 := HB5.out.grown hgrow6 HB5.out.size (fun q hq => by have := (own_lt HO5.out hq).1; omega)
           have HO6 : Hid (w6.ownsRow wo.heap.size 37 4 (.slice A6 (l + 1 + ey.length) c6) (l + 1 + ey.length) (flat (x0 :: catF ss ms (S.take (k + 1))))) := by
             show World.ownsRow _ _ _ _ _ _ _
             rw [HCT.out, HFD.out, ← List.cons_append, show (⟨7, 0, s, ⟨#[]⟩⟩ :: ey : List Nd) = [⟨7, 0, s, ⟨#[]⟩⟩] ++ ey from rfl, ← List.append_assoc, flat_append, flat_append]
             exact hown6
           have HBY6 : Hid (ByAt w6 w.heap.size ss ms ss.length) := HBY5.out.kept hgrow6 (fun e => by have := (own_lt HO5.out e.symm).1; omega)
           have hz6 : w2.heap.size ≤ w6.heap.size := by have := HZ5.out; have := hgrow6.size; omega
           have HST6 : Hid (StrSl w6 w2.heap.size (some ⟨bs, os, none⟩) S) := HLC5.out.2.but (g := wo.heap.size) (fun b o e => HASB.out b o e) (fun k hk hne => hgrow6.block k (by have := HZ5.out; omega) (fun e => by rcases HLC5.out.1 k e.symm with h | h; exact hne h; omega))
           have HOW6 : Hid (∀ b, (Value.slice A6 (l + 1 + ey.length) c6).ownBlock = some b → b = wo.heap.size ∨ w2.heap.size ≤ b) := fun b hb => by
             rcases hloc6 with h | h
             · exact HLC5.out.1 b (h ▸ hb)
             · rw [h] at hb; injection hb with hb; right; have := HZ5.out; omega
           clear hown6 hgrow6 hlook
           exact ⟨⟨k + 1, l + 1 + ey.length, by go_num, by omega, by omega, HL2, HO6, HBY6, hw6, HST6, HOW6, hz6⟩, by simp [intOf]; omega⟩
       · have HT : Hid (S.take k = S) := by show _ = _; rw [List.take_of_length_le (by omega)]
         rw [HT.out] at HOr HLL
         have HQV : Hid (q = .ok (x0 :: catF ss ms S)) := by show _ = _; rw [← HQ.out, if_neg (by have := HLL.out; omega)]
         obtain ⟨Ao, co, hv, hco, hcm4, hso, hnew⟩ := own_form_new HOr.out
         subst hv
         have HSO2 := Lib.hid hso
         have HNW := Lib.hid hnew
         clear hso HOr hnew
         go_wp2_with fail
         go_ret2
         rw [HQV.out]
         have hll := HLL.out
         subst hll
         exact ⟨Ao, co, rfl, hco, hcm4, HSO2.out, hbr2, fun b o h => by have := HNW.out b o h; omega⟩
end Go.Proofs.YtpheiojmcafolaaGreatDoor
namespace Go.Proofs.YtpheiojmcafolaaGreatDoor
set_option maxRecDepth 100000
open Go.RowKit Go.Sort
def gx (xb : Nat) (w : World) (b : Nat) : Prop := xb ≤ b ∧ b < w.heap.size
def NextPost (x : Evl) (xb j : Nat) (q : Rs (List Nd)) (w : World) (r : Ending) (w' : World) : Prop :=
 (∀ v, q = .ok v → ∃ A c, r = .returned (.slice A v.length c) ∧ v.length ≤ c ∧ c ≤ 9223372036854775807 ∧ NdOff (gx xb w) w' w'.heap.size A v ∧ Blk w' xb 99 (x.cells j)) ∧ (∀ k, q = .bad k → r = .panicked (noV k)) ∧ Only w.heap.size xb w w'
def NextOk (x : Evl) (xs : List Nd) : Prop := ∀ (i xb : Nat) (rest : List Nd) (w : World), x.e.drop i = xs ++ rest → EvIn x xb w → Blk w xb 99 (x.cells i) →
 Calls Tryz.prog 52 #[.pointer (some ⟨xb, 0, none⟩)] w (NextPost x xb (i + xs.length) (evX x.es x.q xs) w)
theorem EvIn.only {x : Evl} {xb : Nat} {w w' : World} {B : Nat} (h : EvIn x xb w) (ho : Only B xb w w') (hB : xb ≤ B) : EvIn x xb w' := h.keep (ho.below hB (Nat.le_refl _))
structure ValF (v : List Nd) : Prop where
 ok : valErr v = 0
 nd : NdOk v
 ni : NdI v
theorem val_facts {x : Evl} {xb : Nat} {w : World} (hx : EvIn x xb w) {xs : List Nd} (hex : Ex (.one false) xs) (hk : NdOk xs) (hi : NdI xs) {v : List Nd} (h : evX x.es x.q xs = .ok v) : ValF v := by
 obtain ⟨-, hvs⟩ := ents_vals hx.ok
 have hne : ∀ v, valErr v = 0 → v ≠ [] := fun v hv => by obtain ⟨y, r, e, _⟩ := ((val_iff v).1 hv).2.ne; rw [e]; simp
 have hctx : valErr x.q.ctx = 0 := by
   have := hx.qv
   unfold rqErr at this
   by_cases h1 : udErr x.q.who = 0 <;> by_cases h2 : udErr x.q.act = 0 <;> by_cases h3 : udErr x.q.what = 0 <;> by_cases h4 : valErr x.q.ctx = 0 <;> simp_all
 refine ⟨evE_vx hx.qv xs.length xs hex h, ?_, ?_⟩
 · exact (evE_good (es := x.es) (q := x.q) ⟨fun e he => ⟨hne _ (hvs e he).2.1, hx.az e he⟩, hx.uz, hx.pz⟩ ⟨hx.qz.1, hx.qz.2.1, hx.qz.2.2, hne _ hctx, hx.qk⟩ xs.length xs hk h).2
 · exact (evE_goodI (es := x.es) (q := x.q) ⟨fun e he => ⟨rfl, hx.ai e he⟩⟩ ⟨⟨rfl, hx.qi⟩⟩ xs.length xs hi h).2
structure NxS (xb i be oe : Nat) (x : Evl) (n : Nd) (w0 W : World) : Prop where
 s0 : W.cell? ⟨xb, 8, none⟩ = some (.slice (some ⟨be, oe, none⟩) x.e.length x.eca)
 s1 : W.cell? ⟨xb, 9, none⟩ = some (.int .i64 i)
 s2 : W.cell? ⟨be, oe + i * 4, none⟩ = some (.int .i64 n.op)
 s3 : W.cell? ⟨be, oe + i * 4 + 1, none⟩ = some (.int .i64 n.n)
 s4 : W.cell? ⟨be, oe + i * 4 + 2, none⟩ = some (.string n.s)
 s5 : W.cell? ⟨be, oe + i * 4 + 3, none⟩ = some (.string n.t)
theorem NxS.alloc {xb i be oe : Nat} {x : Evl} {n : Nd} {w0 W : World} (h : NxS xb i be oe x n w0 W.drew) (hx : xb < W.heap.size) (hb : be < W.heap.size) (o : Obj) : NxS xb i be oe x n w0 ((W.alloc o).drew) := by
 have a : ∀ {b o' : Nat} {v : Value}, b < W.heap.size → W.cell? ⟨b, o', none⟩ = some v → (W.alloc o).drew.cell? ⟨b, o', none⟩ = some v := fun hb h => by
   rw [← h]; exact World.cell?_alloc_past (w := W) o _ _ hb
 exact ⟨a hx h.s0, a hx h.s1, a hb h.s2, a hb h.s3, a hb h.s4, a hb h.s5⟩
theorem node_at (b o n c i : Nat) (h : i < n) (W : World) : (Instr.indexAt 22 (.slice (some ⟨b, o, none⟩) n c) (.int .i64 (i : Int))).run Tryz.prog W = .ok (.pointer (some ⟨b, o + i * 4, none⟩)) W := by
 have h0 : (i : Int) < (n : Int) := by omega
 have h1 : 0 ≤ (i : Int) := by omega
 go_simp
theorem nd_new (W : World) (n : Nd) : NdAt ((W.alloc (.cells #[.int .i64 n.op, .int .i64 n.n, .string n.s, .string n.t] 37)).drew) W.heap.size 0 n :=
 have h : NdAt (W.alloc (.cells #[.int .i64 n.op, .int .i64 n.n, .string n.s, .string n.t] 37)) W.heap.size 0 n := ⟨by rw [World.cell?_alloc_new]; rfl, by rw [World.cell?_alloc_new]; rfl, by rw [World.cell?_alloc_new]; rfl, by rw [World.cell?_alloc_new]; rfl⟩
 ⟨h.c0, h.c1, h.c2, h.c3⟩
theorem Evl.step {x : Evl} {w : World} {xb i : Nat} {T : TypeId} (h : Blk w xb T (x.cells i)) : Blk (w.setCell ⟨xb, 9, none⟩ (.int .i64 ((i : Int) + 1))) xb T (x.cells (i + 1)) := h.set 9 _
structure NxI (x : Evl) (xb j : Nat) (n : Nd) (w W : World) : Prop where
 blk : Blk W xb 99 (x.cells j)
 ev : EvIn x xb W
 nd : NdAt W w.heap.size 0 n
 only : Only w.heap.size xb w W
 sz : w.heap.size < W.heap.size
def nw (w : World) (xb i : Nat) (n : Nd) : World := (w.setCell ⟨xb, 9, none⟩ (.int .i64 ((i : Int) + 1))).alloc (.cells #[.int .i64 n.op, .int .i64 n.n, .string n.s, .string n.t] 37)
theorem NdAt.drew {W : World} {b o : Nat} {n : Nd} (h : NdAt W b o n) : NdAt W.drew b o n := ⟨h.c0, h.c1, h.c2, h.c3⟩
theorem EvIn.drew {x : Evl} {B : Nat} {W : World} (h : EvIn x B W) : EvIn x B W.drew := h.keep (RowKit.Below.refl _ _).drew
theorem NxI.drew {x : Evl} {xb i : Nat} {n : Nd} {w W : World} (h : NxI x xb i n w W) : NxI x xb i n w W.drew := ⟨h.blk.drew, h.ev.drew, h.nd.drew, h.only.drew, h.sz⟩
theorem nw_size (w : World) (xb i : Nat) (n : Nd) : (nw w xb i n).heap.size = w.heap.size + 1 := by simp [nw]
theorem nx_start {x : Evl} {xb i : Nat} {n : Nd} {w : World} (hx : EvIn x xb w) (hB : Blk w xb 99 (x.cells i)) : NxI x xb (i + 1) n w (nw w xb i n) := by
 have hxb := hB.lt
 have h1 : Only w.heap.size xb w (w.setCell ⟨xb, 9, none⟩ (.int .i64 ((i : Int) + 1))) := (Only.refl _ _ w).setCell (p := ⟨xb, 9, none⟩) (Or.inl rfl) (.int .i64 ((i : Int) + 1))
 have hsz : (w.setCell ⟨xb, 9, none⟩ (.int .i64 ((i : Int) + 1))).heap.size = w.heap.size := by simp
 have h2 : Only w.heap.size xb w (nw w xb i n) := h1.alloc (Nat.le_of_eq hsz.symm) _
 have hn := nd_new (w.setCell ⟨xb, 9, none⟩ (.int .i64 ((i : Int) + 1))) n
 rw [hsz] at hn
 exact ⟨(Evl.step hB).alloc _, hx.keep (h2.below (Nat.le_of_lt hxb) (Nat.le_refl _)), ⟨hn.c0, hn.c1, hn.c2, hn.c3⟩, h2, by simp [nw]⟩
theorem NdOff.up {xb : Nat} {w W w' : World} {A : Option Addr} {v : List Nd} (h : NdOff (gx xb W) w' w'.heap.size A v) (hz : w.heap.size ≤ W.heap.size) : NdOff (gx xb w) w' w'.heap.size A v := fun hne => by
 obtain ⟨b, o, e1, e2, e3, e4⟩ := h hne
 exact ⟨b, o, e1, e2, by unfold gx at e3 ⊢; omega, e4⟩
theorem NdOff.past {xb B : Nat} {w w1 w' : World} {A : Option Addr} {v : List Nd} (h : NdOff (gx xb w) w1 w1.heap.size A v) (ho : Only B xb w1 w') (hB : w1.heap.size ≤ B) (hx : xb < w.heap.size) : NdOff (gx xb w) w' w'.heap.size A v :=
 h.keep (fun p h1 h2 => ho.cell (Nat.lt_of_lt_of_le h1 hB) (fun e => h2 ⟨by omega, by omega⟩)) ho.size
theorem NextPost.ok {x : Evl} {xb j : Nat} {v : List Nd} {w w' : World} {A : Option Addr} {c : Nat} (h1 : v.length ≤ c) (h2 : c ≤ 9223372036854775807) (h3 : NdOff (gx xb w) w' w'.heap.size A v) (h4 : Blk w' xb 99 (x.cells j)) (h5 : Only w.heap.size xb w w') : NextPost x xb j (.ok v) w (.returned (.slice A v.length c)) w' :=
 ⟨fun v' e => by injection e with e; subst e; exact ⟨A, c, rfl, h1, h2, h3, h4⟩, fun k e => (nomatch e), h5⟩
theorem NextPost.bad {x : Evl} {xb j : Nat} {k : Int} {w w' : World} (h5 : Only w.heap.size xb w w') : NextPost x xb j (.bad k) w (.panicked (noV k)) w' :=
 ⟨fun v' e => (nomatch e), fun k' e => by injection e with e; subst e; rfl, h5⟩
theorem leaf_end {x : Evl} {xb i : Nat} {n : Nd} {w : World} (h : NxI x xb (i + 1) n w (nw w xb i n)) (_hxb : xb < w.heap.size) : NextPost x xb (i + 1) (.ok [n]) w (.returned (.slice (some ⟨w.heap.size + 1, 0, none⟩) 1 1)) ((nw w xb i n).alloc (.cells #[.int .i64 n.op, .int .i64 n.n, .string n.s, .string n.t] 37)).drew := by
 have hn := nd_new (nw w xb i n) n
 rw [nw_size] at hn
 refine NextPost.ok (v := [n]) (by simp) (by omega) (fun _ => ⟨w.heap.size + 1, 0, rfl, by simp [nw], by unfold gx; omega, fun k y hk => ?_⟩) (h.blk.alloc _).drew (h.only.alloc (Nat.le_of_lt h.sz) _).drew
 obtain rfl : k = 0 := by
   have := (List.getElem?_eq_some_iff.1 hk).1; simp at this; exact this
 simp at hk; subst hk
 exact hn
set_option maxHeartbeats 6400000 in
theorem next_1 (x : Evl) (n : Nd) (ho : n.op = 1) : NextOk x [n] := by
 intro i xb rest w hdr hx hB
 have hn : x.e[i]? = some n := by
   have := congrArg (fun l => l[0]?) hdr
   simpa [List.getElem?_drop] using this
 have hil : i < x.e.length := (List.getElem?_eq_some_iff.1 hn).1
 have hxb := hB.lt
 obtain ⟨be, oe, hea, hbe, hcs⟩ := hx.ex.at_ hil
 obtain ⟨n0, n1, n2, n3⟩ := hcs i n hn
 have hS0 : NxS xb i be oe x n w w.drew := ⟨by rw [← hea]; exact hB.cell 8, hB.cell 9, n0, n1, n2, n3⟩
 have hbw : be < w.heap.size := Nat.lt_trans hbe hxb
 have HS0 := Lib.hid (hS0.alloc hxb hbw)
 have HS1 := Lib.hid hS0
 have hia := node_at be oe x.e.length x.eca i hil
 have HDR := Lib.hid hdr
 have hni := nx_start (n := n) hx hB
 have HNI := Lib.hid hni
 have h9 : w.cell? ⟨xb, 9, none⟩ = some (.int .i64 i) := hS0.s1
 have hf9 : w.frozen? ⟨xb, 9, none⟩ = false := hB.frozen 9
 have hi1 : IntKind.wrap .i64 ((i : Int) + 1) = (i : Int) + 1 := by
   have := hx.el
   exact IntWalk.i64_in _ (by omega)
 clear hcs n0 n1 n2 n3 hea hn hx hB hdr hS0 hni
 have t1 : (n.op == 1) = true := by simp [ho]
 have t2 : (n.op == 2) = false := by simp [ho]
 have t3 : (n.op == 3) = false := by simp [ho]
 have t4 : (n.op == 4) = false := by simp [ho]
 have t8 : (n.op == 8) = false := by simp [ho]
 have t11 : (n.op == 11) = false := by simp [ho]
 have t12 : (n.op == 12) = false := by simp [ho]
 have t13 : (n.op == 13) = false := by simp [ho]
 have t5 : (n.op == 5) = false := by simp [ho]
 have t6 : (n.op == 6) = false := by simp [ho]
 have t9 : (n.op == 9) = false := by simp [ho]
 have t10 : (n.op == 10) = false := by simp [ho]
 have t21 : (n.op == 21) = false := by simp [ho]
 have t22 : (n.op == 22) = false := by simp [ho]
 have t23 : (n.op == 23) = false := by simp [ho]
 have t24 : (n.op == 24) = false := by simp [ho]
 rw [evX_leaf x.es x.q (by omega)]
 clear ho
 go_enter Tryz.func52, Tryz.ntmps52
 go_wp2_with fail
 refine wp_region_ord (S := NxS xb i be oe x n w) [(0, false), (1, false), (2, false), (3, false), (4, false), (5, false), (6, false), (7, false), (8, false), (9, false), (10, true), (11, true)] (by kernel_rfl) (by kernel_rfl) (fun _ _ _ _ _ h => h) HS1.out (fun hW' => ?_)
 simp only [ordOps, List.filterMap_cons, List.filterMap_nil, List.getElem?_cons_zero, List.getElem?_cons_succ, Option.map_some]
 (repeat (first | (refine hd_take (v := ?_) (by rfl) ?_ ?_; rotate_left; (focus (intro W hW; obtain ⟨s0, s1, s2, s3, s4, s5⟩ := hW; go_simp; try with_reducible rfl)); simp only [Act.put, List.setIfInBounds_toArray, List.set_cons_zero, List.set_cons_succ]) | (refine hd_skip (by rfl) ?_; simp only [Act.put, List.setIfInBounds_toArray, List.set_cons_zero, List.set_cons_succ])))
 clear hW'
 refine hd_call (fun K hK => ?_)
 go_simp
 refine hK _ _ (HS0.out _) ?_
 clear hK K
 refine hd_call (fun K hK => ?_)
 go_simp
 refine hK _ _ (HS0.out _) ?_
 clear hK K
 refine hd_nil ?_
 go_wp2_with fail
 go_ret
 exact leaf_end HNI.out hxb
set_option maxHeartbeats 6400000 in
theorem next_2 (x : Evl) (n : Nd) (ho : n.op = 2) : NextOk x [n] := by
 intro i xb rest w hdr hx hB
 have hn : x.e[i]? = some n := by
   have := congrArg (fun l => l[0]?) hdr
   simpa [List.getElem?_drop] using this
 have hil : i < x.e.length := (List.getElem?_eq_some_iff.1 hn).1
 have hxb := hB.lt
 obtain ⟨be, oe, hea, hbe, hcs⟩ := hx.ex.at_ hil
 obtain ⟨n0, n1, n2, n3⟩ := hcs i n hn
 have hS0 : NxS xb i be oe x n w w.drew := ⟨by rw [← hea]; exact hB.cell 8, hB.cell 9, n0, n1, n2, n3⟩
 have hbw : be < w.heap.size := Nat.lt_trans hbe hxb
 have HS0 := Lib.hid (hS0.alloc hxb hbw)
 have HS1 := Lib.hid hS0
 have hia := node_at be oe x.e.length x.eca i hil
 have HDR := Lib.hid hdr
 have hni := nx_start (n := n) hx hB
 have HNI := Lib.hid hni
 have h9 : w.cell? ⟨xb, 9, none⟩ = some (.int .i64 i) := hS0.s1
 have hf9 : w.frozen? ⟨xb, 9, none⟩ = false := hB.frozen 9
 have hi1 : IntKind.wrap .i64 ((i : Int) + 1) = (i : Int) + 1 := by
   have := hx.el
   exact IntWalk.i64_in _ (by omega)
 clear hcs n0 n1 n2 n3 hea hn hx hB hdr hS0 hni
 have t1 : (n.op == 1) = false := by simp [ho]
 have t2 : (n.op == 2) = true := by simp [ho]
 have t3 : (n.op == 3) = false := by simp [ho]
 have t4 : (n.op == 4) = false := by simp [ho]
 have t8 : (n.op == 8) = false := by simp [ho]
 have t11 : (n.op == 11) = false := by simp [ho]
 have t12 : (n.op == 12) = false := by simp [ho]
 have t13 : (n.op == 13) = false := by simp [ho]
 have t5 : (n.op == 5) = false := by simp [ho]
 have t6 : (n.op == 6) = false := by simp [ho]
 have t9 : (n.op == 9) = false := by simp [ho]
 have t10 : (n.op == 10) = false := by simp [ho]
 have t21 : (n.op == 21) = false := by simp [ho]
 have t22 : (n.op == 22) = false := by simp [ho]
 have t23 : (n.op == 23) = false := by simp [ho]
 have t24 : (n.op == 24) = false := by simp [ho]
 rw [evX_leaf x.es x.q (by omega)]
 clear ho
 go_enter Tryz.func52, Tryz.ntmps52
 go_wp2_with fail
 refine wp_region_ord (S := NxS xb i be oe x n w) [(0, false), (1, false), (2, false), (3, false), (4, false), (5, false), (6, false), (7, false), (8, false), (9, false), (10, true), (11, true)] (by kernel_rfl) (by kernel_rfl) (fun _ _ _ _ _ h => h) HS1.out (fun hW' => ?_)
 simp only [ordOps, List.filterMap_cons, List.filterMap_nil, List.getElem?_cons_zero, List.getElem?_cons_succ, Option.map_some]
 (repeat (first | (refine hd_take (v := ?_) (by rfl) ?_ ?_; rotate_left; (focus (intro W hW; obtain ⟨s0, s1, s2, s3, s4, s5⟩ := hW; go_simp; try with_reducible rfl)); simp only [Act.put, List.setIfInBounds_toArray, List.set_cons_zero, List.set_cons_succ]) | (refine hd_skip (by rfl) ?_; simp only [Act.put, List.setIfInBounds_toArray, List.set_cons_zero, List.set_cons_succ])))
 clear hW'
 refine hd_call (fun K hK => ?_)
 go_simp
 refine hK _ _ (HS0.out _) ?_
 clear hK K
 refine hd_call (fun K hK => ?_)
 go_simp
 refine hK _ _ (HS0.out _) ?_
 clear hK K
 refine hd_nil ?_
 go_wp2_with fail
 go_ret
 exact leaf_end HNI.out hxb
set_option maxHeartbeats 6400000 in
theorem next_3 (x : Evl) (n : Nd) (ho : n.op = 3) : NextOk x [n] := by
 intro i xb rest w hdr hx hB
 have hn : x.e[i]? = some n := by
   have := congrArg (fun l => l[0]?) hdr
   simpa [List.getElem?_drop] using this
 have hil : i < x.e.length := (List.getElem?_eq_some_iff.1 hn).1
 have hxb := hB.lt
 obtain ⟨be, oe, hea, hbe, hcs⟩ := hx.ex.at_ hil
 obtain ⟨n0, n1, n2, n3⟩ := hcs i n hn
 have hS0 : NxS xb i be oe x n w w.drew := ⟨by rw [← hea]; exact hB.cell 8, hB.cell 9, n0, n1, n2, n3⟩
 have hbw : be < w.heap.size := Nat.lt_trans hbe hxb
 have HS0 := Lib.hid (hS0.alloc hxb hbw)
 have HS1 := Lib.hid hS0
 have hia := node_at be oe x.e.length x.eca i hil
 have HDR := Lib.hid hdr
 have hni := nx_start (n := n) hx hB
 have HNI := Lib.hid hni
 have h9 : w.cell? ⟨xb, 9, none⟩ = some (.int .i64 i) := hS0.s1
 have hf9 : w.frozen? ⟨xb, 9, none⟩ = false := hB.frozen 9
 have hi1 : IntKind.wrap .i64 ((i : Int) + 1) = (i : Int) + 1 := by
   have := hx.el
   exact IntWalk.i64_in _ (by omega)
 clear hcs n0 n1 n2 n3 hea hn hx hB hdr hS0 hni
 have t1 : (n.op == 1) = false := by simp [ho]
 have t2 : (n.op == 2) = false := by simp [ho]
 have t3 : (n.op == 3) = true := by simp [ho]
 have t4 : (n.op == 4) = false := by simp [ho]
 have t8 : (n.op == 8) = false := by simp [ho]
 have t11 : (n.op == 11) = false := by simp [ho]
 have t12 : (n.op == 12) = false := by simp [ho]
 have t13 : (n.op == 13) = false := by simp [ho]
 have t5 : (n.op == 5) = false := by simp [ho]
 have t6 : (n.op == 6) = false := by simp [ho]
 have t9 : (n.op == 9) = false := by simp [ho]
 have t10 : (n.op == 10) = false := by simp [ho]
 have t21 : (n.op == 21) = false := by simp [ho]
 have t22 : (n.op == 22) = false := by simp [ho]
 have t23 : (n.op == 23) = false := by simp [ho]
 have t24 : (n.op == 24) = false := by simp [ho]
 rw [evX_leaf x.es x.q (by omega)]
 clear ho
 go_enter Tryz.func52, Tryz.ntmps52
 go_wp2_with fail
 refine wp_region_ord (S := NxS xb i be oe x n w) [(0, false), (1, false), (2, false), (3, false), (4, false), (5, false), (6, false), (7, false), (8, false), (9, false), (10, true), (11, true)] (by kernel_rfl) (by kernel_rfl) (fun _ _ _ _ _ h => h) HS1.out (fun hW' => ?_)
 simp only [ordOps, List.filterMap_cons, List.filterMap_nil, List.getElem?_cons_zero, List.getElem?_cons_succ, Option.map_some]
 (repeat (first | (refine hd_take (v := ?_) (by rfl) ?_ ?_; rotate_left; (focus (intro W hW; obtain ⟨s0, s1, s2, s3, s4, s5⟩ := hW; go_simp; try with_reducible rfl)); simp only [Act.put, List.setIfInBounds_toArray, List.set_cons_zero, List.set_cons_succ]) | (refine hd_skip (by rfl) ?_; simp only [Act.put, List.setIfInBounds_toArray, List.set_cons_zero, List.set_cons_succ])))
 clear hW'
 refine hd_call (fun K hK => ?_)
 go_simp
 refine hK _ _ (HS0.out _) ?_
 clear hK K
 refine hd_call (fun K hK => ?_)
 go_simp
 refine hK _ _ (HS0.out _) ?_
 clear hK K
 refine hd_nil ?_
 go_wp2_with fail
 go_ret
 exact leaf_end HNI.out hxb
set_option maxHeartbeats 6400000 in
theorem next_4 (x : Evl) (n : Nd) (ho : n.op = 4) : NextOk x [n] := by
 intro i xb rest w hdr hx hB
 have hn : x.e[i]? = some n := by
   have := congrArg (fun l => l[0]?) hdr
   simpa [List.getElem?_drop] using this
 have hil : i < x.e.length := (List.getElem?_eq_some_iff.1 hn).1
 have hxb := hB.lt
 obtain ⟨be, oe, hea, hbe, hcs⟩ := hx.ex.at_ hil
 obtain ⟨n0, n1, n2, n3⟩ := hcs i n hn
 have hS0 : NxS xb i be oe x n w w.drew := ⟨by rw [← hea]; exact hB.cell 8, hB.cell 9, n0, n1, n2, n3⟩
 have hbw : be < w.heap.size := Nat.lt_trans hbe hxb
 have HS0 := Lib.hid (hS0.alloc hxb hbw)
 have HS1 := Lib.hid hS0
 have hia := node_at be oe x.e.length x.eca i hil
 have HDR := Lib.hid hdr
 have hni := nx_start (n := n) hx hB
 have HNI := Lib.hid hni
 have h9 : w.cell? ⟨xb, 9, none⟩ = some (.int .i64 i) := hS0.s1
 have hf9 : w.frozen? ⟨xb, 9, none⟩ = false := hB.frozen 9
 have hi1 : IntKind.wrap .i64 ((i : Int) + 1) = (i : Int) + 1 := by
   have := hx.el
   exact IntWalk.i64_in _ (by omega)
 clear hcs n0 n1 n2 n3 hea hn hx hB hdr hS0 hni
 have t1 : (n.op == 1) = false := by simp [ho]
 have t2 : (n.op == 2) = false := by simp [ho]
 have t3 : (n.op == 3) = false := by simp [ho]
 have t4 : (n.op == 4) = true := by simp [ho]
 have t8 : (n.op == 8) = false := by simp [ho]
 have t11 : (n.op == 11) = false := by simp [ho]
 have t12 : (n.op == 12) = false := by simp [ho]
 have t13 : (n.op == 13) = false := by simp [ho]
 have t5 : (n.op == 5) = false := by simp [ho]
 have t6 : (n.op == 6) = false := by simp [ho]
 have t9 : (n.op == 9) = false := by simp [ho]
 have t10 : (n.op == 10) = false := by simp [ho]
 have t21 : (n.op == 21) = false := by simp [ho]
 have t22 : (n.op == 22) = false := by simp [ho]
 have t23 : (n.op == 23) = false := by simp [ho]
 have t24 : (n.op == 24) = false := by simp [ho]
 rw [evX_leaf x.es x.q (by omega)]
 clear ho
 go_enter Tryz.func52, Tryz.ntmps52
 go_wp2_with fail
 refine wp_region_ord (S := NxS xb i be oe x n w) [(0, false), (1, false), (2, false), (3, false), (4, false), (5, false), (6, false), (7, false), (8, false), (9, false), (10, true), (11, true)] (by kernel_rfl) (by kernel_rfl) (fun _ _ _ _ _ h => h) HS1.out (fun hW' => ?_)
 simp only [ordOps, List.filterMap_cons, List.filterMap_nil, List.getElem?_cons_zero, List.getElem?_cons_succ, Option.map_some]
 (repeat (first | (refine hd_take (v := ?_) (by rfl) ?_ ?_; rotate_left; (focus (intro W hW; obtain ⟨s0, s1, s2, s3, s4, s5⟩ := hW; go_simp; try with_reducible rfl)); simp only [Act.put, List.setIfInBounds_toArray, List.set_cons_zero, List.set_cons_succ]) | (refine hd_skip (by rfl) ?_; simp only [Act.put, List.setIfInBounds_toArray, List.set_cons_zero, List.set_cons_succ])))
 clear hW'
 refine hd_call (fun K hK => ?_)
 go_simp
 refine hK _ _ (HS0.out _) ?_
 clear hK K
 refine hd_call (fun K hK => ?_)
 go_simp
 refine hK _ _ (HS0.out _) ?_
 clear hK K
 refine hd_nil ?_
 go_wp2_with fail
 go_ret
 exact leaf_end HNI.out hxb
end Go.Proofs.YtpheiojmcafolaaGreatDoor
namespace Go.Proofs.YtpheiojmcafolaaGreatDoor
set_option maxRecDepth 100000
open Go.RowKit Go.Sort
def NxA (x : Evl) (xb j : Nat) (n : Nd) (q : Rs (List Nd)) (w W : World) (r : Ending) (w' : World) : Prop :=
 (∀ v, q = .ok v → ∃ A c, r = .returned (.slice A v.length c) ∧ ValIn v A c w' ∧ NdI v ∧ NdOff (gx xb w) w' w'.heap.size A v ∧ NxI x xb j n w w') ∧ (∀ k, q = .bad k → r = .panicked (noV k)) ∧ Only w.heap.size xb w w' ∧ Only W.heap.size xb W w'
theorem NdAt.only {W w' : World} {b o B g : Nat} {n : Nd} (h : NdAt W b o n) (ho : Only B g W w') (hb : b < B) (hg : b ≠ g) : NdAt w' b o n :=
 ⟨(ho.cell hb hg).trans h.c0, (ho.cell hb hg).trans h.c1, (ho.cell hb hg).trans h.c2, (ho.cell hb hg).trans h.c3⟩
theorem NxI.next {x : Evl} {xb j : Nat} {n : Nd} {w W : World} {a rest : List Nd} (h : NxI x xb j n w W) (hxb : xb < w.heap.size) (ha : NextOk x a) (hex : Ex (.one false) a) (hd : x.e.drop j = a ++ rest) :
   Calls Tryz.prog 52 #[.pointer (some ⟨xb, 0, none⟩)] W (NxA x xb (j + a.length) n (evX x.es x.q a) w W) := by
 have hmem : ∀ y ∈ a, y ∈ x.e := fun y hy => List.mem_of_mem_drop (i := j) (by rw [hd]; simp [hy])
 have hk : NdOk a := NdOk.sub h.ev.ek hmem
 have hi : NdI a := NdI.sub h.ev.ei hmem
 have hsz := h.sz
 refine (ha j xb rest W hd h.ev h.blk).mono ?_
 rintro r w' ⟨h1, h2, h3⟩
 have ho : Only w.heap.size xb w w' := h.only.trans (h3.mono (Nat.le_of_lt hsz))
 refine ⟨fun v hv => ?_, h2, ho, h3⟩
 obtain ⟨A, c, rfl, g1, g2, g3, g4⟩ := h1 v hv
 have hf := val_facts h.ev hex hk hi hv
 exact ⟨A, c, rfl, ⟨hf.ok, hf.nd, g1, g2, g3.sl⟩, hf.ni, g3.up (Nat.le_of_lt hsz), g4, h.ev.keep (h3.below (Nat.le_of_lt h.blk.lt) (Nat.le_refl _)), h.nd.only h3 hsz (by omega), ho, Nat.lt_of_lt_of_le hsz h3.size⟩
theorem NextPost.rs {x : Evl} {xb j : Nat} {n : Nd} {q : Rs (List Nd)} {w W w' : World} {r : Ending} (h : NxI x xb j n w W) (hr : RsBack W r w' q) : NextPost x xb j q w r w' := by
 obtain ⟨h1, h2, h3⟩ := hr
 have hl := h.blk.lt
 have ho : Only W.heap.size xb W w' := Only.of_below h3 (Nat.le_refl _)
 refine ⟨fun v hv => ?_, h2, h.only.trans (ho.mono (Nat.le_of_lt h.sz))⟩
 obtain ⟨A, c, e, g1, g2, g3, _, g5⟩ := h1 v hv
 refine ⟨A, c, e, g1, g2, fun hne => ?_, h.blk.below h3 hl⟩
 obtain ⟨b, o, e1, e2, e3⟩ := g3 hne
 exact ⟨b, o, e1, e2, by have := g5 b o e1; have := h.sz; unfold gx; omega, e3⟩
structure OpS (b : Nat) (k : Int) (W : World) : Prop where
 s0 : W.cell? ⟨b, 0, none⟩ = some (.int .i64 k)
set_option maxHeartbeats 6400000 in
theorem next_9 (x : Evl) (n : Nd) (a : List Nd) (ha : NextOk x a) (hex : Ex (.one false) a) (ho : n.op = 9) : NextOk x (n :: a) := by
 intro i xb rest w hdr hx hB
 have hn : x.e[i]? = some n := by
   have := congrArg (fun l => l[0]?) hdr
   simpa [List.getElem?_drop] using this
 have hil : i < x.e.length := (List.getElem?_eq_some_iff.1 hn).1
 have hxb := hB.lt
 obtain ⟨be, oe, hea, hbe, hcs⟩ := hx.ex.at_ hil
 obtain ⟨n0, n1, n2, n3⟩ := hcs i n hn
 have hS0 : NxS xb i be oe x n w w.drew := ⟨by rw [← hea]; exact hB.cell 8, hB.cell 9, n0, n1, n2, n3⟩
 have hbw : be < w.heap.size := Nat.lt_trans hbe hxb
 have HS0 := Lib.hid (hS0.alloc hxb hbw)
 have HS1 := Lib.hid hS0
 have hia := node_at be oe x.e.length x.eca i hil
 have HDR := Lib.hid hdr
 have hni := nx_start (n := n) hx hB
 have HNI := Lib.hid hni
 have h9 : w.cell? ⟨xb, 9, none⟩ = some (.int .i64 i) := hS0.s1
 have hf9 : w.frozen? ⟨xb, 9, none⟩ = false := hB.frozen 9
 have hi1 : IntKind.wrap .i64 ((i : Int) + 1) = (i : Int) + 1 := by
   have := hx.el
   exact IntWalk.i64_in _ (by omega)
 have hni0 := hni.drew
 have hdr1 : x.e.drop (i + 1) = a ++ rest := by
   have := congrArg List.tail hdr
   simpa [List.tail_drop] using this
 have hns : n.s.size ≤ 140737488351232 := (hx.ek n (List.mem_of_getElem? hn)).1
 clear hcs n0 n1 n2 n3 hea hn hx hB hdr hS0 hni HDR
 have t1 : (n.op == 1) = false := by simp [ho]
 have t2 : (n.op == 2) = false := by simp [ho]
 have t3 : (n.op == 3) = false := by simp [ho]
 have t4 : (n.op == 4) = false := by simp [ho]
 have t8 : (n.op == 8) = false := by simp [ho]
 have t11 : (n.op == 11) = false := by simp [ho]
 have t12 : (n.op == 12) = false := by simp [ho]
 have t13 : (n.op == 13) = false := by simp [ho]
 have t5 : (n.op == 5) = false := by simp [ho]
 have t6 : (n.op == 6) = false := by simp [ho]
 have t9 : (n.op == 9) = true := by simp [ho]
 have t10 : (n.op == 10) = false := by simp [ho]
 have t21 : (n.op == 21) = false := by simp [ho]
 have t22 : (n.op == 22) = false := by simp [ho]
 have t23 : (n.op == 23) = false := by simp [ho]
 have t24 : (n.op == 24) = false := by simp [ho]
 have hcall := hni0.next hxb ha hex (rest := rest) hdr1
 unfold nw at hcall
 have HA := Lib.hid hcall
 have hlen : i + (n :: a).length = i + 1 + a.length := by simp; omega
 rw [hlen, evX_one x.es x.q (by omega) hex]
 have ho' : n.op = 9 ∨ n.op = 10 ∨ n.op = 21 ∨ n.op = 22 ∨ n.op = 23 ∨ n.op = 24 := by omega
 have HOP := Lib.hid ho'
 have HNS := Lib.hid hns
 generalize i + 1 + a.length = j at HA ⊢
 generalize evX x.es x.q a = q at HA ⊢
 obtain ⟨q', hq'⟩ : ∃ q', q' = q.bind (fun v => singleR x.es n v) := ⟨_, rfl⟩
 rw [← hq']
 have HQ := Lib.hid hq'
 clear hcall hni0 hdr1 ha hex ho ho' hlen hns hq'
 go_enter Tryz.func52, Tryz.ntmps52
 go_wp2_with fail
 refine wp_region_ord (S := NxS xb i be oe x n w) [(0, false), (1, false), (2, false), (3, false), (4, false), (5, false), (6, false), (7, false), (8, false), (9, false), (10, true), (11, true)] (by kernel_rfl) (by kernel_rfl) (fun _ _ _ _ _ h => h) HS1.out (fun hW' => ?_)
 simp only [ordOps, List.filterMap_cons, List.filterMap_nil, List.getElem?_cons_zero, List.getElem?_cons_succ, Option.map_some]
 (repeat (first | (refine hd_take (v := ?_) (by rfl) ?_ ?_; rotate_left; (focus (intro W hW; obtain ⟨s0, s1, s2, s3, s4, s5⟩ := hW; go_simp; try with_reducible rfl)); simp only [Act.put, List.setIfInBounds_toArray, List.set_cons_zero, List.set_cons_succ]) | (refine hd_skip (by rfl) ?_; simp only [Act.put, List.setIfInBounds_toArray, List.set_cons_zero, List.set_cons_succ])))
 clear hW'
 refine hd_call (fun K hK => ?_)
 go_simp
 refine hK _ _ (HS0.out _) ?_
 clear hK K
 refine hd_call (fun K hK => ?_)
 go_simp
 refine hK _ _ (HS0.out _) ?_
 clear hK K
 refine hd_nil ?_
 go_wp2_with fail
 refine HA.out.mono ?_
 rintro r w1 ⟨hq1, hq2, ho1, hoW1⟩
 have HO1 := Lib.hid ho1
 clear ho1 hoW1
 cases q with
 | bad k =>
   have hr := hq2 k rfl
   subst hr
   clear hq1 hq2
   obtain rfl : q' = .bad k := HQ.out
   clear HQ
   go_wp2_with fail
   exact ⟨rfl, NextPost.bad HO1.out⟩
 | ok v =>
   obtain ⟨A, c, rfl, hv, hvi, -, hn1⟩ := hq1 v rfl
   have HN1 := Lib.hid hn1
   have hs := eval_single x xb j n v A c w1 hn1.ev hn1.blk hv hvi HNS.out HOP.out
   rw [show singleR x.es n v = q' from HQ.out.symm] at hs
   have HS := Lib.hid hs
   have c0 : w1.cell? ⟨w.heap.size, 0, none⟩ = some (.int .i64 n.op) := hn1.nd.c0
   have c1 : w1.cell? ⟨w.heap.size, 1, none⟩ = some (.int .i64 n.n) := hn1.nd.c1
   have c2 : w1.cell? ⟨w.heap.size, 2, none⟩ = some (.string n.s) := hn1.nd.c2
   have c3 : w1.cell? ⟨w.heap.size, 3, none⟩ = some (.string n.t) := hn1.nd.c3
   clear hn1 hq1 hq2 hv hvi hs HQ
   go_wp2_with fail
   refine HS.out.mono ?_
   rintro r w2 hr2
   have hpost := NextPost.rs HN1.out hr2
   obtain ⟨g1, g2, -⟩ := hr2
   have HP := Lib.hid hpost
   clear hpost
   cases q' with
   | bad k =>
     have hr := g2 k rfl
     subst hr
     clear g1 g2
     go_wp2_with fail
     exact ⟨rfl, HP.out⟩
   | ok u =>
     obtain ⟨A2, c2', rfl, -⟩ := g1 u rfl
     clear g1 g2
     go_wp2_with fail
     go_ret
     exact HP.out
set_option maxHeartbeats 6400000 in
theorem next_10 (x : Evl) (n : Nd) (a : List Nd) (ha : NextOk x a) (hex : Ex (.one false) a) (ho : n.op = 10) : NextOk x (n :: a) := by
 intro i xb rest w hdr hx hB
 have hn : x.e[i]? = some n := by
   have := congrArg (fun l => l[0]?) hdr
   simpa [List.getElem?_drop] using this
 have hil : i < x.e.length := (List.getElem?_eq_some_iff.1 hn).1
 have hxb := hB.lt
 obtain ⟨be, oe, hea, hbe, hcs⟩ := hx.ex.at_ hil
 obtain ⟨n0, n1, n2, n3⟩ := hcs i n hn
 have hS0 : NxS xb i be oe x n w w.drew := ⟨by rw [← hea]; exact hB.cell 8, hB.cell 9, n0, n1, n2, n3⟩
 have hbw : be < w.heap.size := Nat.lt_trans hbe hxb
 have HS0 := Lib.hid (hS0.alloc hxb hbw)
 have HS1 := Lib.hid hS0
 have hia := node_at be oe x.e.length x.eca i hil
 have HDR := Lib.hid hdr
 have hni := nx_start (n := n) hx hB
 have HNI := Lib.hid hni
 have h9 : w.cell? ⟨xb, 9, none⟩ = some (.int .i64 i) := hS0.s1
 have hf9 : w.frozen? ⟨xb, 9, none⟩ = false := hB.frozen 9
 have hi1 : IntKind.wrap .i64 ((i : Int) + 1) = (i : Int) + 1 := by
   have := hx.el
   exact IntWalk.i64_in _ (by omega)
 have hni0 := hni.drew
 have hdr1 : x.e.drop (i + 1) = a ++ rest := by
   have := congrArg List.tail hdr
   simpa [List.tail_drop] using this
 have hns : n.s.size ≤ 140737488351232 := (hx.ek n (List.mem_of_getElem? hn)).1
 clear hcs n0 n1 n2 n3 hea hn hx hB hdr hS0 hni HDR
 have t1 : (n.op == 1) = false := by simp [ho]
 have t2 : (n.op == 2) = false := by simp [ho]
 have t3 : (n.op == 3) = false := by simp [ho]
 have t4 : (n.op == 4) = false := by simp [ho]
 have t8 : (n.op == 8) = false := by simp [ho]
 have t11 : (n.op == 11) = false := by simp [ho]
 have t12 : (n.op == 12) = false := by simp [ho]
 have t13 : (n.op == 13) = false := by simp [ho]
 have t5 : (n.op == 5) = false := by simp [ho]
 have t6 : (n.op == 6) = false := by simp [ho]
 have t9 : (n.op == 9) = false := by simp [ho]
 have t10 : (n.op == 10) = true := by simp [ho]
 have t21 : (n.op == 21) = false := by simp [ho]
 have t22 : (n.op == 22) = false := by simp [ho]
 have t23 : (n.op == 23) = false := by simp [ho]
 have t24 : (n.op == 24) = false := by simp [ho]
 have hcall := hni0.next hxb ha hex (rest := rest) hdr1
 unfold nw at hcall
 have HA := Lib.hid hcall
 have hlen : i + (n :: a).length = i + 1 + a.length := by simp; omega
 rw [hlen, evX_one x.es x.q (by omega) hex]
 have ho' : n.op = 9 ∨ n.op = 10 ∨ n.op = 21 ∨ n.op = 22 ∨ n.op = 23 ∨ n.op = 24 := by omega
 have HOP := Lib.hid ho'
 have HNS := Lib.hid hns
 generalize i + 1 + a.length = j at HA ⊢
 generalize evX x.es x.q a = q at HA ⊢
 obtain ⟨q', hq'⟩ : ∃ q', q' = q.bind (fun v => singleR x.es n v) := ⟨_, rfl⟩
 rw [← hq']
 have HQ := Lib.hid hq'
 clear hcall hni0 hdr1 ha hex ho ho' hlen hns hq'
 go_enter Tryz.func52, Tryz.ntmps52
 go_wp2_with fail
 refine wp_region_ord (S := NxS xb i be oe x n w) [(0, false), (1, false), (2, false), (3, false), (4, false), (5, false), (6, false), (7, false), (8, false), (9, false), (10, true), (11, true)] (by kernel_rfl) (by kernel_rfl) (fun _ _ _ _ _ h => h) HS1.out (fun hW' => ?_)
 simp only [ordOps, List.filterMap_cons, List.filterMap_nil, List.getElem?_cons_zero, List.getElem?_cons_succ, Option.map_some]
 (repeat (first | (refine hd_take (v := ?_) (by rfl) ?_ ?_; rotate_left; (focus (intro W hW; obtain ⟨s0, s1, s2, s3, s4, s5⟩ := hW; go_simp; try with_reducible rfl)); simp only [Act.put, List.setIfInBounds_toArray, List.set_cons_zero, List.set_cons_succ]) | (refine hd_skip (by rfl) ?_; simp only [Act.put, List.setIfInBounds_toArray, List.set_cons_zero, List.set_cons_succ])))
 clear hW'
 refine hd_call (fun K hK => ?_)
 go_simp
 refine hK _ _ (HS0.out _) ?_
 clear hK K
 refine hd_call (fun K hK => ?_)
 go_simp
 refine hK _ _ (HS0.out _) ?_
 clear hK K
 refine hd_nil ?_
 go_wp2_with fail
 refine HA.out.mono ?_
 rintro r w1 ⟨hq1, hq2, ho1, hoW1⟩
 have HO1 := Lib.hid ho1
 clear ho1 hoW1
 cases q with
 | bad k =>
   have hr := hq2 k rfl
   subst hr
   clear hq1 hq2
   obtain rfl : q' = .bad k := HQ.out
   clear HQ
   go_wp2_with fail
   exact ⟨rfl, NextPost.bad HO1.out⟩
 | ok v =>
   obtain ⟨A, c, rfl, hv, hvi, -, hn1⟩ := hq1 v rfl
   have HN1 := Lib.hid hn1
   have hs := eval_single x xb j n v A c w1 hn1.ev hn1.blk hv hvi HNS.out HOP.out
   rw [show singleR x.es n v = q' from HQ.out.symm] at hs
   have HS := Lib.hid hs
   have c0 : w1.cell? ⟨w.heap.size, 0, none⟩ = some (.int .i64 n.op) := hn1.nd.c0
   have c1 : w1.cell? ⟨w.heap.size, 1, none⟩ = some (.int .i64 n.n) := hn1.nd.c1
   have c2 : w1.cell? ⟨w.heap.size, 2, none⟩ = some (.string n.s) := hn1.nd.c2
   have c3 : w1.cell? ⟨w.heap.size, 3, none⟩ = some (.string n.t) := hn1.nd.c3
   clear hn1 hq1 hq2 hv hvi hs HQ
   go_wp2_with fail
   refine HS.out.mono ?_
   rintro r w2 hr2
   have hpost := NextPost.rs HN1.out hr2
   obtain ⟨g1, g2, -⟩ := hr2
   have HP := Lib.hid hpost
   clear hpost
   cases q' with
   | bad k =>
     have hr := g2 k rfl
     subst hr
     clear g1 g2
     go_wp2_with fail
     exact ⟨rfl, HP.out⟩
   | ok u =>
     obtain ⟨A2, c2', rfl, -⟩ := g1 u rfl
     clear g1 g2
     go_wp2_with fail
     go_ret
     exact HP.out
set_option maxHeartbeats 6400000 in
theorem next_21 (x : Evl) (n : Nd) (a : List Nd) (ha : NextOk x a) (hex : Ex (.one false) a) (ho : n.op = 21) : NextOk x (n :: a) := by
 intro i xb rest w hdr hx hB
 have hn : x.e[i]? = some n := by
   have := congrArg (fun l => l[0]?) hdr
   simpa [List.getElem?_drop] using this
 have hil : i < x.e.length := (List.getElem?_eq_some_iff.1 hn).1
 have hxb := hB.lt
 obtain ⟨be, oe, hea, hbe, hcs⟩ := hx.ex.at_ hil
 obtain ⟨n0, n1, n2, n3⟩ := hcs i n hn
 have hS0 : NxS xb i be oe x n w w.drew := ⟨by rw [← hea]; exact hB.cell 8, hB.cell 9, n0, n1, n2, n3⟩
 have hbw : be < w.heap.size := Nat.lt_trans hbe hxb
 have HS0 := Lib.hid (hS0.alloc hxb hbw)
 have HS1 := Lib.hid hS0
 have hia := node_at be oe x.e.length x.eca i hil
 have HDR := Lib.hid hdr
 have hni := nx_start (n := n) hx hB
 have HNI := Lib.hid hni
 have h9 : w.cell? ⟨xb, 9, none⟩ = some (.int .i64 i) := hS0.s1
 have hf9 : w.frozen? ⟨xb, 9, none⟩ = false := hB.frozen 9
 have hi1 : IntKind.wrap .i64 ((i : Int) + 1) = (i : Int) + 1 := by
   have := hx.el
   exact IntWalk.i64_in _ (by omega)
 have hni0 := hni.drew
 have hdr1 : x.e.drop (i + 1) = a ++ rest := by
   have := congrArg List.tail hdr
   simpa [List.tail_drop] using this
 have hns : n.s.size ≤ 140737488351232 := (hx.ek n (List.mem_of_getElem? hn)).1
 clear hcs n0 n1 n2 n3 hea hn hx hB hdr hS0 hni HDR
 have t1 : (n.op == 1) = false := by simp [ho]
 have t2 : (n.op == 2) = false := by simp [ho]
 have t3 : (n.op == 3) = false := by simp [ho]
 have t4 : (n.op == 4) = false := by simp [ho]
 have t8 : (n.op == 8) = false := by simp [ho]
 have t11 : (n.op == 11) = false := by simp [ho]
 have t12 : (n.op == 12) = false := by simp [ho]
 have t13 : (n.op == 13) = false := by simp [ho]
 have t5 : (n.op == 5) = false := by simp [ho]
 have t6 : (n.op == 6) = false := by simp [ho]
 have t9 : (n.op == 9) = false := by simp [ho]
 have t10 : (n.op == 10) = false := by simp [ho]
 have t21 : (n.op == 21) = true := by simp [ho]
 have t22 : (n.op == 22) = false := by simp [ho]
 have t23 : (n.op == 23) = false := by simp [ho]
 have t24 : (n.op == 24) = false := by simp [ho]
 have hcall := hni0.next hxb ha hex (rest := rest) hdr1
 unfold nw at hcall
 have HA := Lib.hid hcall
 have hlen : i + (n :: a).length = i + 1 + a.length := by simp; omega
 rw [hlen, evX_one x.es x.q (by omega) hex]
 have ho' : n.op = 9 ∨ n.op = 10 ∨ n.op = 21 ∨ n.op = 22 ∨ n.op = 23 ∨ n.op = 24 := by omega
 have HOP := Lib.hid ho'
 have HNS := Lib.hid hns
 generalize i + 1 + a.length = j at HA ⊢
 generalize evX x.es x.q a = q at HA ⊢
 obtain ⟨q', hq'⟩ : ∃ q', q' = q.bind (fun v => singleR x.es n v) := ⟨_, rfl⟩
 rw [← hq']
 have HQ := Lib.hid hq'
 clear hcall hni0 hdr1 ha hex ho ho' hlen hns hq'
 go_enter Tryz.func52, Tryz.ntmps52
 go_wp2_with fail
 refine wp_region_ord (S := NxS xb i be oe x n w) [(0, false), (1, false), (2, false), (3, false), (4, false), (5, false), (6, false), (7, false), (8, false), (9, false), (10, true), (11, true)] (by kernel_rfl) (by kernel_rfl) (fun _ _ _ _ _ h => h) HS1.out (fun hW' => ?_)
 simp only [ordOps, List.filterMap_cons, List.filterMap_nil, List.getElem?_cons_zero, List.getElem?_cons_succ, Option.map_some]
 (repeat (first | (refine hd_take (v := ?_) (by rfl) ?_ ?_; rotate_left; (focus (intro W hW; obtain ⟨s0, s1, s2, s3, s4, s5⟩ := hW; go_simp; try with_reducible rfl)); simp only [Act.put, List.setIfInBounds_toArray, List.set_cons_zero, List.set_cons_succ]) | (refine hd_skip (by rfl) ?_; simp only [Act.put, List.setIfInBounds_toArray, List.set_cons_zero, List.set_cons_succ])))
 clear hW'
 refine hd_call (fun K hK => ?_)
 go_simp
 refine hK _ _ (HS0.out _) ?_
 clear hK K
 refine hd_call (fun K hK => ?_)
 go_simp
 refine hK _ _ (HS0.out _) ?_
 clear hK K
 refine hd_nil ?_
 go_wp2_with fail
 refine HA.out.mono ?_
 rintro r w1 ⟨hq1, hq2, ho1, hoW1⟩
 have HO1 := Lib.hid ho1
 clear ho1 hoW1
 cases q with
 | bad k =>
   have hr := hq2 k rfl
   subst hr
   clear hq1 hq2
   obtain rfl : q' = .bad k := HQ.out
   clear HQ
   go_wp2_with fail
   exact ⟨rfl, NextPost.bad HO1.out⟩
 | ok v =>
   obtain ⟨A, c, rfl, hv, hvi, -, hn1⟩ := hq1 v rfl
   have HN1 := Lib.hid hn1
   have hs := eval_single x xb j n v A c w1 hn1.ev hn1.blk hv hvi HNS.out HOP.out
   rw [show singleR x.es n v = q' from HQ.out.symm] at hs
   have HS := Lib.hid hs
   have c0 : w1.cell? ⟨w.heap.size, 0, none⟩ = some (.int .i64 n.op) := hn1.nd.c0
   have c1 : w1.cell? ⟨w.heap.size, 1, none⟩ = some (.int .i64 n.n) := hn1.nd.c1
   have c2 : w1.cell? ⟨w.heap.size, 2, none⟩ = some (.string n.s) := hn1.nd.c2
   have c3 : w1.cell? ⟨w.heap.size, 3, none⟩ = some (.string n.t) := hn1.nd.c3
   clear hn1 hq1 hq2 hv hvi hs HQ
   go_wp2_with fail
   refine HS.out.mono ?_
   rintro r w2 hr2
   have hpost := NextPost.rs HN1.out hr2
   obtain ⟨g1, g2, -⟩ := hr2
   have HP := Lib.hid hpost
   clear hpost
   cases q' with
   | bad k =>
     have hr := g2 k rfl
     subst hr
     clear g1 g2
     go_wp2_with fail
     exact ⟨rfl, HP.out⟩
   | ok u =>
     obtain ⟨A2, c2', rfl, -⟩ := g1 u rfl
     clear g1 g2
     go_wp2_with fail
     go_ret
     exact HP.out
set_option maxHeartbeats 6400000 in
theorem next_22 (x : Evl) (n : Nd) (a : List Nd) (ha : NextOk x a) (hex : Ex (.one false) a) (ho : n.op = 22) : NextOk x (n :: a) := by
 intro i xb rest w hdr hx hB
 have hn : x.e[i]? = some n := by
   have := congrArg (fun l => l[0]?) hdr
   simpa [List.getElem?_drop] using this
 have hil : i < x.e.length := (List.getElem?_eq_some_iff.1 hn).1
 have hxb := hB.lt
 obtain ⟨be, oe, hea, hbe, hcs⟩ := hx.ex.at_ hil
 obtain ⟨n0, n1, n2, n3⟩ := hcs i n hn
 have hS0 : NxS xb i be oe x n w w.drew := ⟨by rw [← hea]; exact hB.cell 8, hB.cell 9, n0, n1, n2, n3⟩
 have hbw : be < w.heap.size := Nat.lt_trans hbe hxb
 have HS0 := Lib.hid (hS0.alloc hxb hbw)
 have HS1 := Lib.hid hS0
 have hia := node_at be oe x.e.length x.eca i hil
 have HDR := Lib.hid hdr
 have hni := nx_start (n := n) hx hB
 have HNI := Lib.hid hni
 have h9 : w.cell? ⟨xb, 9, none⟩ = some (.int .i64 i) := hS0.s1
 have hf9 : w.frozen? ⟨xb, 9, none⟩ = false := hB.frozen 9
 have hi1 : IntKind.wrap .i64 ((i : Int) + 1) = (i : Int) + 1 := by
   have := hx.el
   exact IntWalk.i64_in _ (by omega)
 have hni0 := hni.drew
 have hdr1 : x.e.drop (i + 1) = a ++ rest := by
   have := congrArg List.tail hdr
   simpa [List.tail_drop] using this
 have hns : n.s.size ≤ 140737488351232 := (hx.ek n (List.mem_of_getElem? hn)).1
 clear hcs n0 n1 n2 n3 hea hn hx hB hdr hS0 hni HDR
 have t1 : (n.op == 1) = false := by simp [ho]
 have t2 : (n.op == 2) = false := by simp [ho]
 have t3 : (n.op == 3) = false := by simp [ho]
 have t4 : (n.op == 4) = false := by simp [ho]
 have t8 : (n.op == 8) = false := by simp [ho]
 have t11 : (n.op == 11) = false := by simp [ho]
 have t12 : (n.op == 12) = false := by simp [ho]
 have t13 : (n.op == 13) = false := by simp [ho]
 have t5 : (n.op == 5) = false := by simp [ho]
 have t6 : (n.op == 6) = false := by simp [ho]
 have t9 : (n.op == 9) = false := by simp [ho]
 have t10 : (n.op == 10) = false := by simp [ho]
 have t21 : (n.op == 21) = false := by simp [ho]
 have t22 : (n.op == 22) = true := by simp [ho]
 have t23 : (n.op == 23) = false := by simp [ho]
 have t24 : (n.op == 24) = false := by simp [ho]
 have hcall := hni0.next hxb ha hex (rest := rest) hdr1
 unfold nw at hcall
 have HA := Lib.hid hcall
 have hlen : i + (n :: a).length = i + 1 + a.length := by simp; omega
 rw [hlen, evX_one x.es x.q (by omega) hex]
 have ho' : n.op = 9 ∨ n.op = 10 ∨ n.op = 21 ∨ n.op = 22 ∨ n.op = 23 ∨ n.op = 24 := by omega
 have HOP := Lib.hid ho'
 have HNS := Lib.hid hns
 generalize i + 1 + a.length = j at HA ⊢
 generalize evX x.es x.q a = q at HA ⊢
 obtain ⟨q', hq'⟩ : ∃ q', q' = q.bind (fun v => singleR x.es n v) := ⟨_, rfl⟩
 rw [← hq']
 have HQ := Lib.hid hq'
 clear hcall hni0 hdr1 ha hex ho ho' hlen hns hq'
 go_enter Tryz.func52, Tryz.ntmps52
 go_wp2_with fail
 refine wp_region_ord (S := NxS xb i be oe x n w) [(0, false), (1, false), (2, false), (3, false), (4, false), (5, false), (6, false), (7, false), (8, false), (9, false), (10, true), (11, true)] (by kernel_rfl) (by kernel_rfl) (fun _ _ _ _ _ h => h) HS1.out (fun hW' => ?_)
 simp only [ordOps, List.filterMap_cons, List.filterMap_nil, List.getElem?_cons_zero, List.getElem?_cons_succ, Option.map_some]
 (repeat (first | (refine hd_take (v := ?_) (by rfl) ?_ ?_; rotate_left; (focus (intro W hW; obtain ⟨s0, s1, s2, s3, s4, s5⟩ := hW; go_simp; try with_reducible rfl)); simp only [Act.put, List.setIfInBounds_toArray, List.set_cons_zero, List.set_cons_succ]) | (refine hd_skip (by rfl) ?_; simp only [Act.put, List.setIfInBounds_toArray, List.set_cons_zero, List.set_cons_succ])))
 clear hW'
 refine hd_call (fun K hK => ?_)
 go_simp
 refine hK _ _ (HS0.out _) ?_
 clear hK K
 refine hd_call (fun K hK => ?_)
 go_simp
 refine hK _ _ (HS0.out _) ?_
 clear hK K
 refine hd_nil ?_
 go_wp2_with fail
 refine HA.out.mono ?_
 rintro r w1 ⟨hq1, hq2, ho1, hoW1⟩
 have HO1 := Lib.hid ho1
 clear ho1 hoW1
 cases q with
 | bad k =>
   have hr := hq2 k rfl
   subst hr
   clear hq1 hq2
   obtain rfl : q' = .bad k := HQ.out
   clear HQ
   go_wp2_with fail
   exact ⟨rfl, NextPost.bad HO1.out⟩
 | ok v =>
   obtain ⟨A, c, rfl, hv, hvi, -, hn1⟩ := hq1 v rfl
   have HN1 := Lib.hid hn1
   have hs := eval_single x xb j n v A c w1 hn1.ev hn1.blk hv hvi HNS.out HOP.out
   rw [show singleR x.es n v = q' from HQ.out.symm] at hs
   have HS := Lib.hid hs
   have c0 : w1.cell? ⟨w.heap.size, 0, none⟩ = some (.int .i64 n.op) := hn1.nd.c0
   have c1 : w1.cell? ⟨w.heap.size, 1, none⟩ = some (.int .i64 n.n) := hn1.nd.c1
   have c2 : w1.cell? ⟨w.heap.size, 2, none⟩ = some (.string n.s) := hn1.nd.c2
   have c3 : w1.cell? ⟨w.heap.size, 3, none⟩ = some (.string n.t) := hn1.nd.c3
   clear hn1 hq1 hq2 hv hvi hs HQ
   go_wp2_with fail
   refine HS.out.mono ?_
   rintro r w2 hr2
   have hpost := NextPost.rs HN1.out hr2
   obtain ⟨g1, g2, -⟩ := hr2
   have HP := Lib.hid hpost
   clear hpost
   cases q' with
   | bad k =>
     have hr := g2 k rfl
     subst hr
     clear g1 g2
     go_wp2_with fail
     exact ⟨rfl, HP.out⟩
   | ok u =>
     obtain ⟨A2, c2', rfl, -⟩ := g1 u rfl
     clear g1 g2
     go_wp2_with fail
     go_ret
     exact HP.out
set_option maxHeartbeats 6400000 in
theorem next_23 (x : Evl) (n : Nd) (a : List Nd) (ha : NextOk x a) (hex : Ex (.one false) a) (ho : n.op = 23) : NextOk x (n :: a) := by
 intro i xb rest w hdr hx hB
 have hn : x.e[i]? = some n := by
   have := congrArg (fun l => l[0]?) hdr
   simpa [List.getElem?_drop] using this
 have hil : i < x.e.length := (List.getElem?_eq_some_iff.1 hn).1
 have hxb := hB.lt
 obtain ⟨be, oe, hea, hbe, hcs⟩ := hx.ex.at_ hil
 obtain ⟨n0, n1, n2, n3⟩ := hcs i n hn
 have hS0 : NxS xb i be oe x n w w.drew := ⟨by rw [← hea]; exact hB.cell 8, hB.cell 9, n0, n1, n2, n3⟩
 have hbw : be < w.heap.size := Nat.lt_trans hbe hxb
 have HS0 := Lib.hid (hS0.alloc hxb hbw)
 have HS1 := Lib.hid hS0
 have hia := node_at be oe x.e.length x.eca i hil
 have HDR := Lib.hid hdr
 have hni := nx_start (n := n) hx hB
 have HNI := Lib.hid hni
 have h9 : w.cell? ⟨xb, 9, none⟩ = some (.int .i64 i) := hS0.s1
 have hf9 : w.frozen? ⟨xb, 9, none⟩ = false := hB.frozen 9
 have hi1 : IntKind.wrap .i64 ((i : Int) + 1) = (i : Int) + 1 := by
   have := hx.el
   exact IntWalk.i64_in _ (by omega)
 have hni0 := hni.drew
 have hdr1 : x.e.drop (i + 1) = a ++ rest := by
   have := congrArg List.tail hdr
   simpa [List.tail_drop] using this
 have hns : n.s.size ≤ 140737488351232 := (hx.ek n (List.mem_of_getElem? hn)).1
 clear hcs n0 n1 n2 n3 hea hn hx hB hdr hS0 hni HDR
 have t1 : (n.op == 1) = false := by simp [ho]
 have t2 : (n.op == 2) = false := by simp [ho]
 have t3 : (n.op == 3) = false := by simp [ho]
 have t4 : (n.op == 4) = false := by simp [ho]
 have t8 : (n.op == 8) = false := by simp [ho]
 have t11 : (n.op == 11) = false := by simp [ho]
 have t12 : (n.op == 12) = false := by simp [ho]
 have t13 : (n.op == 13) = false := by simp [ho]
 have t5 : (n.op == 5) = false := by simp [ho]
 have t6 : (n.op == 6) = false := by simp [ho]
 have t9 : (n.op == 9) = false := by simp [ho]
 have t10 : (n.op == 10) = false := by simp [ho]
 have t21 : (n.op == 21) = false := by simp [ho]
 have t22 : (n.op == 22) = false := by simp [ho]
 have t23 : (n.op == 23) = true := by simp [ho]
 have t24 : (n.op == 24) = false := by simp [ho]
 have hcall := hni0.next hxb ha hex (rest := rest) hdr1
 unfold nw at hcall
 have HA := Lib.hid hcall
 have hlen : i + (n :: a).length = i + 1 + a.length := by simp; omega
 rw [hlen, evX_one x.es x.q (by omega) hex]
 have ho' : n.op = 9 ∨ n.op = 10 ∨ n.op = 21 ∨ n.op = 22 ∨ n.op = 23 ∨ n.op = 24 := by omega
 have HOP := Lib.hid ho'
 have HNS := Lib.hid hns
 generalize i + 1 + a.length = j at HA ⊢
 generalize evX x.es x.q a = q at HA ⊢
 obtain ⟨q', hq'⟩ : ∃ q', q' = q.bind (fun v => singleR x.es n v) := ⟨_, rfl⟩
 rw [← hq']
 have HQ := Lib.hid hq'
 clear hcall hni0 hdr1 ha hex ho ho' hlen hns hq'
 go_enter Tryz.func52, Tryz.ntmps52
 go_wp2_with fail
 refine wp_region_ord (S := NxS xb i be oe x n w) [(0, false), (1, false), (2, false), (3, false), (4, false), (5, false), (6, false), (7, false), (8, false), (9, false), (10, true), (11, true)] (by kernel_rfl) (by kernel_rfl) (fun _ _ _ _ _ h => h) HS1.out (fun hW' => ?_)
 simp only [ordOps, List.filterMap_cons, List.filterMap_nil, List.getElem?_cons_zero, List.getElem?_cons_succ, Option.map_some]
 (repeat (first | (refine hd_take (v := ?_) (by rfl) ?_ ?_; rotate_left; (focus (intro W hW; obtain ⟨s0, s1, s2, s3, s4, s5⟩ := hW; go_simp; try with_reducible rfl)); simp only [Act.put, List.setIfInBounds_toArray, List.set_cons_zero, List.set_cons_succ]) | (refine hd_skip (by rfl) ?_; simp only [Act.put, List.setIfInBounds_toArray, List.set_cons_zero, List.set_cons_succ])))
 clear hW'
 refine hd_call (fun K hK => ?_)
 go_simp
 refine hK _ _ (HS0.out _) ?_
 clear hK K
 refine hd_call (fun K hK => ?_)
 go_simp
 refine hK _ _ (HS0.out _) ?_
 clear hK K
 refine hd_nil ?_
 go_wp2_with fail
 refine HA.out.mono ?_
 rintro r w1 ⟨hq1, hq2, ho1, hoW1⟩
 have HO1 := Lib.hid ho1
 clear ho1 hoW1
 cases q with
 | bad k =>
   have hr := hq2 k rfl
   subst hr
   clear hq1 hq2
   obtain rfl : q' = .bad k := HQ.out
   clear HQ
   go_wp2_with fail
   exact ⟨rfl, NextPost.bad HO1.out⟩
 | ok v =>
   obtain ⟨A, c, rfl, hv, hvi, -, hn1⟩ := hq1 v rfl
   have HN1 := Lib.hid hn1
   have hs := eval_single x xb j n v A c w1 hn1.ev hn1.blk hv hvi HNS.out HOP.out
   rw [show singleR x.es n v = q' from HQ.out.symm] at hs
   have HS := Lib.hid hs
   have c0 : w1.cell? ⟨w.heap.size, 0, none⟩ = some (.int .i64 n.op) := hn1.nd.c0
   have c1 : w1.cell? ⟨w.heap.size, 1, none⟩ = some (.int .i64 n.n) := hn1.nd.c1
   have c2 : w1.cell? ⟨w.heap.size, 2, none⟩ = some (.string n.s) := hn1.nd.c2
   have c3 : w1.cell? ⟨w.heap.size, 3, none⟩ = some (.string n.t) := hn1.nd.c3
   clear hn1 hq1 hq2 hv hvi hs HQ
   go_wp2_with fail
   refine HS.out.mono ?_
   rintro r w2 hr2
   have hpost := NextPost.rs HN1.out hr2
   obtain ⟨g1, g2, -⟩ := hr2
   have HP := Lib.hid hpost
   clear hpost
   cases q' with
   | bad k =>
     have hr := g2 k rfl
     subst hr
     clear g1 g2
     go_wp2_with fail
     exact ⟨rfl, HP.out⟩
   | ok u =>
     obtain ⟨A2, c2', rfl, -⟩ := g1 u rfl
     clear g1 g2
     go_wp2_with fail
     go_ret
     exact HP.out
set_option maxHeartbeats 6400000 in
theorem next_24 (x : Evl) (n : Nd) (a : List Nd) (ha : NextOk x a) (hex : Ex (.one false) a) (ho : n.op = 24) : NextOk x (n :: a) := by
 intro i xb rest w hdr hx hB
 have hn : x.e[i]? = some n := by
   have := congrArg (fun l => l[0]?) hdr
   simpa [List.getElem?_drop] using this
 have hil : i < x.e.length := (List.getElem?_eq_some_iff.1 hn).1
 have hxb := hB.lt
 obtain ⟨be, oe, hea, hbe, hcs⟩ := hx.ex.at_ hil
 obtain ⟨n0, n1, n2, n3⟩ := hcs i n hn
 have hS0 : NxS xb i be oe x n w w.drew := ⟨by rw [← hea]; exact hB.cell 8, hB.cell 9, n0, n1, n2, n3⟩
 have hbw : be < w.heap.size := Nat.lt_trans hbe hxb
 have HS0 := Lib.hid (hS0.alloc hxb hbw)
 have HS1 := Lib.hid hS0
 have hia := node_at be oe x.e.length x.eca i hil
 have HDR := Lib.hid hdr
 have hni := nx_start (n := n) hx hB
 have HNI := Lib.hid hni
 have h9 : w.cell? ⟨xb, 9, none⟩ = some (.int .i64 i) := hS0.s1
 have hf9 : w.frozen? ⟨xb, 9, none⟩ = false := hB.frozen 9
 have hi1 : IntKind.wrap .i64 ((i : Int) + 1) = (i : Int) + 1 := by
   have := hx.el
   exact IntWalk.i64_in _ (by omega)
 have hni0 := hni.drew
 have hdr1 : x.e.drop (i + 1) = a ++ rest := by
   have := congrArg List.tail hdr
   simpa [List.tail_drop] using this
 have hns : n.s.size ≤ 140737488351232 := (hx.ek n (List.mem_of_getElem? hn)).1
 clear hcs n0 n1 n2 n3 hea hn hx hB hdr hS0 hni HDR
 have t1 : (n.op == 1) = false := by simp [ho]
 have t2 : (n.op == 2) = false := by simp [ho]
 have t3 : (n.op == 3) = false := by simp [ho]
 have t4 : (n.op == 4) = false := by simp [ho]
 have t8 : (n.op == 8) = false := by simp [ho]
 have t11 : (n.op == 11) = false := by simp [ho]
 have t12 : (n.op == 12) = false := by simp [ho]
 have t13 : (n.op == 13) = false := by simp [ho]
 have t5 : (n.op == 5) = false := by simp [ho]
 have t6 : (n.op == 6) = false := by simp [ho]
 have t9 : (n.op == 9) = false := by simp [ho]
 have t10 : (n.op == 10) = false := by simp [ho]
 have t21 : (n.op == 21) = false := by simp [ho]
 have t22 : (n.op == 22) = false := by simp [ho]
 have t23 : (n.op == 23) = false := by simp [ho]
 have t24 : (n.op == 24) = true := by simp [ho]
 have hcall := hni0.next hxb ha hex (rest := rest) hdr1
 unfold nw at hcall
 have HA := Lib.hid hcall
 have hlen : i + (n :: a).length = i + 1 + a.length := by simp; omega
 rw [hlen, evX_one x.es x.q (by omega) hex]
 have ho' : n.op = 9 ∨ n.op = 10 ∨ n.op = 21 ∨ n.op = 22 ∨ n.op = 23 ∨ n.op = 24 := by omega
 have HOP := Lib.hid ho'
 have HNS := Lib.hid hns
 generalize i + 1 + a.length = j at HA ⊢
 generalize evX x.es x.q a = q at HA ⊢
 obtain ⟨q', hq'⟩ : ∃ q', q' = q.bind (fun v => singleR x.es n v) := ⟨_, rfl⟩
 rw [← hq']
 have HQ := Lib.hid hq'
 clear hcall hni0 hdr1 ha hex ho ho' hlen hns hq'
 go_enter Tryz.func52, Tryz.ntmps52
 go_wp2_with fail
 refine wp_region_ord (S := NxS xb i be oe x n w) [(0, false), (1, false), (2, false), (3, false), (4, false), (5, false), (6, false), (7, false), (8, false), (9, false), (10, true), (11, true)] (by kernel_rfl) (by kernel_rfl) (fun _ _ _ _ _ h => h) HS1.out (fun hW' => ?_)
 simp only [ordOps, List.filterMap_cons, List.filterMap_nil, List.getElem?_cons_zero, List.getElem?_cons_succ, Option.map_some]
 (repeat (first | (refine hd_take (v := ?_) (by rfl) ?_ ?_; rotate_left; (focus (intro W hW; obtain ⟨s0, s1, s2, s3, s4, s5⟩ := hW; go_simp; try with_reducible rfl)); simp only [Act.put, List.setIfInBounds_toArray, List.set_cons_zero, List.set_cons_succ]) | (refine hd_skip (by rfl) ?_; simp only [Act.put, List.setIfInBounds_toArray, List.set_cons_zero, List.set_cons_succ])))
 clear hW'
 refine hd_call (fun K hK => ?_)
 go_simp
 refine hK _ _ (HS0.out _) ?_
 clear hK K
 refine hd_call (fun K hK => ?_)
 go_simp
 refine hK _ _ (HS0.out _) ?_
 clear hK K
 refine hd_nil ?_
 go_wp2_with fail
 refine HA.out.mono ?_
 rintro r w1 ⟨hq1, hq2, ho1, hoW1⟩
 have HO1 := Lib.hid ho1
 clear ho1 hoW1
 cases q with
 | bad k =>
   have hr := hq2 k rfl
   subst hr
   clear hq1 hq2
   obtain rfl : q' = .bad k := HQ.out
   clear HQ
   go_wp2_with fail
   exact ⟨rfl, NextPost.bad HO1.out⟩
 | ok v =>
   obtain ⟨A, c, rfl, hv, hvi, -, hn1⟩ := hq1 v rfl
   have HN1 := Lib.hid hn1
   have hs := eval_single x xb j n v A c w1 hn1.ev hn1.blk hv hvi HNS.out HOP.out
   rw [show singleR x.es n v = q' from HQ.out.symm] at hs
   have HS := Lib.hid hs
   have c0 : w1.cell? ⟨w.heap.size, 0, none⟩ = some (.int .i64 n.op) := hn1.nd.c0
   have c1 : w1.cell? ⟨w.heap.size, 1, none⟩ = some (.int .i64 n.n) := hn1.nd.c1
   have c2 : w1.cell? ⟨w.heap.size, 2, none⟩ = some (.string n.s) := hn1.nd.c2
   have c3 : w1.cell? ⟨w.heap.size, 3, none⟩ = some (.string n.t) := hn1.nd.c3
   clear hn1 hq1 hq2 hv hvi hs HQ
   go_wp2_with fail
   refine HS.out.mono ?_
   rintro r w2 hr2
   have hpost := NextPost.rs HN1.out hr2
   obtain ⟨g1, g2, -⟩ := hr2
   have HP := Lib.hid hpost
   clear hpost
   cases q' with
   | bad k =>
     have hr := g2 k rfl
     subst hr
     clear g1 g2
     go_wp2_with fail
     exact ⟨rfl, HP.out⟩
   | ok u =>
     obtain ⟨A2, c2', rfl, -⟩ := g1 u rfl
     clear g1 g2
     go_wp2_with fail
     go_ret
     exact HP.out
set_option maxHeartbeats 6400000 in
theorem next_two (x : Evl) (n : Nd) (a b : List Nd) (ha : NextOk x a) (hb : NextOk x b) (hex : Ex (.one false) a) (hexb : Ex (.one false) b) (ho : n.op = 14 ∨ n.op = 15 ∨ n.op = 16 ∨ n.op = 17 ∨ n.op = 18 ∨ n.op = 19 ∨ n.op = 20 ∨ n.op = 25 ∨ n.op = 26 ∨ n.op = 27) : NextOk x (n :: (a ++ b)) := by
 intro i xb rest w hdr hx hB
 have hn : x.e[i]? = some n := by
   have := congrArg (fun l => l[0]?) hdr
   simpa [List.getElem?_drop] using this
 have hil : i < x.e.length := (List.getElem?_eq_some_iff.1 hn).1
 have hxb := hB.lt
 obtain ⟨be, oe, hea, hbe, hcs⟩ := hx.ex.at_ hil
 obtain ⟨n0, n1, n2, n3⟩ := hcs i n hn
 have hS0 : NxS xb i be oe x n w w.drew := ⟨by rw [← hea]; exact hB.cell 8, hB.cell 9, n0, n1, n2, n3⟩
 have hbw : be < w.heap.size := Nat.lt_trans hbe hxb
 have HS0 := Lib.hid (hS0.alloc hxb hbw)
 have HS1 := Lib.hid hS0
 have hia := node_at be oe x.e.length x.eca i hil
 have HDR := Lib.hid hdr
 have hni := nx_start (n := n) hx hB
 have HNI := Lib.hid hni
 have h9 : w.cell? ⟨xb, 9, none⟩ = some (.int .i64 i) := hS0.s1
 have hf9 : w.frozen? ⟨xb, 9, none⟩ = false := hB.frozen 9
 have hi1 : IntKind.wrap .i64 ((i : Int) + 1) = (i : Int) + 1 := by
   have := hx.el
   exact IntWalk.i64_in _ (by omega)
 have hni0 := hni.drew
 have hdr1 : x.e.drop (i + 1) = (a ++ b) ++ rest := by
   have := congrArg List.tail hdr
   simpa [List.tail_drop] using this
 have hns : n.s.size ≤ 140737488351232 := (hx.ek n (List.mem_of_getElem? hn)).1
 clear hcs n0 n1 n2 n3 hea hn hx hB hdr hS0 hni HDR
 have t1 : (n.op == 1) = false := by simp; omega
 have t2 : (n.op == 2) = false := by simp; omega
 have t3 : (n.op == 3) = false := by simp; omega
 have t4 : (n.op == 4) = false := by simp; omega
 have t8 : (n.op == 8) = false := by simp; omega
 have t11 : (n.op == 11) = false := by simp; omega
 have t12 : (n.op == 12) = false := by simp; omega
 have t13 : (n.op == 13) = false := by simp; omega
 have t5 : (n.op == 5) = false := by simp; omega
 have t6 : (n.op == 6) = false := by simp; omega
 have t9 : (n.op == 9) = false := by simp; omega
 have t10 : (n.op == 10) = false := by simp; omega
 have t21 : (n.op == 21) = false := by simp; omega
 have t22 : (n.op == 22) = false := by simp; omega
 have t23 : (n.op == 23) = false := by simp; omega
 have t24 : (n.op == 24) = false := by simp; omega
 have hdr2 : x.e.drop (i + 1 + a.length) = b ++ rest := by
   rw [← List.drop_drop, hdr1]; simp
 have hcall := hni0.next hxb ha hex (rest := b ++ rest) (by rw [hdr1]; simp)
 unfold nw at hcall
 have HA := Lib.hid hcall
 have hlen : i + (n :: (a ++ b)).length = i + 1 + a.length + b.length := by simp; omega
 rw [hlen, evX_two x.es x.q (by omega) hex hexb]
 have ho' : n.op = 14 ∨ n.op = 15 ∨ n.op = 16 ∨ n.op = 17 ∨ n.op = 18 ∨ n.op = 19 ∨ n.op = 20 ∨ n.op = 25 ∨ n.op = 26 ∨ n.op = 27 := by omega
 have HOP := Lib.hid ho'
 have hB2 : ∀ W : World, NxI x xb (i + 1 + a.length) n w W → Calls Tryz.prog 52 #[.pointer (some ⟨xb, 0, none⟩)] W (NxA x xb (i + 1 + a.length + b.length) n (evX x.es x.q b) w W) := fun W h => h.next hxb hb hexb hdr2
 have HB2 := Lib.hid hB2
 generalize i + 1 + a.length + b.length = j2 at HB2 ⊢
 generalize i + 1 + a.length = j at HA HB2
 generalize evX x.es x.q a = q at HA ⊢
 generalize evX x.es x.q b = qb at HB2 ⊢
 obtain ⟨q', hq'⟩ : ∃ q', q' = q.bind (fun u => qb.bind fun v => doubleR x.es n.op u v) := ⟨_, rfl⟩
 rw [← hq']
 have HQ := Lib.hid hq'
 clear hcall hni0 hdr1 hdr2 ha hex hb hexb hB2 ho ho' hlen hns hq'
 go_enter Tryz.func52, Tryz.ntmps52
 go_wp2_with fail
 refine wp_region_ord (S := NxS xb i be oe x n w) [(0, false), (1, false), (2, false), (3, false), (4, false), (5, false), (6, false), (7, false), (8, false), (9, false), (10, true), (11, true)] (by kernel_rfl) (by kernel_rfl) (fun _ _ _ _ _ h => h) HS1.out (fun hW' => ?_)
 simp only [ordOps, List.filterMap_cons, List.filterMap_nil, List.getElem?_cons_zero, List.getElem?_cons_succ, Option.map_some]
 (repeat (first | (refine hd_take (v := ?_) (by rfl) ?_ ?_; rotate_left; (focus (intro W hW; obtain ⟨s0, s1, s2, s3, s4, s5⟩ := hW; go_simp; try with_reducible rfl)); simp only [Act.put, List.setIfInBounds_toArray, List.set_cons_zero, List.set_cons_succ]) | (refine hd_skip (by rfl) ?_; simp only [Act.put, List.setIfInBounds_toArray, List.set_cons_zero, List.set_cons_succ])))
 clear hW'
 refine hd_call (fun K hK => ?_)
 go_simp
 refine hK _ _ (HS0.out _) ?_
 clear hK K
 refine hd_call (fun K hK => ?_)
 go_simp
 refine hK _ _ (HS0.out _) ?_
 clear hK K
 refine hd_nil ?_
 go_wp2_with fail
 refine HA.out.mono ?_
 rintro r w1 ⟨hq1, hq2, ho1, hoW1⟩
 have HO1 := Lib.hid ho1
 clear ho1 hoW1
 cases q with
 | bad k =>
   have hr := hq2 k rfl
   subst hr
   clear hq1 hq2
   obtain rfl : q' = .bad k := HQ.out
   clear HQ
   go_wp2_with fail
   exact ⟨rfl, NextPost.bad HO1.out⟩
 | ok v =>
   obtain ⟨A, c, rfl, hv, hvi, hoff, hn1⟩ := hq1 v rfl
   have HN1 := Lib.hid hn1.drew
   have HV := Lib.hid hv
   have HVI := Lib.hid hvi
   have HOF := Lib.hid hoff
   have hS : OpS w.heap.size n.op w1.drew := ⟨hn1.nd.c0⟩
   have HS := Lib.hid hS
   have c0 : w1.cell? ⟨w.heap.size, 0, none⟩ = some (.int .i64 n.op) := hn1.nd.c0
   clear hS hoff hn1 hq1 hq2 hv hvi
   go_wp2_with fail
   refine wp_region_ord (S := OpS w.heap.size n.op) [(0, false), (1, false), (2, false), (3, false), (4, false), (5, true), (6, true), (7, false)] (by kernel_rfl) (by kernel_rfl) (fun _ _ _ _ _ h => h) HS.out (fun hW' => ?_)
   clear hW'
   simp only [ordOps, List.filterMap_cons, List.filterMap_nil, List.getElem?_cons_zero, List.getElem?_cons_succ, Option.map_some]
   (repeat (first | (refine hd_take (v := ?_) (by rfl) ?_ ?_; rotate_left; (focus (intro W hW; obtain ⟨s0⟩ := hW; go_simp; try with_reducible rfl)); simp only [Act.put, List.setIfInBounds_toArray, List.set_cons_zero, List.set_cons_succ]) | (refine hd_skip (by rfl) ?_; simp only [Act.put, List.setIfInBounds_toArray, List.set_cons_zero, List.set_cons_succ])))
   refine hd_call (fun K hK => ?_)
   go_simp
   refine (HB2.out _ HN1.out).mono ?_
   rintro r w2 ⟨hp1, hp2, ho2, hoW2⟩
   have HO2 := Lib.hid ho2
   cases qb with
   | bad k =>
     have hr := hp2 k rfl
     subst hr
     dsimp only
     clear hK K hp1 hp2
     obtain rfl : q' = .bad k := HQ.out
     clear HQ
     go_wp2_with fail
     exact ⟨rfl, NextPost.bad HO2.out⟩
   | ok u =>
     obtain ⟨A2, c2', rfl, hu, hui, -, hn2⟩ := hp1 u rfl
     have HN2 := Lib.hid hn2
     have hof2 : NdOff (gx xb w) w2 w2.heap.size A v := HOF.out.past (w' := w2) (⟨hoW2.os, hoW2.tape, hoW2.output, hoW2.size, hoW2.block⟩ : Only w1.heap.size xb w1 w2) (Nat.le_refl _) hxb
     have hv2 : ValIn v A c w2 := ⟨HV.out.ok, HV.out.nd, HV.out.le, HV.out.max, hof2.sl⟩
     have hs := eval_double x xb j2 n.op v u A A2 c c2' w2 hn2.ev hn2.blk hv2 hu HVI.out hui HOP.out
     rw [show doubleR x.es n.op v u = q' from HQ.out.symm] at hs
     have HD := Lib.hid hs
     refine hK _ _ ⟨hn2.nd.c0⟩ ?_
     clear hK K hn2 hof2 hv2 hs hu hui hp1 hp2 ho2 hoW2 HQ
     refine hd_call (fun K hK => ?_)
     go_simp
     refine HD.out.mono ?_
     rintro r w3 hr2
     have hpost := NextPost.rs HN2.out hr2
     obtain ⟨g1, g2, g3⟩ := hr2
     have hS3 : OpS w.heap.size n.op w3 := ⟨(g3.cell (HN2.out).sz).trans HN2.out.nd.c0⟩
     have HP := Lib.hid hpost
     clear hpost g3
     cases q' with
     | bad k =>
       have hr := g2 k rfl
       subst hr
       dsimp only
       clear hK K g1 g2 hS3
       go_wp2_with fail
       exact ⟨rfl, HP.out⟩
     | ok u =>
       obtain ⟨A3, c3', rfl, -⟩ := g1 u rfl
       refine hK _ _ hS3 ?_
       clear hK K g1 g2 hS3
       (repeat (first | (refine hd_take (v := ?_) (by rfl) ?_ ?_; rotate_left; (focus (intro W hW; obtain ⟨s0⟩ := hW; go_simp; try with_reducible rfl)); simp only [Act.put, List.setIfInBounds_toArray, List.set_cons_zero, List.set_cons_succ]) | (refine hd_skip (by rfl) ?_; simp only [Act.put, List.setIfInBounds_toArray, List.set_cons_zero, List.set_cons_succ])))
       refine hd_nil ?_
       go_wp2_with fail
       go_ret
       exact HP.out
theorem next_14 (x : Evl) (n : Nd) (a b : List Nd) (ha : NextOk x a) (hb : NextOk x b) (hex : Ex (.one false) a) (hexb : Ex (.one false) b) (ho : n.op = 14) : NextOk x (n :: (a ++ b)) := next_two x n a b ha hb hex hexb (by omega)
theorem next_15 (x : Evl) (n : Nd) (a b : List Nd) (ha : NextOk x a) (hb : NextOk x b) (hex : Ex (.one false) a) (hexb : Ex (.one false) b) (ho : n.op = 15) : NextOk x (n :: (a ++ b)) := next_two x n a b ha hb hex hexb (by omega)
theorem next_16 (x : Evl) (n : Nd) (a b : List Nd) (ha : NextOk x a) (hb : NextOk x b) (hex : Ex (.one false) a) (hexb : Ex (.one false) b) (ho : n.op = 16) : NextOk x (n :: (a ++ b)) := next_two x n a b ha hb hex hexb (by omega)
theorem next_17 (x : Evl) (n : Nd) (a b : List Nd) (ha : NextOk x a) (hb : NextOk x b) (hex : Ex (.one false) a) (hexb : Ex (.one false) b) (ho : n.op = 17) : NextOk x (n :: (a ++ b)) := next_two x n a b ha hb hex hexb (by omega)
theorem next_18 (x : Evl) (n : Nd) (a b : List Nd) (ha : NextOk x a) (hb : NextOk x b) (hex : Ex (.one false) a) (hexb : Ex (.one false) b) (ho : n.op = 18) : NextOk x (n :: (a ++ b)) := next_two x n a b ha hb hex hexb (by omega)
theorem next_19 (x : Evl) (n : Nd) (a b : List Nd) (ha : NextOk x a) (hb : NextOk x b) (hex : Ex (.one false) a) (hexb : Ex (.one false) b) (ho : n.op = 19) : NextOk x (n :: (a ++ b)) := next_two x n a b ha hb hex hexb (by omega)
theorem next_20 (x : Evl) (n : Nd) (a b : List Nd) (ha : NextOk x a) (hb : NextOk x b) (hex : Ex (.one false) a) (hexb : Ex (.one false) b) (ho : n.op = 20) : NextOk x (n :: (a ++ b)) := next_two x n a b ha hb hex hexb (by omega)
theorem next_25 (x : Evl) (n : Nd) (a b : List Nd) (ha : NextOk x a) (hb : NextOk x b) (hex : Ex (.one false) a) (hexb : Ex (.one false) b) (ho : n.op = 25) : NextOk x (n :: (a ++ b)) := next_two x n a b ha hb hex hexb (by omega)
theorem next_26 (x : Evl) (n : Nd) (a b : List Nd) (ha : NextOk x a) (hb : NextOk x b) (hex : Ex (.one false) a) (hexb : Ex (.one false) b) (ho : n.op = 26) : NextOk x (n :: (a ++ b)) := next_two x n a b ha hb hex hexb (by omega)
theorem next_27 (x : Evl) (n : Nd) (a b : List Nd) (ha : NextOk x a) (hb : NextOk x b) (hex : Ex (.one false) a) (hexb : Ex (.one false) b) (ho : n.op = 27) : NextOk x (n :: (a ++ b)) := next_two x n a b ha hb hex hexb (by omega)
end Go.Proofs.YtpheiojmcafolaaGreatDoor
namespace Go.Proofs.YtpheiojmcafolaaGreatDoor
set_option maxRecDepth 100000
open Go.RowKit Go.Sort
structure SkS (xb : Nat) (v : Value) (W : World) : Prop where
 s0 : W.cell? ⟨xb, 8, none⟩ = some v
def FewIn (x : Evl) : Prop := ∀ y ∈ x.e, 0 ≤ ndParts y ∧ ndParts y ≤ 200
set_option maxHeartbeats 6400000 in
theorem eval_skip (x : Evl) (xb j : Nat) (p rest : List Nd) (w : World) (hf : FewIn x) (hex : Ex (.one false) p) (hd : x.e.drop j = p ++ rest) (hx : EvIn x xb w) (hB : Blk w xb 99 (x.cells j)) :
   Calls Tryz.prog 109 #[.pointer (some ⟨xb, 0, none⟩)] w fun r w' => r = .returned (.tuple #[]) ∧ Blk w' xb 99 (x.cells (j + p.length)) ∧ Only w.heap.size xb w w' := by
 have hxb := hB.lt
 have hj : j ≤ x.e.length := by
   obtain ⟨y, r, e, -⟩ := ex_ne hex
   have := congrArg List.length hd
   rw [e] at this
   simp at this; omega
 have hsk := tree_Skip x.e x.ea x.eca j (j + p.length) w.drew hx.el ((hx.drew).ex.more (Nat.le_of_lt hxb)) hf (by rw [hd]; exact skP_at hex rest j) hj
 have HSK := Lib.hid hsk
 have HB := Lib.hid hB
 have hS : SkS xb (.slice x.ea x.e.length x.eca) w.drew := ⟨hB.cell 8⟩
 have HS := Lib.hid hS
 have h9 : w.cell? ⟨xb, 9, none⟩ = some (.int .i64 j) := hB.cell 9
 clear hsk hx hex hd hS hf hj
 go_enter Tryz.func109, Tryz.ntmps109
 go_wp2_with fail
 refine wp_region_ord (S := SkS xb (.slice x.ea x.e.length x.eca)) [(0, false), (1, false), (2, false), (3, false), (4, false), (5, false), (6, false), (7, false), (8, true), (9, true), (10, false), (11, false), (12, true)] (by kernel_rfl) (by kernel_rfl) (fun _ _ _ _ _ h => h) HS.out (fun hW' => ?_)
 simp only [ordOps, List.filterMap_cons, List.filterMap_nil, List.getElem?_cons_zero, List.getElem?_cons_succ, Option.map_some]
 (repeat (first | (refine hd_take (v := ?_) (by rfl) ?_ ?_; rotate_left; (focus (intro W hW; obtain ⟨s0⟩ := hW; go_simp; try with_reducible rfl)); simp only [Act.put, List.setIfInBounds_toArray, List.set_cons_zero, List.set_cons_succ]) | (refine hd_skip (by rfl) ?_; simp only [Act.put, List.setIfInBounds_toArray, List.set_cons_zero, List.set_cons_succ])))
 refine hd_call (fun K hK => ?_)
 go_simp
 refine hK _ _ HS.out ?_
 clear hK K hW'
 refine hd_call (fun K hK => ?_)
 go_simp
 refine HSK.out.mono ?_
 rintro r w1 ⟨rfl, hb1'⟩
 have hb1 : RowKit.Below w.heap.size w w1 := (RowKit.Below.refl w.heap.size w).drew.trans hb1'
 clear hb1'
 have hB1 : Blk w1 xb 99 (x.cells j) := HB.out.below hb1 hxb
 have hS1 : SkS xb (.slice x.ea x.e.length x.eca) w1 := ⟨hB1.cell 8⟩
 have HB1 := Lib.hid hB1
 have f9 : w1.frozen? ⟨xb, 9, none⟩ = false := hB1.frozen 9
 have c9 : w1.cell? ⟨xb, 9, none⟩ = some (.int .i64 j) := hB1.cell 9
 have HO1 := Lib.hid (Only.of_below (g := xb) hb1 (Nat.le_refl _))
 refine hK _ _ hS1 ?_
 clear hK K hS1 hB1 hb1
 (repeat (first | (refine hd_take (v := ?_) (by rfl) ?_ ?_; rotate_left; (focus (intro W hW; obtain ⟨s0⟩ := hW; go_simp; try with_reducible rfl)); simp only [Act.put, List.setIfInBounds_toArray, List.set_cons_zero, List.set_cons_succ]) | (refine hd_skip (by rfl) ?_; simp only [Act.put, List.setIfInBounds_toArray, List.set_cons_zero, List.set_cons_succ])))
 refine hd_call (fun K hK => ?_)
 go_simp
 have hB2 : Blk (w1.setCell ⟨xb, 9, none⟩ (.int .i64 ((j : Int) + (p.length : Int)))) xb 99 (x.cells (j + p.length)) := by
   have := HB1.out.set 9 (.int .i64 ((j : Int) + (p.length : Int)))
   exact this
 have HB2 := Lib.hid hB2
 have hS2 : SkS xb (.slice x.ea x.e.length x.eca) (w1.setCell ⟨xb, 9, none⟩ (.int .i64 ((j : Int) + (p.length : Int)))) := ⟨hB2.cell 8⟩
 have HOS := Lib.hid (HO1.out.setCell (p := ⟨xb, 9, none⟩) (Or.inl rfl) (.int .i64 ((j : Int) + (p.length : Int))))
 refine hK _ _ hS2 ?_
 clear hK K hS2 hB2
 refine hd_nil ?_
 go_wp2_with fail
 simp [bodyPost, results, Tryz.results109, go_sem]
 exact ⟨HB2.out, HOS.out⟩
def NamP (xb : Nat) (q : Rs (List Nd)) (w : World) (r : Ending) (w' : World) : Prop :=
 (∀ v, q = .ok v → ∃ A c, r = .returned (.slice A v.length c) ∧ v.length ≤ c ∧ c ≤ 9223372036854775807 ∧ NdOff (gx xb w) w' w'.heap.size A v) ∧ (∀ k, q = .bad k → r = .panicked (noV k)) ∧ RowKit.Below w.heap.size w w'
theorem NamP.bad {xb : Nat} {k : Int} {w w' : World} (h : RowKit.Below w.heap.size w w') : NamP xb (.bad k) w (.panicked (noV k)) w' := ⟨fun v e => (nomatch e), fun k' e => by injection e with e; subst e; rfl, h⟩
theorem NamP.new {xb : Nat} {v : List Nd} {w w' : World} {r : Ending} (_hx : xb < w.heap.size) (h : NdsNew w r w' v) : NamP xb (.ok v) w r w' := by
 obtain ⟨A, c, e, g1, g2, g3, g4, g5⟩ := h
 have hof : NdOff (gx xb w) w' w'.heap.size A v := fun hne => by
   obtain ⟨b, o, e1, e2, e3⟩ := g3 hne
   exact ⟨b, o, e1, e2, by have := g5 b o e1; unfold gx; omega, e3⟩
 exact ⟨fun u hu => by injection hu with hu; subst hu; exact ⟨A, c, e, g1, g2, hof⟩, fun k e => (nomatch e), g4⟩
set_option maxHeartbeats 6400000 in
theorem named_1 (x : Evl) (xb j : Nat) (s : ByteArray) (w : World) (_hx : EvIn x xb w) (hB : Blk w xb 99 (x.cells j)) (e1 : s.toList = [112, 114, 105, 110, 99, 105, 112, 97, 108]) :
   Calls Tryz.prog 85 #[.pointer (some ⟨xb, 0, none⟩), .string s] w fun r w' => NamP xb (.ok [eN x.q.who]) w r w' := by
 have hxb := hB.lt
 have c1 : w.cell? ⟨xb, 1, none⟩ = some (.string x.q.who.ty) := hB.cell 1
 have c2 : w.cell? ⟨xb, 2, none⟩ = some (.string x.q.who.id) := hB.cell 2
 have c3 : w.cell? ⟨xb, 3, none⟩ = some (.string x.q.act.ty) := hB.cell 3
 have c4 : w.cell? ⟨xb, 4, none⟩ = some (.string x.q.act.id) := hB.cell 4
 have c5 : w.cell? ⟨xb, 5, none⟩ = some (.string x.q.what.ty) := hB.cell 5
 have c6 : w.cell? ⟨xb, 6, none⟩ = some (.string x.q.what.id) := hB.cell 6
 have c7 : w.cell? ⟨xb, 7, none⟩ = some (.slice x.qa x.q.ctx.length x.qc) := hB.cell 7
 have t1 : (s.toList == [112, 114, 105, 110, 99, 105, 112, 97, 108]) = true := by simpa using e1
 clear e1
 clear _hx hB
 generalize x.q.who = u at *
 go_enter Tryz.func85, Tryz.ntmps85
 go_wp2_with fail
 refine (eval_entity u _).mono ?_
 rintro r w1 hn
 have HN := Lib.hid (NamP.new hxb hn)
 obtain ⟨A1, d1, rfl, -⟩ := hn
 go_wp2_with fail
 go_ret
 exact HN.out
set_option maxHeartbeats 6400000 in
theorem named_2 (x : Evl) (xb j : Nat) (s : ByteArray) (w : World) (_hx : EvIn x xb w) (hB : Blk w xb 99 (x.cells j)) (n1 : ¬ s.toList = [112, 114, 105, 110, 99, 105, 112, 97, 108]) (e2 : s.toList = [97, 99, 116, 105, 111, 110]) :
   Calls Tryz.prog 85 #[.pointer (some ⟨xb, 0, none⟩), .string s] w fun r w' => NamP xb (.ok [eN x.q.act]) w r w' := by
 have hxb := hB.lt
 have c1 : w.cell? ⟨xb, 1, none⟩ = some (.string x.q.who.ty) := hB.cell 1
 have c2 : w.cell? ⟨xb, 2, none⟩ = some (.string x.q.who.id) := hB.cell 2
 have c3 : w.cell? ⟨xb, 3, none⟩ = some (.string x.q.act.ty) := hB.cell 3
 have c4 : w.cell? ⟨xb, 4, none⟩ = some (.string x.q.act.id) := hB.cell 4
 have c5 : w.cell? ⟨xb, 5, none⟩ = some (.string x.q.what.ty) := hB.cell 5
 have c6 : w.cell? ⟨xb, 6, none⟩ = some (.string x.q.what.id) := hB.cell 6
 have c7 : w.cell? ⟨xb, 7, none⟩ = some (.slice x.qa x.q.ctx.length x.qc) := hB.cell 7
 have t1 : (s.toList == [112, 114, 105, 110, 99, 105, 112, 97, 108]) = false := by simpa using n1
 have t2 : (s.toList == [97, 99, 116, 105, 111, 110]) = true := by simpa using e2
 clear n1 e2
 clear _hx hB
 generalize x.q.act = u at *
 go_enter Tryz.func85, Tryz.ntmps85
 go_wp2_with fail
 refine (eval_entity u _).mono ?_
 rintro r w1 hn
 have HN := Lib.hid (NamP.new hxb hn)
 obtain ⟨A1, d1, rfl, -⟩ := hn
 go_wp2_with fail
 go_ret
 exact HN.out
set_option maxHeartbeats 6400000 in
theorem named_3 (x : Evl) (xb j : Nat) (s : ByteArray) (w : World) (_hx : EvIn x xb w) (hB : Blk w xb 99 (x.cells j)) (n1 : ¬ s.toList = [112, 114, 105, 110, 99, 105, 112, 97, 108]) (n2 : ¬ s.toList = [97, 99, 116, 105, 111, 110]) (e3 : s.toList = [114, 101, 115, 111, 117, 114, 99, 101]) :
   Calls Tryz.prog 85 #[.pointer (some ⟨xb, 0, none⟩), .string s] w fun r w' => NamP xb (.ok [eN x.q.what]) w r w' := by
 have hxb := hB.lt
 have c1 : w.cell? ⟨xb, 1, none⟩ = some (.string x.q.who.ty) := hB.cell 1
 have c2 : w.cell? ⟨xb, 2, none⟩ = some (.string x.q.who.id) := hB.cell 2
 have c3 : w.cell? ⟨xb, 3, none⟩ = some (.string x.q.act.ty) := hB.cell 3
 have c4 : w.cell? ⟨xb, 4, none⟩ = some (.string x.q.act.id) := hB.cell 4
 have c5 : w.cell? ⟨xb, 5, none⟩ = some (.string x.q.what.ty) := hB.cell 5
 have c6 : w.cell? ⟨xb, 6, none⟩ = some (.string x.q.what.id) := hB.cell 6
 have c7 : w.cell? ⟨xb, 7, none⟩ = some (.slice x.qa x.q.ctx.length x.qc) := hB.cell 7
 have t1 : (s.toList == [112, 114, 105, 110, 99, 105, 112, 97, 108]) = false := by simpa using n1
 have t2 : (s.toList == [97, 99, 116, 105, 111, 110]) = false := by simpa using n2
 have t3 : (s.toList == [114, 101, 115, 111, 117, 114, 99, 101]) = true := by simpa using e3
 clear n1 n2 e3
 clear _hx hB
 generalize x.q.what = u at *
 go_enter Tryz.func85, Tryz.ntmps85
 go_wp2_with fail
 refine (eval_entity u _).mono ?_
 rintro r w1 hn
 have HN := Lib.hid (NamP.new hxb hn)
 obtain ⟨A1, d1, rfl, -⟩ := hn
 go_wp2_with fail
 go_ret
 exact HN.out
set_option maxHeartbeats 6400000 in
theorem named_4 (x : Evl) (xb j : Nat) (s : ByteArray) (w : World) (hx : EvIn x xb w) (hB : Blk w xb 99 (x.cells j)) (n1 : ¬ s.toList = [112, 114, 105, 110, 99, 105, 112, 97, 108]) (n2 : ¬ s.toList = [97, 99, 116, 105, 111, 110]) (n3 : ¬ s.toList = [114, 101, 115, 111, 117, 114, 99, 101]) (e4 : s.toList = [99, 111, 110, 116, 101, 120, 116]) :
   Calls Tryz.prog 85 #[.pointer (some ⟨xb, 0, none⟩), .string s] w fun r w' => NamP xb (.ok x.q.ctx) w r w' := by
 have hxb := hB.lt
 have c1 : w.cell? ⟨xb, 1, none⟩ = some (.string x.q.who.ty) := hB.cell 1
 have c2 : w.cell? ⟨xb, 2, none⟩ = some (.string x.q.who.id) := hB.cell 2
 have c3 : w.cell? ⟨xb, 3, none⟩ = some (.string x.q.act.ty) := hB.cell 3
 have c4 : w.cell? ⟨xb, 4, none⟩ = some (.string x.q.act.id) := hB.cell 4
 have c5 : w.cell? ⟨xb, 5, none⟩ = some (.string x.q.what.ty) := hB.cell 5
 have c6 : w.cell? ⟨xb, 6, none⟩ = some (.string x.q.what.id) := hB.cell 6
 have c7 : w.cell? ⟨xb, 7, none⟩ = some (.slice x.qa x.q.ctx.length x.qc) := hB.cell 7
 have t1 : (s.toList == [112, 114, 105, 110, 99, 105, 112, 97, 108]) = false := by simpa using n1
 have t2 : (s.toList == [97, 99, 116, 105, 111, 110]) = false := by simpa using n2
 have t3 : (s.toList == [114, 101, 115, 111, 117, 114, 99, 101]) = false := by simpa using n3
 have t4 : (s.toList == [99, 111, 110, 116, 101, 120, 116]) = true := by simpa using e4
 clear n1 n2 n3 e4
 have hP : NamP xb (.ok x.q.ctx) w (.returned (.slice x.qa x.q.ctx.length x.qc)) w := ⟨fun v e => by injection e with e; subst e; exact ⟨x.qa, x.qc, rfl, hx.qc.1, hx.qc.2, hx.ctx.off (fun b e => e.1) (Nat.le_of_lt hxb)⟩, fun k e => (nomatch e), RowKit.Below.refl _ _⟩
 have HP := Lib.hid hP
 clear hx hB hP
 go_enter Tryz.func85, Tryz.ntmps85
 go_wp2_with fail
 go_ret
 exact HP.out
set_option maxHeartbeats 6400000 in
theorem named_5 (x : Evl) (xb j : Nat) (s : ByteArray) (w : World) (_hx : EvIn x xb w) (hB : Blk w xb 99 (x.cells j)) (n1 : ¬ s.toList = [112, 114, 105, 110, 99, 105, 112, 97, 108]) (n2 : ¬ s.toList = [97, 99, 116, 105, 111, 110]) (n3 : ¬ s.toList = [114, 101, 115, 111, 117, 114, 99, 101]) (n4 : ¬ s.toList = [99, 111, 110, 116, 101, 120, 116]) :
   Calls Tryz.prog 85 #[.pointer (some ⟨xb, 0, none⟩), .string s] w fun r w' => NamP xb (.bad 3) w r w' := by
 have hxb := hB.lt
 have c1 : w.cell? ⟨xb, 1, none⟩ = some (.string x.q.who.ty) := hB.cell 1
 have c2 : w.cell? ⟨xb, 2, none⟩ = some (.string x.q.who.id) := hB.cell 2
 have c3 : w.cell? ⟨xb, 3, none⟩ = some (.string x.q.act.ty) := hB.cell 3
 have c4 : w.cell? ⟨xb, 4, none⟩ = some (.string x.q.act.id) := hB.cell 4
 have c5 : w.cell? ⟨xb, 5, none⟩ = some (.string x.q.what.ty) := hB.cell 5
 have c6 : w.cell? ⟨xb, 6, none⟩ = some (.string x.q.what.id) := hB.cell 6
 have c7 : w.cell? ⟨xb, 7, none⟩ = some (.slice x.qa x.q.ctx.length x.qc) := hB.cell 7
 have t1 : (s.toList == [112, 114, 105, 110, 99, 105, 112, 97, 108]) = false := by simpa using n1
 have t2 : (s.toList == [97, 99, 116, 105, 111, 110]) = false := by simpa using n2
 have t3 : (s.toList == [114, 101, 115, 111, 117, 114, 99, 101]) = false := by simpa using n3
 have t4 : (s.toList == [99, 111, 110, 116, 101, 120, 116]) = false := by simpa using n4
 clear n1 n2 n3 n4
 clear _hx hB
 go_enter Tryz.func85, Tryz.ntmps85
 go_wp2_with fail
 exact ⟨rfl, NamP.bad (RowKit.Below.refl _ _)⟩
theorem eval_named (x : Evl) (xb j : Nat) (s : ByteArray) (w : World) (hx : EvIn x xb w) (hB : Blk w xb 99 (x.cells j)) :
   Calls Tryz.prog 85 #[.pointer (some ⟨xb, 0, none⟩), .string s] w fun r w' => NamP xb (namedR x.q s.toList) w r w' := by
 unfold namedR
 by_cases h1 : s.toList = [112, 114, 105, 110, 99, 105, 112, 97, 108]
 · rw [if_pos h1]; exact named_1 x xb j s w hx hB h1
 rw [if_neg h1]
 by_cases h2 : s.toList = [97, 99, 116, 105, 111, 110]
 · rw [if_pos h2]; exact named_2 x xb j s w hx hB h1 h2
 rw [if_neg h2]
 by_cases h3 : s.toList = [114, 101, 115, 111, 117, 114, 99, 101]
 · rw [if_pos h3]; exact named_3 x xb j s w hx hB h1 h2 h3
 rw [if_neg h3]
 by_cases h4 : s.toList = [99, 111, 110, 116, 101, 120, 116]
 · rw [if_pos h4]; exact named_4 x xb j s w hx hB h1 h2 h3 h4
 rw [if_neg h4]
 exact named_5 x xb j s w hx hB h1 h2 h3 h4
end Go.Proofs.YtpheiojmcafolaaGreatDoor
