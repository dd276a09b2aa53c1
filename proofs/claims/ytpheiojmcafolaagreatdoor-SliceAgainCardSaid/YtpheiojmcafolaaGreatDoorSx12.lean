/-
  THE WALKS: link.slotted, link.Slots.
  THE WALKS: pol.op.
  THE WALKS: pol.Scoped.
-/
import Derived.Test.YtpheiojmcafolaaGreatDoorSx06
import Derived.Test.YtpheiojmcafolaaGreatDoorSx11
import Derived.Test.YtpheiojmcafolaaGreatDoorSx05
import Derived.Test.YtpheiojmcafolaaGreatDoorSx01
namespace Go.Proofs.YtpheiojmcafolaaGreatDoor
open Go.RowKit Go.Sort
def slottedP (s : Sc) : Bool := s.op == 5 || s.op == 6
set_option maxRecDepth 100000 in
set_option maxHeartbeats 800000 in
theorem link_slotted (s : Sc) (w : World) : Calls Tryz.prog 138 #[.agg #[.int .i64 s.op, .string s.ty, .string s.uid.ty, .string s.uid.id]] w fun e w' => e = .returned (.bool (slottedP s)) ∧ Below w.heap.size w w' := by
 by_cases h5 : s.op = 5
 · have hv : slottedP s = true := by simp [slottedP, h5]
   rw [hv, h5]
   go_enter Tryz.func138, Tryz.ntmps138
   go_wp2_with fail
   go_ret
   exact ⟨rfl, by (repeat (first | assumption | exact Below.refl _ _ | apply Below.drew | apply below_drewN | (refine Below.alloc ?_ (by first | exact Nat.le_refl _ | omega | (simp; done) | (simp; omega)) _)))⟩
 · by_cases h6 : s.op = 6
   · have hv : slottedP s = true := by simp [slottedP, h6]
     rw [hv, h6]
     go_enter Tryz.func138, Tryz.ntmps138
     go_wp2_with fail
     go_ret
     exact ⟨rfl, by (repeat (first | assumption | exact Below.refl _ _ | apply Below.drew | apply below_drewN | (refine Below.alloc ?_ (by first | exact Nat.le_refl _ | omega | (simp; done) | (simp; omega)) _)))⟩
   · have hv : slottedP s = false := by simp [slottedP, h5, h6]
     have t5 : (s.op == 5) = false := by simp [h5]
     have t6 : (s.op == 6) = false := by simp [h6]
     rw [hv]
     clear h5 h6 hv
     go_enter Tryz.func138, Tryz.ntmps138
     go_wp2_with fail
     go_ret
     exact ⟨rfl, by (repeat (first | assumption | exact Below.refl _ _ | apply Below.drew | apply below_drewN | (refine Below.alloc ?_ (by first | exact Nat.le_refl _ | omega | (simp; done) | (simp; omega)) _)))⟩
open Go.RowKit Go.Sort
def slotsP (p : Po) : List (List UInt8) := (if slottedP p.who = true then [[63, 112, 114, 105, 110, 99, 105, 112, 97, 108]] else []) ++ (if slottedP p.what = true then [[63, 114, 101, 115, 111, 117, 114, 99, 101]] else [])
theorem own_strs2 {w : World} {base : Nat} {v : Value} {n : Nat} {ss : List (List UInt8)} (h : w.ownsRow base 9 1 v n (ss.map encStr)) (hn : n = ss.length) :
   ∃ A c, v = .slice A ss.length c ∧ ss.length ≤ c ∧ c ≤ 9223372036854775807 ∧ StrSl w w.heap.size A ss := by
 subst hn
 rcases h.2 with ⟨hv, h0⟩ | ⟨g, cap, cur, hv, hb, hg, hnc, hcm, hcs, htk⟩
 · exact ⟨none, 0, by rw [hv, h0], by omega, by omega, fun hne => absurd (List.eq_nil_of_length_eq_zero h0) hne⟩
 · unfold maxLen at hcm
   refine ⟨some ⟨g, 0, none⟩, cap, hv, hnc, hcm, fun _ => ⟨g, 0, rfl, (Array.getElem?_eq_some_iff.1 hg).1, fun i l hl => ?_⟩⟩
   subst hv
   have hi := (List.getElem?_eq_some_iff.1 hl).1
   rw [Nat.zero_add]
   exact (h.cellAt i (by omega)).trans (by rw [List.getElem?_map, hl]; rfl)
theorem own_later {B k n : Nat} {e : TypeId} {v : Value} {xs : List Value} {w w' : World} (h : w.ownsRow B e k v n xs) (hb : RowKit.Below w.heap.size w w') : w'.ownsRow B e k v n xs :=
 h.kept (row := none) ⟨hb.os, hb.tape, hb.output, hb.size, fun k hk _ => hb.block k hk⟩ (by cases hv : v.ownBlock with | none => exact .inl rfl | some g => exact .inr (by simp))
set_option maxRecDepth 100000 in
set_option maxHeartbeats 3200000 in
theorem link_Slots_tt (p : Po) (cs : List CdM) (A : Option Addr) (c : Nat) (w : World) (hp : p.conds = cs.map CdM.cd) (hz : PoZ p) (hc : CdsAt w w.heap.size A cs) (hl : cs.length ≤ 9223372036854775807) (hk : polErr p = 0) (h1 : slottedP p.who = true) (h2 : slottedP p.what = true) :
   Calls Tryz.prog 102 #[.agg #[.string p.name, .bool p.forbid, .int .i64 p.who.op, .string p.who.ty, .string p.who.uid.ty, .string p.who.uid.id, .int .i64 p.act.op, .string p.act.ty, .string p.act.uid.ty, .string p.act.uid.id, .int .i64 p.what.op, .string p.what.ty, .string p.what.uid.ty, .string p.what.uid.id, .slice A cs.length c]] w fun e w' => StrsBack w e w' (slotsP p) 0 := by
 obtain ⟨i0, hi, hz0, hz1, hz2⟩ := info_parts string_info
 have HV : Hid (slotsP p = [[63, 112, 114, 105, 110, 99, 105, 112, 97, 108], [63, 114, 101, 115, 111, 117, 114, 99, 101]]) := by show _ = _; unfold slotsP; rw [h1, h2]; rfl
 have H1 := Lib.hid (fun W => link_slotted p.who W)
 have H2 := Lib.hid (fun W => link_slotted p.what W)
 rw [h1] at H1
 rw [h2] at H2
 have HK := Lib.hid (fun (W : World) h => pol_Check p cs A c W hp hz h hl)
 rw [hk] at HK
 have HC := Lib.hid hc
 clear hp hc hz hk
 clear h1 h2
 go_enter Tryz.func102, Tryz.ntmps102
 go_wp2_with fail
 refine (HK.out _ (HC.out.later (by (repeat (first | assumption | exact Below.refl _ _ | apply Below.drew | apply below_drewN | (refine Below.alloc ?_ (by first | exact Nat.le_refl _ | omega | (simp; done) | (simp; omega)) _)))))).mono ?_
 rintro r w0 ⟨rfl, hb0⟩
 have B0 := (Blk.new w 47 _).below hb0 (by simp)
 have hw0 : RowKit.Below w.heap.size w w0 := ((RowKit.Below.refl _ _).alloc (Nat.le_refl _) _).trans (hb0.mono (by simp))
 clear hb0
 have c0 := B0.cell
 have l0 := B0.lt
 go_wp2_with fail
 refine (H1.out _).mono ?_
 rintro r w1 ⟨rfl, hb1⟩
 have B1 := B0.below hb1 B0.lt
 have hw1 := hw0.trans (hb1.mono hw0.size)
 clear hb1 c0 l0 B0
 have c0 := B1.cell
 have l0 := B1.lt
 go_wp2_with (at_builtin; refine wpList_append_own _ rfl (.tmp 14) (.tmp 15) 23 rfl (w.heap.size + 1) 9 i0 _ 1 16 Tryz.underlying23 hi hz0 hz1 hz2 rfl (by omega) (.slice none 0 0) 0 [] rfl (World.ownsRow_nil _ _ _ _) ⟨w1.heap.size, 0, none⟩ 1 1 [.string ⟨#[63, 112, 114, 105, 110, 99, 105, 112, 97, 108]⟩] rfl rfl (new_one _ _ _ _ rfl) (by intro u hu; simp at hu; subst hu; rfl) (by decide) (by omega) (by simp; omega) ?_; intro v2 w2 hown2 hgrow2 _; have hb2 : RowKit.Below w.heap.size w w2 := (hw1.alloc hw1.size _).grown hgrow2 (by simp; omega) (by intro q hq; simp [Value.ownBlock] at hq); have B2 : Blk w2 w.heap.size 47 _ := (B1.alloc _).below ((RowKit.Below.refl (w.heap.size + 1) _).grown hgrow2 (by simp; omega) (by intro q hq; simp [Value.ownBlock] at hq)) (by omega); simp only [Nat.zero_add, List.nil_append] at hown2; have HO2 := Lib.hid hown2; clear hown2 hgrow2 c0 l0 B1 hw1; have c0 := B2.cell; have l0 := B2.lt)
 refine (H2.out _).mono ?_
 rintro r w3 ⟨rfl, hb3⟩
 have hw3 := hb2.trans (hb3.mono hb2.size)
 have HO3 := Lib.hid (own_later HO2.out hb3)
 clear hb3 c0 l0
 go_wp2_with (at_builtin; refine wpList_append_own _ rfl (.tmp 20) (.tmp 21) 23 rfl (w.heap.size + 1) 9 i0 _ 1 16 Tryz.underlying23 hi hz0 hz1 hz2 rfl (by omega) v2 1 [.string ⟨#[63, 112, 114, 105, 110, 99, 105, 112, 97, 108]⟩] rfl (HO3.out.alloc _) ⟨w3.heap.size, 0, none⟩ 1 1 [.string ⟨#[63, 114, 101, 115, 111, 117, 114, 99, 101]⟩] rfl rfl (new_one _ _ _ _ rfl) (by intro u hu; simp at hu; subst hu; rfl) (by decide) (by omega) (by simp; have := hw3.size; omega) ?_; intro v4 w4 hown4 hgrow4 _)
 have hb4 : RowKit.Below w.heap.size w w4 := (hw3.alloc hw3.size _).grown hgrow4 (by simp; have := hw3.size; omega) (fun q hq => by have := (HO3.out.lt q hq).1; omega)
 go_ret2
 rw [HV.out]
 obtain ⟨A4, c4, rfl, h1, h2, h3⟩ := own_strs2 (ss := [[63, 112, 114, 105, 110, 99, 105, 112, 97, 108], [63, 114, 101, 115, 111, 117, 114, 99, 101]]) hown4 rfl
 exact ⟨A4, c4, rfl, h1, h2, h3, hb4⟩
set_option maxRecDepth 100000 in
set_option maxHeartbeats 3200000 in
theorem link_Slots_tf (p : Po) (cs : List CdM) (A : Option Addr) (c : Nat) (w : World) (hp : p.conds = cs.map CdM.cd) (hz : PoZ p) (hc : CdsAt w w.heap.size A cs) (hl : cs.length ≤ 9223372036854775807) (hk : polErr p = 0) (h1 : slottedP p.who = true) (h2 : slottedP p.what = false) :
   Calls Tryz.prog 102 #[.agg #[.string p.name, .bool p.forbid, .int .i64 p.who.op, .string p.who.ty, .string p.who.uid.ty, .string p.who.uid.id, .int .i64 p.act.op, .string p.act.ty, .string p.act.uid.ty, .string p.act.uid.id, .int .i64 p.what.op, .string p.what.ty, .string p.what.uid.ty, .string p.what.uid.id, .slice A cs.length c]] w fun e w' => StrsBack w e w' (slotsP p) 0 := by
 obtain ⟨i0, hi, hz0, hz1, hz2⟩ := info_parts string_info
 have HV : Hid (slotsP p = [[63, 112, 114, 105, 110, 99, 105, 112, 97, 108]]) := by show _ = _; unfold slotsP; rw [h1, h2]; rfl
 have H1 := Lib.hid (fun W => link_slotted p.who W)
 have H2 := Lib.hid (fun W => link_slotted p.what W)
 rw [h1] at H1
 rw [h2] at H2
 have HK := Lib.hid (fun (W : World) h => pol_Check p cs A c W hp hz h hl)
 rw [hk] at HK
 have HC := Lib.hid hc
 clear hp hc hz hk
 clear h1 h2
 go_enter Tryz.func102, Tryz.ntmps102
 go_wp2_with fail
 refine (HK.out _ (HC.out.later (by (repeat (first | assumption | exact Below.refl _ _ | apply Below.drew | apply below_drewN | (refine Below.alloc ?_ (by first | exact Nat.le_refl _ | omega | (simp; done) | (simp; omega)) _)))))).mono ?_
 rintro r w0 ⟨rfl, hb0⟩
 have B0 := (Blk.new w 47 _).below hb0 (by simp)
 have hw0 : RowKit.Below w.heap.size w w0 := ((RowKit.Below.refl _ _).alloc (Nat.le_refl _) _).trans (hb0.mono (by simp))
 clear hb0
 have c0 := B0.cell
 have l0 := B0.lt
 go_wp2_with fail
 refine (H1.out _).mono ?_
 rintro r w1 ⟨rfl, hb1⟩
 have B1 := B0.below hb1 B0.lt
 have hw1 := hw0.trans (hb1.mono hw0.size)
 clear hb1 c0 l0 B0
 have c0 := B1.cell
 have l0 := B1.lt
 go_wp2_with (at_builtin; refine wpList_append_own _ rfl (.tmp 14) (.tmp 15) 23 rfl (w.heap.size + 1) 9 i0 _ 1 16 Tryz.underlying23 hi hz0 hz1 hz2 rfl (by omega) (.slice none 0 0) 0 [] rfl (World.ownsRow_nil _ _ _ _) ⟨w1.heap.size, 0, none⟩ 1 1 [.string ⟨#[63, 112, 114, 105, 110, 99, 105, 112, 97, 108]⟩] rfl rfl (new_one _ _ _ _ rfl) (by intro u hu; simp at hu; subst hu; rfl) (by decide) (by omega) (by simp; omega) ?_; intro v2 w2 hown2 hgrow2 _; have hb2 : RowKit.Below w.heap.size w w2 := (hw1.alloc hw1.size _).grown hgrow2 (by simp; omega) (by intro q hq; simp [Value.ownBlock] at hq); have B2 : Blk w2 w.heap.size 47 _ := (B1.alloc _).below ((RowKit.Below.refl (w.heap.size + 1) _).grown hgrow2 (by simp; omega) (by intro q hq; simp [Value.ownBlock] at hq)) (by omega); simp only [Nat.zero_add, List.nil_append] at hown2; have HO2 := Lib.hid hown2; clear hown2 hgrow2 c0 l0 B1 hw1; have c0 := B2.cell; have l0 := B2.lt)
 refine (H2.out _).mono ?_
 rintro r w3 ⟨rfl, hb3⟩
 have hw3 := hb2.trans (hb3.mono hb2.size)
 have HO3 := Lib.hid (own_later HO2.out hb3)
 clear hb3 c0 l0
 go_wp2_with fail
 go_ret2
 rw [HV.out]
 obtain ⟨A4, c4, rfl, h1, h2, h3⟩ := own_strs2 (ss := [[63, 112, 114, 105, 110, 99, 105, 112, 97, 108]]) HO3.out rfl
 exact ⟨A4, c4, rfl, h1, h2, h3, hw3⟩
set_option maxRecDepth 100000 in
set_option maxHeartbeats 3200000 in
theorem link_Slots_ft (p : Po) (cs : List CdM) (A : Option Addr) (c : Nat) (w : World) (hp : p.conds = cs.map CdM.cd) (hz : PoZ p) (hc : CdsAt w w.heap.size A cs) (hl : cs.length ≤ 9223372036854775807) (hk : polErr p = 0) (h1 : slottedP p.who = false) (h2 : slottedP p.what = true) :
   Calls Tryz.prog 102 #[.agg #[.string p.name, .bool p.forbid, .int .i64 p.who.op, .string p.who.ty, .string p.who.uid.ty, .string p.who.uid.id, .int .i64 p.act.op, .string p.act.ty, .string p.act.uid.ty, .string p.act.uid.id, .int .i64 p.what.op, .string p.what.ty, .string p.what.uid.ty, .string p.what.uid.id, .slice A cs.length c]] w fun e w' => StrsBack w e w' (slotsP p) 0 := by
 obtain ⟨i0, hi, hz0, hz1, hz2⟩ := info_parts string_info
 have HV : Hid (slotsP p = [[63, 114, 101, 115, 111, 117, 114, 99, 101]]) := by show _ = _; unfold slotsP; rw [h1, h2]; rfl
 have H1 := Lib.hid (fun W => link_slotted p.who W)
 have H2 := Lib.hid (fun W => link_slotted p.what W)
 rw [h1] at H1
 rw [h2] at H2
 have HK := Lib.hid (fun (W : World) h => pol_Check p cs A c W hp hz h hl)
 rw [hk] at HK
 have HC := Lib.hid hc
 clear hp hc hz hk
 clear h1 h2
 go_enter Tryz.func102, Tryz.ntmps102
 go_wp2_with fail
 refine (HK.out _ (HC.out.later (by (repeat (first | assumption | exact Below.refl _ _ | apply Below.drew | apply below_drewN | (refine Below.alloc ?_ (by first | exact Nat.le_refl _ | omega | (simp; done) | (simp; omega)) _)))))).mono ?_
 rintro r w0 ⟨rfl, hb0⟩
 have B0 := (Blk.new w 47 _).below hb0 (by simp)
 have hw0 : RowKit.Below w.heap.size w w0 := ((RowKit.Below.refl _ _).alloc (Nat.le_refl _) _).trans (hb0.mono (by simp))
 clear hb0
 have c0 := B0.cell
 have l0 := B0.lt
 go_wp2_with fail
 refine (H1.out _).mono ?_
 rintro r w1 ⟨rfl, hb1⟩
 have B1 := B0.below hb1 B0.lt
 have hw1 := hw0.trans (hb1.mono hw0.size)
 clear hb1 c0 l0 B0
 have c0 := B1.cell
 have l0 := B1.lt
 go_wp2_with fail
 refine (H2.out _).mono ?_
 rintro r w3 ⟨rfl, hb3⟩
 have hw3 := hw1.trans (hb3.mono hw1.size)
 clear hb3 c0 l0
 go_wp2_with (at_builtin; refine wpList_append_own _ rfl (.tmp 20) (.tmp 21) 23 rfl (w.heap.size + 1) 9 i0 _ 1 16 Tryz.underlying23 hi hz0 hz1 hz2 rfl (by omega) (.slice none 0 0) 0 [] rfl (World.ownsRow_nil _ _ _ _) ⟨w3.heap.size, 0, none⟩ 1 1 [.string ⟨#[63, 114, 101, 115, 111, 117, 114, 99, 101]⟩] rfl rfl (new_one _ _ _ _ rfl) (by intro u hu; simp at hu; subst hu; rfl) (by decide) (by omega) (by simp; have := hw3.size; omega) ?_; intro v4 w4 hown4 hgrow4 _)
 have hb4 : RowKit.Below w.heap.size w w4 := (hw3.alloc hw3.size _).grown hgrow4 (by simp; have := hw3.size; omega) (by intro q hq; simp [Value.ownBlock] at hq)
 go_ret2
 rw [HV.out]
 obtain ⟨A4, c4, rfl, h1, h2, h3⟩ := own_strs2 (ss := [[63, 114, 101, 115, 111, 117, 114, 99, 101]]) hown4 rfl
 exact ⟨A4, c4, rfl, h1, h2, h3, hb4⟩
set_option maxRecDepth 100000 in
set_option maxHeartbeats 3200000 in
theorem link_Slots_ff (p : Po) (cs : List CdM) (A : Option Addr) (c : Nat) (w : World) (hp : p.conds = cs.map CdM.cd) (hz : PoZ p) (hc : CdsAt w w.heap.size A cs) (hl : cs.length ≤ 9223372036854775807) (hk : polErr p = 0) (h1 : slottedP p.who = false) (h2 : slottedP p.what = false) :
   Calls Tryz.prog 102 #[.agg #[.string p.name, .bool p.forbid, .int .i64 p.who.op, .string p.who.ty, .string p.who.uid.ty, .string p.who.uid.id, .int .i64 p.act.op, .string p.act.ty, .string p.act.uid.ty, .string p.act.uid.id, .int .i64 p.what.op, .string p.what.ty, .string p.what.uid.ty, .string p.what.uid.id, .slice A cs.length c]] w fun e w' => StrsBack w e w' (slotsP p) 0 := by
 obtain ⟨i0, hi, hz0, hz1, hz2⟩ := info_parts string_info
 have HV : Hid (slotsP p = []) := by show _ = _; unfold slotsP; rw [h1, h2]; rfl
 have H1 := Lib.hid (fun W => link_slotted p.who W)
 have H2 := Lib.hid (fun W => link_slotted p.what W)
 rw [h1] at H1
 rw [h2] at H2
 have HK := Lib.hid (fun (W : World) h => pol_Check p cs A c W hp hz h hl)
 rw [hk] at HK
 have HC := Lib.hid hc
 clear hp hc hz hk
 clear h1 h2
 go_enter Tryz.func102, Tryz.ntmps102
 go_wp2_with fail
 refine (HK.out _ (HC.out.later (by (repeat (first | assumption | exact Below.refl _ _ | apply Below.drew | apply below_drewN | (refine Below.alloc ?_ (by first | exact Nat.le_refl _ | omega | (simp; done) | (simp; omega)) _)))))).mono ?_
 rintro r w0 ⟨rfl, hb0⟩
 have B0 := (Blk.new w 47 _).below hb0 (by simp)
 have hw0 : RowKit.Below w.heap.size w w0 := ((RowKit.Below.refl _ _).alloc (Nat.le_refl _) _).trans (hb0.mono (by simp))
 clear hb0
 have c0 := B0.cell
 have l0 := B0.lt
 go_wp2_with fail
 refine (H1.out _).mono ?_
 rintro r w1 ⟨rfl, hb1⟩
 have B1 := B0.below hb1 B0.lt
 have hw1 := hw0.trans (hb1.mono hw0.size)
 clear hb1 c0 l0 B0
 have c0 := B1.cell
 have l0 := B1.lt
 go_wp2_with fail
 refine (H2.out _).mono ?_
 rintro r w3 ⟨rfl, hb3⟩
 have hw3 := hw1.trans (hb3.mono hw1.size)
 clear hb3 c0 l0
 go_wp2_with fail
 go_ret2
 rw [HV.out]
 exact ⟨none, 0, rfl, Nat.le_refl _, by omega, StrSl.nil _ _ _, hw3⟩
theorem link_Slots (p : Po) (cs : List CdM) (A : Option Addr) (c : Nat) (w : World) (hp : p.conds = cs.map CdM.cd) (hz : PoZ p) (hc : CdsAt w w.heap.size A cs) (hl : cs.length ≤ 9223372036854775807) (hk : polErr p = 0) :
   Calls Tryz.prog 102 #[.agg #[.string p.name, .bool p.forbid, .int .i64 p.who.op, .string p.who.ty, .string p.who.uid.ty, .string p.who.uid.id, .int .i64 p.act.op, .string p.act.ty, .string p.act.uid.ty, .string p.act.uid.id, .int .i64 p.what.op, .string p.what.ty, .string p.what.uid.ty, .string p.what.uid.id, .slice A cs.length c]] w fun e w' => StrsBack w e w' (slotsP p) 0 := by
 cases h1 : slottedP p.who <;> cases h2 : slottedP p.what
 · exact link_Slots_ff p cs A c w hp hz hc hl hk h1 h2
 · exact link_Slots_ft p cs A c w hp hz hc hl hk h1 h2
 · exact link_Slots_tf p cs A c w hp hz hc hl hk h1 h2
 · exact link_Slots_tt p cs A c w hp hz hc hl hk h1 h2
end Go.Proofs.YtpheiojmcafolaaGreatDoor
namespace Go.Proofs.YtpheiojmcafolaaGreatDoor
open Go.RowKit Go.Sort
set_option maxRecDepth 100000 in
set_option maxHeartbeats 1600000 in
theorem pol_op (x : Nd) (ps : List NsM) (A : Option Addr) (c : Nat) (w : World) (hs : NssAt w A ps) (hne : ∀ p ∈ ps, p.e ≠ []) (hl : (catN ps).length ≤ 100000) (hp : ps.length ≤ 100000) :
   Calls Tryz.prog 55 #[.agg #[.int .i64 x.op, .int .i64 x.n, .string x.s, .string x.t], .slice A ps.length c] w fun r w' => NdsRet w r w' (x :: catN ps) := by
 obtain ⟨i0, hi, hz0, hz1, hz2⟩ := info_parts nd_info
 have HS := Lib.hid hs
 have HN := Lib.hid hne
 clear hs hne
 go_enter Tryz.func55, Tryz.ntmps55
 go_wp2_with fail
 go_loopw [5, 12] (fun out kk wr => ∃ k : Nat, kk = .int .i64 k ∧ k ≤ ps.length ∧ Hid (wr.ownsRow w.heap.size 37 4 out (x :: catN (ps.take k)).length (flat (x :: catN (ps.take k)))) ∧ Below w.heap.size w wr)
     (fun _ kk _ => ps.length - (intOf kk).toNat)
 case atStart => exact ⟨0, rfl, by omega, by simpa [catN, Hid, flat, Nd.cells] using World.ownsRow_lit (base := w.heap.size) (e := 37) (size := 4) (w.alloc (.cells #[.int .i64 x.op, .int .i64 x.n, .string x.s, .string x.t] 37)) #[.int .i64 x.op, .int .i64 x.n, .string x.s, .string x.t] 1 (by simp) (by decide) (by simp), by (repeat (first | assumption | exact Below.refl _ _ | apply Below.drew | apply below_drewN | (refine Below.alloc ?_ (by first | exact Nat.le_refl _ | omega | (simp; done) | (simp; omega)) _)))⟩
 case round =>
   obtain ⟨k, rfl, hk, HO, hbr⟩ := hrel
   have hzr := hbr.size
   by_cases hlt : k < ps.length
   · obtain ⟨⟨Ap, cp, e⟩, hx⟩ : ∃ p, ps[k]? = some p := ⟨_, List.getElem?_eq_getElem hlt⟩
     have HST := Lib.hid (catN_step hx)
     have h1 := catN_le (ps := ps) k
     have h2 := catN_le (ps := ps) (k + 1)
     rw [HST.out, List.length_append] at h2
     have hee := HN.out _ (List.mem_of_getElem? hx)
     have hg := (HS.out.good _ (List.mem_of_getElem? hx)).later hbr
     obtain ⟨b, o, rfl, hb, hc0⟩ := nsSl_at (HS.out.later hbr).sl hx
     simp only at hc0 hee h2
     obtain ⟨bn, on, rfl, hbn, -⟩ := hg.sl hee
     have HC := Lib.hid (fun j u hu => NdSl.flat hg.sl j u hu)
     generalize hpk : catN (ps.take k) = pk at *
     clear hpk hg hx hee
     go_wp2_with (at_builtin; refine wpList_append_own _ rfl (.tmp 16) (.tmp 17) 22 rfl w.heap.size 37 i0 _ 4 48 Tryz.underlying22 hi hz0 hz1 hz2 rfl (by omega) u5 (x :: pk).length (flat (x :: pk)) rfl HO.out ⟨bn, on, none⟩ e.length cp (flat e) rfl (flat_len e) HC.out (flat_one_cell e) (by unfold maxLen; simp; omega) (by simp; omega) (by omega) ?_; intro v1 w1 hown1 hgrow1 _)
     have hb2 : RowKit.Below w.heap.size w w1 := hbr.grown hgrow1 hbr.size (fun q hq => (HO.out.lt q hq).1)
     have hv := HST.out
     exact ⟨⟨k + 1, by go_num, by omega, by rw [hv]; simpa [Hid, ← flat_append, Nat.add_right_comm] using hown1, hb2⟩, by simp [intOf]; omega⟩
   · have HT : Hid (ps.take k = ps) := by show _ = _; rw [List.take_of_length_le (by omega)]
     rw [HT.out] at HO
     have hof := own_form (xs := x :: catN ps) (ys := []) (by rw [show flat ([] : List Nd) = [] from rfl, List.append_nil]; exact HO.out)
     rw [List.append_nil] at hof
     obtain ⟨Ao, co, rfl, hco, hcm, hso⟩ := hof
     have HSO := Lib.hid hso
     clear hso HO
     go_wp2_with fail
     go_ret
     exact ⟨Ao, co, rfl, hco, hcm, HSO.out, hbr⟩
end Go.Proofs.YtpheiojmcafolaaGreatDoor
namespace Go.Proofs.YtpheiojmcafolaaGreatDoor
open Go.RowKit Go.Sort
theorem nss_lit {W : World} {T : TypeId} {ps : List NsM} {cs : Array Value} (hcs : cs.toList = flatG NsM.cells ps) (h : ∀ p ∈ ps, NsGood W W.heap.size p) : NssAt (W.alloc (.cells cs T)) (some ⟨W.heap.size, 0, none⟩) ps :=
 ⟨by rw [World.size_alloc]; exact new_SlG ns_ok W T ps cs hcs, fun x hx => (h x hx).later ((Below.refl _ _).alloc (Nat.le_refl _) _)⟩
theorem nd_blk {W : World} {b : Nat} {T : TypeId} {x : Nd} (h : Blk W b T #[.int .i64 x.op, .int .i64 x.n, .string x.s, .string x.t]) : NdSl W W.heap.size (some ⟨b, 0, none⟩) [x] := fun _ =>
 ⟨b, 0, rfl, h.lt, fun i y hy => by
   cases i with
   | succ i => simp at hy
   | zero =>
     simp at hy
     subst hy
     exact ⟨h.cell 0, h.cell 1, h.cell 2, h.cell 3⟩⟩
theorem ns_blk {W : World} {b : Nat} {T : TypeId} (x : Nd) (h : Blk W b T #[.int .i64 x.op, .int .i64 x.n, .string x.s, .string x.t]) : NsGood W W.heap.size ⟨some ⟨b, 0, none⟩, 1, [x]⟩ :=
 ⟨nd_blk h, Nat.le_refl _, by show 1 ≤ 9223372036854775807; decide⟩
structure ScI (w : World) (k : Int) (s : Sc) (v : ByteArray) (W : World) : Prop where
 bx : Blk W w.heap.size 44 #[.int .i64 k, .string s.ty, .string s.uid.ty, .string s.uid.id]
 who : Blk W (w.heap.size + 1) 37 #[.int .i64 8, .int .i64 0, .string v, .string ⟨#[]⟩]
 slot : Blk W (w.heap.size + 1 + 1) 37 #[.int .i64 8, .int .i64 0, .string (qB v), .string ⟨#[]⟩]
 uid : Blk W (w.heap.size + 1 + 1 + 1) 37 #[.int .i64 4, .int .i64 0, .string s.uid.ty, .string s.uid.id]
 on : Below w.heap.size w W
theorem ScI.later {w : World} {k : Int} {s : Sc} {v : ByteArray} {W W' : World} (h : ScI w k s v W) (hb : Below W.heap.size W W') : ScI w k s v W' :=
 ⟨h.bx.below hb h.bx.lt, h.who.below hb h.who.lt, h.slot.below hb h.slot.lt, h.uid.below hb h.uid.lt, h.on.trans (hb.mono h.on.size)⟩
theorem ScI.new (w : World) (k : Int) (s : Sc) (v q : ByteArray) (hq : q = qB v) : ScI w k s v ((((w.alloc (.cells #[.int .i64 k, .string s.ty, .string s.uid.ty, .string s.uid.id] 44)).alloc (.cells #[.int .i64 8, .int .i64 0, .string v, .string ⟨#[]⟩] 37)).alloc (.cells #[.int .i64 8, .int .i64 0, .string q, .string ⟨#[]⟩] 37)).alloc (.cells #[.int .i64 4, .int .i64 0, .string s.uid.ty, .string s.uid.id] 37)) := by
 subst hq
 refine ⟨(((Blk.new w _ _).alloc _).alloc _).alloc _, ?_, ?_, ?_, by (repeat (first | assumption | exact Below.refl _ _ | apply Below.drew | apply below_drewN | (refine Below.alloc ?_ (by first | exact Nat.le_refl _ | omega | (simp; done) | (simp; omega)) _)))⟩
 · have := ((Blk.new (w.alloc (.cells #[.int .i64 k, .string s.ty, .string s.uid.ty, .string s.uid.id] 44)) 37 #[.int .i64 8, .int .i64 0, .string v, .string ⟨#[]⟩]).alloc (.cells #[.int .i64 8, .int .i64 0, .string (qB v), .string ⟨#[]⟩] 37)).alloc (.cells #[.int .i64 4, .int .i64 0, .string s.uid.ty, .string s.uid.id] 37)
   rwa [World.size_alloc] at this
 · have := (Blk.new ((w.alloc (.cells #[.int .i64 k, .string s.ty, .string s.uid.ty, .string s.uid.id] 44)).alloc (.cells #[.int .i64 8, .int .i64 0, .string v, .string ⟨#[]⟩] 37)) 37 #[.int .i64 8, .int .i64 0, .string (qB v), .string ⟨#[]⟩]).alloc (.cells #[.int .i64 4, .int .i64 0, .string s.uid.ty, .string s.uid.id] 37)
   rwa [World.size_alloc, World.size_alloc] at this
 · have := Blk.new (((w.alloc (.cells #[.int .i64 k, .string s.ty, .string s.uid.ty, .string s.uid.id] 44)).alloc (.cells #[.int .i64 8, .int .i64 0, .string v, .string ⟨#[]⟩] 37)).alloc (.cells #[.int .i64 8, .int .i64 0, .string (qB v), .string ⟨#[]⟩] 37)) 37 #[.int .i64 4, .int .i64 0, .string s.uid.ty, .string s.uid.id]
   rwa [World.size_alloc, World.size_alloc, World.size_alloc] at this
theorem op_call {W : World} {T : TypeId} (x : Nd) (ps : List NsM) (cs : Array Value) (n c : Nat) (xs : List Nd) (hcs : cs.toList = flatG NsM.cells ps) (hn : n = ps.length) (hxs : xs = x :: catN ps) (h : ∀ p ∈ ps, NsGood W W.heap.size p) (hne : ∀ p ∈ ps, p.e ≠ []) (hl : (catN ps).length ≤ 100000) (hp : ps.length ≤ 100000) :
   Calls Tryz.prog 55 #[.agg #[.int .i64 x.op, .int .i64 x.n, .string x.s, .string x.t], .slice (some ⟨W.heap.size, 0, none⟩) n c] (W.alloc (.cells cs T)) fun r w' => NdsRet W r w' xs := by
 subst hn hxs
 refine (pol_op x ps _ c _ (nss_lit hcs h) hne hl hp).mono ?_
 rintro r w' ⟨A, c', h1, h2, h3, h4, h5⟩
 exact ⟨A, c', h1, h2, h3, h4, ((Below.refl _ _).alloc (Nat.le_refl _) _).trans (h5.mono (by simp))⟩
theorem op1 {w W : World} {k : Int} {s : Sc} {v : ByteArray} {T : TypeId} (h : ScI w k s v W) (x : Nd) :
   Calls Tryz.prog 55 #[.agg #[.int .i64 x.op, .int .i64 x.n, .string x.s, .string x.t], .slice (some ⟨W.heap.size, 0, none⟩) 1 1] (W.alloc (.cells #[.slice (some ⟨w.heap.size + 1, 0, none⟩) 1 1] T)) fun r w' => NdsRet W r w' [x, varN v] :=
 op_call x [⟨some ⟨w.heap.size + 1, 0, none⟩, 1, [varN v]⟩] _ _ _ _ rfl rfl rfl (by simpa using ns_blk (varN v) h.who) (by simp) (by simp [catN]) (by simp)
theorem op_uid {w W : World} {k : Int} {s : Sc} {v : ByteArray} {T : TypeId} (h : ScI w k s v W) (x : Nd) :
   Calls Tryz.prog 55 #[.agg #[.int .i64 x.op, .int .i64 x.n, .string x.s, .string x.t], .slice (some ⟨W.heap.size, 0, none⟩) 2 2] (W.alloc (.cells #[.slice (some ⟨w.heap.size + 1, 0, none⟩) 1 1, .slice (some ⟨w.heap.size + 1 + 1 + 1, 0, none⟩) 1 1] T)) fun r w' => NdsRet W r w' [x, varN v, entN s.uid] :=
 op_call x [⟨some ⟨w.heap.size + 1, 0, none⟩, 1, [varN v]⟩, ⟨some ⟨w.heap.size + 1 + 1 + 1, 0, none⟩, 1, [entN s.uid]⟩] _ _ _ _ rfl rfl rfl (by simpa using ⟨ns_blk (varN v) h.who, ns_blk (entN s.uid) h.uid⟩) (by simp) (by simp [catN]) (by simp)
theorem op_slot {w W : World} {k : Int} {s : Sc} {v : ByteArray} {T : TypeId} (h : ScI w k s v W) (x : Nd) :
   Calls Tryz.prog 55 #[.agg #[.int .i64 x.op, .int .i64 x.n, .string x.s, .string x.t], .slice (some ⟨W.heap.size, 0, none⟩) 2 2] (W.alloc (.cells #[.slice (some ⟨w.heap.size + 1, 0, none⟩) 1 1, .slice (some ⟨w.heap.size + 1 + 1, 0, none⟩) 1 1] T)) fun r w' => NdsRet W r w' [x, varN v, varN (qB v)] :=
 op_call x [⟨some ⟨w.heap.size + 1, 0, none⟩, 1, [varN v]⟩, ⟨some ⟨w.heap.size + 1 + 1, 0, none⟩, 1, [varN (qB v)]⟩] _ _ _ _ rfl rfl rfl (by simpa using ⟨ns_blk (varN v) h.who, ns_blk (varN (qB v)) h.slot⟩) (by simp) (by simp [catN]) (by simp)
set_option maxRecDepth 100000 in
set_option maxHeartbeats 1600000 in
theorem pol_Scoped1 (s : Sc) (v : ByteArray) (w : World) (hs : s.op = 1) (hv : v.size ≤ 1000) :
   Calls Tryz.prog 56 #[.agg #[.int .i64 s.op, .string s.ty, .string s.uid.ty, .string s.uid.id], .string v] w fun r w' => NdsRet w r w' (scopeE s v) := by
 have HE : Hid (scopeE s v = [opN 14, varN v, entN s.uid]) := by show _ = _; unfold scopeE;  rw [if_pos hs]
 rw [hs]
 go_enter Tryz.func56, Tryz.ntmps56
 go_wp2_with fail
 generalize hw4 : (((w.alloc _).alloc _).alloc _).alloc _ = W4
 have hI : ScI w 1 s v W4 := by rw [← hw4]; exact ScI.new w 1 s v _ rfl
 have hz : w.heap.size + 1 + 1 + 1 + 1 = W4.heap.size := by rw [← hw4]; simp
 clear hw4
 rw [hz]
 refine (op1 hI ⟨24, 0, s.ty, eB⟩).mono ?_
 rintro r w1 ⟨A1, c1, rfl, hc1, hm1, hs1, hb1⟩
 have HI2 := Lib.hid (hI.later hb1)
 have c0 := HI2.out.bx.cell
 have l0 := HI2.out.bx.lt
 have HS1 := Lib.hid hs1
 have HC1 := Lib.hid hc1
 clear hI hz hb1 hs1 hc1
 go_wp2_with fail
 refine (op_uid HI2.out (opN 14)).mono ?_
 rintro r w2 ⟨A2, c2, rfl, hc2, hm2, hs2, hb2⟩
 have HS := Lib.hid hs2
 have HC := Lib.hid hc2
 clear hs2 hc2 c0 l0
 go_wp2_with fail
 go_ret
 rw [HE.out]
 exact ⟨A2, c2, rfl, HC.out, hm2, HS.out, HI2.out.on.trans (hb2.mono HI2.out.on.size)⟩
set_option maxRecDepth 100000 in
set_option maxHeartbeats 1600000 in
theorem pol_Scoped2 (s : Sc) (v : ByteArray) (w : World) (hs : s.op = 2) (hv : v.size ≤ 1000) :
   Calls Tryz.prog 56 #[.agg #[.int .i64 s.op, .string s.ty, .string s.uid.ty, .string s.uid.id], .string v] w fun r w' => NdsRet w r w' (scopeE s v) := by
 have HE : Hid (scopeE s v = [opN 20, varN v, entN s.uid]) := by show _ = _; unfold scopeE; rw [if_neg (by omega)]; rw [if_pos hs]
 rw [hs]
 go_enter Tryz.func56, Tryz.ntmps56
 go_wp2_with fail
 generalize hw4 : (((w.alloc _).alloc _).alloc _).alloc _ = W4
 have hI : ScI w 2 s v W4 := by rw [← hw4]; exact ScI.new w 2 s v _ rfl
 have hz : w.heap.size + 1 + 1 + 1 + 1 = W4.heap.size := by rw [← hw4]; simp
 clear hw4
 rw [hz]
 refine (op1 hI ⟨24, 0, s.ty, eB⟩).mono ?_
 rintro r w1 ⟨A1, c1, rfl, hc1, hm1, hs1, hb1⟩
 have HI2 := Lib.hid (hI.later hb1)
 have c0 := HI2.out.bx.cell
 have l0 := HI2.out.bx.lt
 have HS1 := Lib.hid hs1
 have HC1 := Lib.hid hc1
 clear hI hz hb1 hs1 hc1
 go_wp2_with fail
 refine (op_uid HI2.out (opN 20)).mono ?_
 rintro r w2 ⟨A2, c2, rfl, hc2, hm2, hs2, hb2⟩
 have HS := Lib.hid hs2
 have HC := Lib.hid hc2
 clear hs2 hc2 c0 l0
 go_wp2_with fail
 go_ret
 rw [HE.out]
 exact ⟨A2, c2, rfl, HC.out, hm2, HS.out, HI2.out.on.trans (hb2.mono HI2.out.on.size)⟩
set_option maxRecDepth 100000 in
set_option maxHeartbeats 1600000 in
theorem pol_Scoped5 (s : Sc) (v : ByteArray) (w : World) (hs : s.op = 5) (hv : v.size ≤ 1000) :
   Calls Tryz.prog 56 #[.agg #[.int .i64 s.op, .string s.ty, .string s.uid.ty, .string s.uid.id], .string v] w fun r w' => NdsRet w r w' (scopeE s v) := by
 have HE : Hid (scopeE s v = [opN 14, varN v, varN (qB v)]) := by show _ = _; unfold scopeE; rw [if_neg (by omega)]; rw [if_neg (by omega)]; rw [if_neg (by omega)]; rw [if_neg (by omega)]; rw [if_pos hs]
 rw [hs]
 go_enter Tryz.func56, Tryz.ntmps56
 go_wp2_with fail
 generalize hw4 : (((w.alloc _).alloc _).alloc _).alloc _ = W4
 have hI : ScI w 5 s v W4 := by rw [← hw4]; exact ScI.new w 5 s v _ rfl
 have hz : w.heap.size + 1 + 1 + 1 + 1 = W4.heap.size := by rw [← hw4]; simp
 clear hw4
 rw [hz]
 refine (op1 hI ⟨24, 0, s.ty, eB⟩).mono ?_
 rintro r w1 ⟨A1, c1, rfl, hc1, hm1, hs1, hb1⟩
 have HI2 := Lib.hid (hI.later hb1)
 have c0 := HI2.out.bx.cell
 have l0 := HI2.out.bx.lt
 have HS1 := Lib.hid hs1
 have HC1 := Lib.hid hc1
 clear hI hz hb1 hs1 hc1
 go_wp2_with fail
 refine (op_slot HI2.out (opN 14)).mono ?_
 rintro r w2 ⟨A2, c2, rfl, hc2, hm2, hs2, hb2⟩
 have HS := Lib.hid hs2
 have HC := Lib.hid hc2
 clear hs2 hc2 c0 l0
 go_wp2_with fail
 go_ret
 rw [HE.out]
 exact ⟨A2, c2, rfl, HC.out, hm2, HS.out, HI2.out.on.trans (hb2.mono HI2.out.on.size)⟩
set_option maxRecDepth 100000 in
set_option maxHeartbeats 1600000 in
theorem pol_Scoped6 (s : Sc) (v : ByteArray) (w : World) (hs : s.op = 6) (hv : v.size ≤ 1000) :
   Calls Tryz.prog 56 #[.agg #[.int .i64 s.op, .string s.ty, .string s.uid.ty, .string s.uid.id], .string v] w fun r w' => NdsRet w r w' (scopeE s v) := by
 have HE : Hid (scopeE s v = [opN 20, varN v, varN (qB v)]) := by show _ = _; unfold scopeE; rw [if_neg (by omega)]; rw [if_neg (by omega)]; rw [if_neg (by omega)]; rw [if_neg (by omega)]; rw [if_neg (by omega)]; rw [if_pos hs]
 rw [hs]
 go_enter Tryz.func56, Tryz.ntmps56
 go_wp2_with fail
 generalize hw4 : (((w.alloc _).alloc _).alloc _).alloc _ = W4
 have hI : ScI w 6 s v W4 := by rw [← hw4]; exact ScI.new w 6 s v _ rfl
 have hz : w.heap.size + 1 + 1 + 1 + 1 = W4.heap.size := by rw [← hw4]; simp
 clear hw4
 rw [hz]
 refine (op1 hI ⟨24, 0, s.ty, eB⟩).mono ?_
 rintro r w1 ⟨A1, c1, rfl, hc1, hm1, hs1, hb1⟩
 have HI2 := Lib.hid (hI.later hb1)
 have c0 := HI2.out.bx.cell
 have l0 := HI2.out.bx.lt
 have HS1 := Lib.hid hs1
 have HC1 := Lib.hid hc1
 clear hI hz hb1 hs1 hc1
 go_wp2_with fail
 refine (op_slot HI2.out (opN 20)).mono ?_
 rintro r w2 ⟨A2, c2, rfl, hc2, hm2, hs2, hb2⟩
 have HS := Lib.hid hs2
 have HC := Lib.hid hc2
 clear hs2 hc2 c0 l0
 go_wp2_with fail
 go_ret
 rw [HE.out]
 exact ⟨A2, c2, rfl, HC.out, hm2, HS.out, HI2.out.on.trans (hb2.mono HI2.out.on.size)⟩
set_option maxRecDepth 100000 in
set_option maxHeartbeats 1600000 in
theorem pol_Scoped3 (s : Sc) (v : ByteArray) (w : World) (hs : s.op = 3) (hv : v.size ≤ 1000) :
   Calls Tryz.prog 56 #[.agg #[.int .i64 s.op, .string s.ty, .string s.uid.ty, .string s.uid.id], .string v] w fun r w' => NdsRet w r w' (scopeE s v) := by
 have HE : Hid (scopeE s v = [⟨24, 0, s.ty, eB⟩, varN v]) := by show _ = _; unfold scopeE; rw [if_neg (by omega)]; rw [if_neg (by omega)]; rw [if_pos hs]
 rw [hs]
 go_enter Tryz.func56, Tryz.ntmps56
 go_wp2_with fail
 generalize hw4 : (((w.alloc _).alloc _).alloc _).alloc _ = W4
 have hI : ScI w 3 s v W4 := by rw [← hw4]; exact ScI.new w 3 s v _ rfl
 have hz : w.heap.size + 1 + 1 + 1 + 1 = W4.heap.size := by rw [← hw4]; simp
 clear hw4
 rw [hz]
 refine (op1 hI ⟨24, 0, s.ty, eB⟩).mono ?_
 rintro r w1 ⟨A1, c1, rfl, hc1, hm1, hs1, hb1⟩
 have HI2 := Lib.hid (hI.later hb1)
 have c0 := HI2.out.bx.cell
 have l0 := HI2.out.bx.lt
 have HS1 := Lib.hid hs1
 have HC1 := Lib.hid hc1
 clear hI hz hb1 hs1 hc1
 go_wp2_with fail
 go_ret
 rw [HE.out]
 exact ⟨A1, c1, rfl, HC1.out, hm1, HS1.out, HI2.out.on⟩
set_option maxRecDepth 100000 in
set_option maxHeartbeats 1600000 in
theorem pol_Scoped4 (s : Sc) (v : ByteArray) (w : World) (hs : s.op = 4) (hv : v.size ≤ 1000) :
   Calls Tryz.prog 56 #[.agg #[.int .i64 s.op, .string s.ty, .string s.uid.ty, .string s.uid.id], .string v] w fun r w' => NdsRet w r w' (scopeE s v) := by
 have HE : Hid (scopeE s v = [opN 11, ⟨24, 0, s.ty, eB⟩, varN v, opN 20, varN v, entN s.uid]) := by show _ = _; unfold scopeE; rw [if_neg (by omega)]; rw [if_neg (by omega)]; rw [if_neg (by omega)]; rw [if_pos hs]
 rw [hs]
 go_enter Tryz.func56, Tryz.ntmps56
 go_wp2_with fail
 generalize hw4 : (((w.alloc _).alloc _).alloc _).alloc _ = W4
 have hI : ScI w 4 s v W4 := by rw [← hw4]; exact ScI.new w 4 s v _ rfl
 have hz : w.heap.size + 1 + 1 + 1 + 1 = W4.heap.size := by rw [← hw4]; simp
 clear hw4
 rw [hz]
 refine (op1 hI ⟨24, 0, s.ty, eB⟩).mono ?_
 rintro r w1 ⟨A1, c1, rfl, hc1, hm1, hs1, hb1⟩
 have HI2 := Lib.hid (hI.later hb1)
 have c0 := HI2.out.bx.cell
 have l0 := HI2.out.bx.lt
 have HS1 := Lib.hid hs1
 have HC1 := Lib.hid hc1
 clear hI hz hb1 hs1 hc1
 go_wp2_with fail
 refine (op_uid HI2.out (opN 20)).mono ?_
 rintro r w2 ⟨A2, c2, rfl, hc2, hm2, hs2, hb2⟩
 have HG1 : Hid (NsGood w2 w2.heap.size ⟨A1, c1, [⟨24, 0, s.ty, eB⟩, varN v]⟩) := Lib.hid (NsGood.later ⟨HS1.out, HC1.out, hm1⟩ hb2)
 have HG2 : Hid (NsGood w2 w2.heap.size ⟨A2, c2, [opN 20, varN v, entN s.uid]⟩) := Lib.hid ⟨hs2, hc2, hm2⟩
 have hw2 := HI2.out.on.trans (hb2.mono HI2.out.on.size)
 clear hs2 hc2 c0 l0 hb2
 go_wp2_with fail
 refine (op_call (opN 11) [⟨A1, c1, [⟨24, 0, s.ty, eB⟩, varN v]⟩, ⟨A2, c2, [opN 20, varN v, entN s.uid]⟩] _ 2 2 _ rfl rfl rfl (by simpa using ⟨HG1.out, HG2.out⟩) (by simp) (by simp [catN]) (by simp)).mono ?_
 rintro r w3 ⟨A3, c3, rfl, hc3, hm3, hs3, hb3⟩
 have HS := Lib.hid hs3
 have HC := Lib.hid hc3
 clear hs3 hc3
 go_wp2_with fail
 go_ret
 rw [HE.out]
 exact ⟨A3, c3, rfl, HC.out, hm3, HS.out, hw2.trans (hb3.mono hw2.size)⟩
set_option maxRecDepth 100000 in
set_option maxHeartbeats 1600000 in
theorem pol_Scoped9 (s : Sc) (v : ByteArray) (w : World) (h1 : ¬ s.op = 1) (h2 : ¬ s.op = 2) (h3 : ¬ s.op = 3) (h4 : ¬ s.op = 4) (h5 : ¬ s.op = 5) (h6 : ¬ s.op = 6) (hv : v.size ≤ 1000) :
   Calls Tryz.prog 56 #[.agg #[.int .i64 s.op, .string s.ty, .string s.uid.ty, .string s.uid.id], .string v] w fun r w' => NdsRet w r w' (scopeE s v) := by
 have HE : Hid (scopeE s v = [⟨1, 1, eB, eB⟩]) := by show _ = _; unfold scopeE; simp only [h1, h2, h3, h4, h5, h6, if_false]
 have t1 : (s.op == 1) = false := by simp [h1]
 have t2 : (s.op == 2) = false := by simp [h2]
 have t3 : (s.op == 3) = false := by simp [h3]
 have t4 : (s.op == 4) = false := by simp [h4]
 have t5 : (s.op == 5) = false := by simp [h5]
 have t6 : (s.op == 6) = false := by simp [h6]
 clear h1 h2 h3 h4 h5 h6
 go_enter Tryz.func56, Tryz.ntmps56
 go_wp2_with fail
 generalize hw4 : (((w.alloc _).alloc _).alloc _).alloc _ = W4
 have hI : ScI w s.op s v W4 := by rw [← hw4]; exact ScI.new w s.op s v _ rfl
 have hz : w.heap.size + 1 + 1 + 1 + 1 = W4.heap.size := by rw [← hw4]; simp
 clear hw4
 rw [hz]
 refine (op1 hI ⟨24, 0, s.ty, eB⟩).mono ?_
 rintro r w1 ⟨A1, c1, rfl, hc1, hm1, hs1, hb1⟩
 have HI2 := Lib.hid (hI.later hb1)
 have c0 := HI2.out.bx.cell
 have l0 := HI2.out.bx.lt
 have HS1 := Lib.hid hs1
 have HC1 := Lib.hid hc1
 clear hI hz hb1 hs1 hc1
 go_wp2_with fail
 go_ret
 rw [HE.out]
 have hw1 := HI2.out.on
 exact ⟨some ⟨w1.heap.size, 0, none⟩, 1, rfl, Nat.le_refl _, by omega, nd_blk (x := ⟨1, 1, eB, eB⟩) (Blk.new w1 _ _), hw1.alloc hw1.size _⟩
theorem pol_Scoped (s : Sc) (v : ByteArray) (w : World) (hv : v.size ≤ 1000) :
   Calls Tryz.prog 56 #[.agg #[.int .i64 s.op, .string s.ty, .string s.uid.ty, .string s.uid.id], .string v] w fun r w' => NdsRet w r w' (scopeE s v) := by
 by_cases h1 : s.op = 1
 · exact pol_Scoped1 s v w h1 hv
 by_cases h2 : s.op = 2
 · exact pol_Scoped2 s v w h2 hv
 by_cases h3 : s.op = 3
 · exact pol_Scoped3 s v w h3 hv
 by_cases h4 : s.op = 4
 · exact pol_Scoped4 s v w h4 hv
 by_cases h5 : s.op = 5
 · exact pol_Scoped5 s v w h5 hv
 by_cases h6 : s.op = 6
 · exact pol_Scoped6 s v w h6 hv
 exact pol_Scoped9 s v w h1 h2 h3 h4 h5 h6 hv
end Go.Proofs.YtpheiojmcafolaaGreatDoor
