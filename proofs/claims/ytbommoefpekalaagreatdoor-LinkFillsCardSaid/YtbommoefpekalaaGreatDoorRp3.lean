/-
  THE WALKS: the reference's slotted, SlotsOf.
-/
import Derived.Test.YtbommoefpekalaaGreatDoorSlo
import Derived.Test.YtbommoefpekalaaGreatDoorRp2
namespace Go.Proofs.YtbommoefpekalaaGreatDoor
open Go.RowKit Go.Sort

def StrsRet (w : World) (r : Ending) (w' : World) (ss : List (List UInt8)) : Prop :=
  ∃ A c, r = .returned (.slice A ss.length c) ∧ ss.length ≤ c ∧ c ≤ 9223372036854775807 ∧ StrSl w' w'.heap.size A ss ∧ RowKit.Below w.heap.size w w'
set_option maxRecDepth 100000 in
set_option maxHeartbeats 800000 in
theorem r4_slotted (s : Sc) (w : World) : Calls Tryz.prog 37 #[.agg #[.int .i64 s.op, .string s.ty, .string s.uid.ty, .string s.uid.id]] w fun e w' => e = .returned (.bool (slottedP s)) ∧ RowKit.Below w.heap.size w w' := by
  by_cases h5 : s.op = 5
  · have hv : slottedP s = true := by simp [slottedP, h5]
    rw [hv, h5]
    go_enter Tryz.func37, Tryz.ntmps37
    go_wp2_with fail
    go_ret
    exact ⟨rfl, by (repeat (first | assumption | exact Below.refl _ _ | apply Below.drew | apply below_drewN | (refine Below.alloc ?_ (by first | exact Nat.le_refl _ | omega | (simp; done) | (simp; omega)) _)))⟩
  · by_cases h6 : s.op = 6
    · have hv : slottedP s = true := by simp [slottedP, h6]
      rw [hv, h6]
      go_enter Tryz.func37, Tryz.ntmps37
      go_wp2_with fail
      go_ret
      exact ⟨rfl, by (repeat (first | assumption | exact Below.refl _ _ | apply Below.drew | apply below_drewN | (refine Below.alloc ?_ (by first | exact Nat.le_refl _ | omega | (simp; done) | (simp; omega)) _)))⟩
    · have hv : slottedP s = false := by simp [slottedP, h5, h6]
      have t5 : (s.op == 5) = false := by simp [h5]
      have t6 : (s.op == 6) = false := by simp [h6]
      rw [hv]
      clear h5 h6 hv
      go_enter Tryz.func37, Tryz.ntmps37
      go_wp2_with fail
      go_ret
      exact ⟨rfl, by (repeat (first | assumption | exact Below.refl _ _ | apply Below.drew | apply below_drewN | (refine Below.alloc ?_ (by first | exact Nat.le_refl _ | omega | (simp; done) | (simp; omega)) _)))⟩
set_option maxRecDepth 100000 in
set_option maxHeartbeats 3200000 in
theorem r4_SlotsOf_tt (p : Po) (cs : List CdM) (A : Option Addr) (c : Nat) (w : World) (h1 : slottedP p.who = true) (h2 : slottedP p.what = true) :
    Calls Tryz.prog 16 #[.agg #[.string p.name, .bool p.forbid, .int .i64 p.who.op, .string p.who.ty, .string p.who.uid.ty, .string p.who.uid.id, .int .i64 p.act.op, .string p.act.ty, .string p.act.uid.ty, .string p.act.uid.id, .int .i64 p.what.op, .string p.what.ty, .string p.what.uid.ty, .string p.what.uid.id, .slice A cs.length c]] w fun e w' => StrsRet w e w' (slotsP p) := by
  obtain ⟨i0, hi, hz0, hz1, hz2⟩ := info_parts string_info
  have HV : Hid (slotsP p = [[63, 112, 114, 105, 110, 99, 105, 112, 97, 108], [63, 114, 101, 115, 111, 117, 114, 99, 101]]) := by show _ = _; unfold slotsP; rw [h1, h2]; rfl
  have H1 := Lib.hid (fun W => r4_slotted p.who W)
  have H2 := Lib.hid (fun W => r4_slotted p.what W)
  rw [h1] at H1
  rw [h2] at H2
  clear h1 h2
  go_enter Tryz.func16, Tryz.ntmps16
  go_wp2_with fail
  refine (H1.out _).mono ?_
  rintro r w1 ⟨rfl, hb1⟩
  have B1 := (Blk.new w 45 _).below hb1 (by simp)
  have hw1 : RowKit.Below w.heap.size w w1 := ((RowKit.Below.refl _ _).alloc (Nat.le_refl _) _).trans (hb1.mono (by simp))
  clear hb1
  have c0 := B1.cell
  have l0 := B1.lt
  go_wp2_with (at_builtin; refine wpList_append_own _ rfl (.tmp 7) (.tmp 8) 46 rfl (w.heap.size + 1) 9 i0 _ 1 16 Tryz.underlying46 hi hz0 hz1 hz2 rfl (by omega) (.slice none 0 0) 0 [] rfl (World.ownsRow_nil _ _ _ _) ⟨w1.heap.size, 0, none⟩ 1 1 [.string ⟨#[63, 112, 114, 105, 110, 99, 105, 112, 97, 108]⟩] rfl rfl (new_one _ _ _ _ rfl) (by intro u hu; simp at hu; subst hu; rfl) (by decide) (by omega) (by simp; omega) ?_; intro v2 w2 hown2 hgrow2 _; have hb2 : RowKit.Below w.heap.size w w2 := (hw1.alloc hw1.size _).grown hgrow2 (by simp; omega) (by intro q hq; simp [Value.ownBlock] at hq); have B2 : Blk w2 w.heap.size 45 _ := (B1.alloc _).below ((RowKit.Below.refl (w.heap.size + 1) _).grown hgrow2 (by simp; omega) (by intro q hq; simp [Value.ownBlock] at hq)) (by omega); simp only [Nat.zero_add, List.nil_append] at hown2; have HO2 := Lib.hid hown2; clear hown2 hgrow2 c0 l0 B1 hw1; have c0 := B2.cell; have l0 := B2.lt)
  refine (H2.out _).mono ?_
  rintro r w3 ⟨rfl, hb3⟩
  have hw3 := hb2.trans (hb3.mono hb2.size)
  have HO3 := Lib.hid (own_later HO2.out hb3)
  clear hb3 c0 l0
  go_wp2_with (at_builtin; refine wpList_append_own _ rfl (.tmp 13) (.tmp 14) 46 rfl (w.heap.size + 1) 9 i0 _ 1 16 Tryz.underlying46 hi hz0 hz1 hz2 rfl (by omega) v2 1 [.string ⟨#[63, 112, 114, 105, 110, 99, 105, 112, 97, 108]⟩] rfl (HO3.out.alloc _) ⟨w3.heap.size, 0, none⟩ 1 1 [.string ⟨#[63, 114, 101, 115, 111, 117, 114, 99, 101]⟩] rfl rfl (new_one _ _ _ _ rfl) (by intro u hu; simp at hu; subst hu; rfl) (by decide) (by omega) (by simp; have := hw3.size; omega) ?_; intro v4 w4 hown4 hgrow4 _)
  have hb4 : RowKit.Below w.heap.size w w4 := (hw3.alloc hw3.size _).grown hgrow4 (by simp; have := hw3.size; omega) (fun q hq => by have := (HO3.out.lt q hq).1; omega)
  go_ret
  rw [HV.out]
  obtain ⟨A4, c4, rfl, h1, h2, h3⟩ := own_strs2 (ss := [[63, 112, 114, 105, 110, 99, 105, 112, 97, 108], [63, 114, 101, 115, 111, 117, 114, 99, 101]]) hown4 rfl
  exact ⟨A4, c4, rfl, h1, h2, h3, hb4⟩
set_option maxRecDepth 100000 in
set_option maxHeartbeats 3200000 in
theorem r4_SlotsOf_tf (p : Po) (cs : List CdM) (A : Option Addr) (c : Nat) (w : World) (h1 : slottedP p.who = true) (h2 : slottedP p.what = false) :
    Calls Tryz.prog 16 #[.agg #[.string p.name, .bool p.forbid, .int .i64 p.who.op, .string p.who.ty, .string p.who.uid.ty, .string p.who.uid.id, .int .i64 p.act.op, .string p.act.ty, .string p.act.uid.ty, .string p.act.uid.id, .int .i64 p.what.op, .string p.what.ty, .string p.what.uid.ty, .string p.what.uid.id, .slice A cs.length c]] w fun e w' => StrsRet w e w' (slotsP p) := by
  obtain ⟨i0, hi, hz0, hz1, hz2⟩ := info_parts string_info
  have HV : Hid (slotsP p = [[63, 112, 114, 105, 110, 99, 105, 112, 97, 108]]) := by show _ = _; unfold slotsP; rw [h1, h2]; rfl
  have H1 := Lib.hid (fun W => r4_slotted p.who W)
  have H2 := Lib.hid (fun W => r4_slotted p.what W)
  rw [h1] at H1
  rw [h2] at H2
  clear h1 h2
  go_enter Tryz.func16, Tryz.ntmps16
  go_wp2_with fail
  refine (H1.out _).mono ?_
  rintro r w1 ⟨rfl, hb1⟩
  have B1 := (Blk.new w 45 _).below hb1 (by simp)
  have hw1 : RowKit.Below w.heap.size w w1 := ((RowKit.Below.refl _ _).alloc (Nat.le_refl _) _).trans (hb1.mono (by simp))
  clear hb1
  have c0 := B1.cell
  have l0 := B1.lt
  go_wp2_with (at_builtin; refine wpList_append_own _ rfl (.tmp 7) (.tmp 8) 46 rfl (w.heap.size + 1) 9 i0 _ 1 16 Tryz.underlying46 hi hz0 hz1 hz2 rfl (by omega) (.slice none 0 0) 0 [] rfl (World.ownsRow_nil _ _ _ _) ⟨w1.heap.size, 0, none⟩ 1 1 [.string ⟨#[63, 112, 114, 105, 110, 99, 105, 112, 97, 108]⟩] rfl rfl (new_one _ _ _ _ rfl) (by intro u hu; simp at hu; subst hu; rfl) (by decide) (by omega) (by simp; omega) ?_; intro v2 w2 hown2 hgrow2 _; have hb2 : RowKit.Below w.heap.size w w2 := (hw1.alloc hw1.size _).grown hgrow2 (by simp; omega) (by intro q hq; simp [Value.ownBlock] at hq); have B2 : Blk w2 w.heap.size 45 _ := (B1.alloc _).below ((RowKit.Below.refl (w.heap.size + 1) _).grown hgrow2 (by simp; omega) (by intro q hq; simp [Value.ownBlock] at hq)) (by omega); simp only [Nat.zero_add, List.nil_append] at hown2; have HO2 := Lib.hid hown2; clear hown2 hgrow2 c0 l0 B1 hw1; have c0 := B2.cell; have l0 := B2.lt)
  refine (H2.out _).mono ?_
  rintro r w3 ⟨rfl, hb3⟩
  have hw3 := hb2.trans (hb3.mono hb2.size)
  have HO3 := Lib.hid (own_later HO2.out hb3)
  clear hb3 c0 l0
  go_wp2_with fail
  go_ret
  rw [HV.out]
  obtain ⟨A4, c4, rfl, h1, h2, h3⟩ := own_strs2 (ss := [[63, 112, 114, 105, 110, 99, 105, 112, 97, 108]]) HO3.out rfl
  exact ⟨A4, c4, rfl, h1, h2, h3, hw3⟩
set_option maxRecDepth 100000 in
set_option maxHeartbeats 3200000 in
theorem r4_SlotsOf_ft (p : Po) (cs : List CdM) (A : Option Addr) (c : Nat) (w : World) (h1 : slottedP p.who = false) (h2 : slottedP p.what = true) :
    Calls Tryz.prog 16 #[.agg #[.string p.name, .bool p.forbid, .int .i64 p.who.op, .string p.who.ty, .string p.who.uid.ty, .string p.who.uid.id, .int .i64 p.act.op, .string p.act.ty, .string p.act.uid.ty, .string p.act.uid.id, .int .i64 p.what.op, .string p.what.ty, .string p.what.uid.ty, .string p.what.uid.id, .slice A cs.length c]] w fun e w' => StrsRet w e w' (slotsP p) := by
  obtain ⟨i0, hi, hz0, hz1, hz2⟩ := info_parts string_info
  have HV : Hid (slotsP p = [[63, 114, 101, 115, 111, 117, 114, 99, 101]]) := by show _ = _; unfold slotsP; rw [h1, h2]; rfl
  have H1 := Lib.hid (fun W => r4_slotted p.who W)
  have H2 := Lib.hid (fun W => r4_slotted p.what W)
  rw [h1] at H1
  rw [h2] at H2
  clear h1 h2
  go_enter Tryz.func16, Tryz.ntmps16
  go_wp2_with fail
  refine (H1.out _).mono ?_
  rintro r w1 ⟨rfl, hb1⟩
  have B1 := (Blk.new w 45 _).below hb1 (by simp)
  have hw1 : RowKit.Below w.heap.size w w1 := ((RowKit.Below.refl _ _).alloc (Nat.le_refl _) _).trans (hb1.mono (by simp))
  clear hb1
  have c0 := B1.cell
  have l0 := B1.lt
  go_wp2_with fail
  refine (H2.out _).mono ?_
  rintro r w3 ⟨rfl, hb3⟩
  have hw3 := hw1.trans (hb3.mono hw1.size)
  clear hb3 c0 l0
  go_wp2_with (at_builtin; refine wpList_append_own _ rfl (.tmp 13) (.tmp 14) 46 rfl (w.heap.size + 1) 9 i0 _ 1 16 Tryz.underlying46 hi hz0 hz1 hz2 rfl (by omega) (.slice none 0 0) 0 [] rfl (World.ownsRow_nil _ _ _ _) ⟨w3.heap.size, 0, none⟩ 1 1 [.string ⟨#[63, 114, 101, 115, 111, 117, 114, 99, 101]⟩] rfl rfl (new_one _ _ _ _ rfl) (by intro u hu; simp at hu; subst hu; rfl) (by decide) (by omega) (by simp; have := hw3.size; omega) ?_; intro v4 w4 hown4 hgrow4 _)
  have hb4 : RowKit.Below w.heap.size w w4 := (hw3.alloc hw3.size _).grown hgrow4 (by simp; have := hw3.size; omega) (by intro q hq; simp [Value.ownBlock] at hq)
  go_ret
  rw [HV.out]
  obtain ⟨A4, c4, rfl, h1, h2, h3⟩ := own_strs2 (ss := [[63, 114, 101, 115, 111, 117, 114, 99, 101]]) hown4 rfl
  exact ⟨A4, c4, rfl, h1, h2, h3, hb4⟩
set_option maxRecDepth 100000 in
set_option maxHeartbeats 3200000 in
theorem r4_SlotsOf_ff (p : Po) (cs : List CdM) (A : Option Addr) (c : Nat) (w : World) (h1 : slottedP p.who = false) (h2 : slottedP p.what = false) :
    Calls Tryz.prog 16 #[.agg #[.string p.name, .bool p.forbid, .int .i64 p.who.op, .string p.who.ty, .string p.who.uid.ty, .string p.who.uid.id, .int .i64 p.act.op, .string p.act.ty, .string p.act.uid.ty, .string p.act.uid.id, .int .i64 p.what.op, .string p.what.ty, .string p.what.uid.ty, .string p.what.uid.id, .slice A cs.length c]] w fun e w' => StrsRet w e w' (slotsP p) := by
  obtain ⟨i0, hi, hz0, hz1, hz2⟩ := info_parts string_info
  have HV : Hid (slotsP p = []) := by show _ = _; unfold slotsP; rw [h1, h2]; rfl
  have H1 := Lib.hid (fun W => r4_slotted p.who W)
  have H2 := Lib.hid (fun W => r4_slotted p.what W)
  rw [h1] at H1
  rw [h2] at H2
  clear h1 h2
  go_enter Tryz.func16, Tryz.ntmps16
  go_wp2_with fail
  refine (H1.out _).mono ?_
  rintro r w1 ⟨rfl, hb1⟩
  have B1 := (Blk.new w 45 _).below hb1 (by simp)
  have hw1 : RowKit.Below w.heap.size w w1 := ((RowKit.Below.refl _ _).alloc (Nat.le_refl _) _).trans (hb1.mono (by simp))
  clear hb1
  have c0 := B1.cell
  have l0 := B1.lt
  go_wp2_with fail
  refine (H2.out _).mono ?_
  rintro r w3 ⟨rfl, hb3⟩
  have hw3 := hw1.trans (hb3.mono hw1.size)
  clear hb3 c0 l0
  go_wp2_with fail
  go_ret
  rw [HV.out]
  exact ⟨none, 0, rfl, Nat.le_refl _, by omega, StrSl.nil _ _ _, hw3⟩
theorem r4_SlotsOf (p : Po) (cs : List CdM) (A : Option Addr) (c : Nat) (w : World) :
    Calls Tryz.prog 16 #[.agg #[.string p.name, .bool p.forbid, .int .i64 p.who.op, .string p.who.ty, .string p.who.uid.ty, .string p.who.uid.id, .int .i64 p.act.op, .string p.act.ty, .string p.act.uid.ty, .string p.act.uid.id, .int .i64 p.what.op, .string p.what.ty, .string p.what.uid.ty, .string p.what.uid.id, .slice A cs.length c]] w fun e w' => StrsRet w e w' (slotsP p) := by
  cases h1 : slottedP p.who <;> cases h2 : slottedP p.what
  · exact r4_SlotsOf_ff p cs A c w h1 h2
  · exact r4_SlotsOf_ft p cs A c w h1 h2
  · exact r4_SlotsOf_tf p cs A c w h1 h2
  · exact r4_SlotsOf_tt p cs A c w h1 h2
end Go.Proofs.YtbommoefpekalaaGreatDoor
