/-
  THE WALK of the law LinkFills.
-/
import Derived.Test.YtbommoefpekalaaGreatDoorRp4
import Derived.Test.YtbommoefpekalaaGreatDoorLnkA
import Derived.Test.YtbommoefpekalaaGreatDoorSameP
import Derived.Test.YtbommoefpekalaaGreatDoorSameT
import Derived.Test.YtbommoefpekalaaGreatDoorTold
namespace Go.Proofs.YtbommoefpekalaaGreatDoor
open Go.RowKit Go.Sort

def poB : Po := ⟨⟨#[97]⟩, false, sc0, sc0, ⟨5, ⟨#[]⟩, ud0⟩, []⟩
theorem polB : polErr poB = 0 := by
  have hn : nameErr poB.name.toList = 0 := by show nameErr (⟨#[97]⟩ : ByteArray).toList = 0; rw [ByteArray.toList_eq]; decide
  have hs : ∀ b, scOk sc0 b = true := fun b => by simp [scOk, sc0, udNone, ud0, emp, ByteArray.toList_eq]
  exact pol_ok.2 ⟨hn, hs _, hs _, by simp [poB, scOk, udNone, ud0, emp, ByteArray.toList_eq], by simp [poB], rfl⟩
theorem slots_b (W : World) : Calls Tryz.prog 13 #[.agg #[.string ⟨#[97]⟩, .bool false, .int .i64 0, .string ⟨#[]⟩, .string ⟨#[]⟩, .string ⟨#[]⟩, .int .i64 0, .string ⟨#[]⟩, .string ⟨#[]⟩, .string ⟨#[]⟩, .int .i64 5, .string ⟨#[]⟩, .string ⟨#[]⟩, .string ⟨#[]⟩, .slice none 0 0]] W fun e w' =>
    (∃ A c, e = .returned (.tuple #[.slice A 1 c, errV 0]) ∧ StrSl w' w'.heap.size A [[63, 114, 101, 115, 111, 117, 114, 99, 101]]) ∧ RowKit.Below W.heap.size W w' := by
  have h := link_Slots poB [] none 0 W rfl ⟨by decide, ⟨empty_le, empty_le, empty_le⟩, ⟨empty_le, empty_le, empty_le⟩, ⟨empty_le, empty_le, empty_le⟩⟩ ⟨SlG.nil _ _ _, by simp⟩ (by simp) polB
  refine Calls.mono h ?_
  rintro e w' ⟨A, c, he, _, _, hs, hb⟩
  have hv : slotsP poB = [[63, 114, 101, 115, 111, 117, 114, 99, 101]] := rfl
  rw [hv] at he hs
  exact ⟨⟨A, c, he, hs⟩, hb⟩
/-- The boxes of the call. -/
structure FBox (w : World) (V : Array Value) (who what : Ud) (W : World) : Prop where
  box : Blk W w.heap.size 45 V
  u1 : Blk W (w.heap.size + 1) 40 #[.string who.ty, .string who.id]
  u2 : Blk W (w.heap.size + 1 + 1) 40 #[.string what.ty, .string what.id]
  on : RowKit.Below w.heap.size w W
theorem FBox.later {w W W' : World} {V : Array Value} {who what : Ud} (h : FBox w V who what W) (hb : RowKit.Below W.heap.size W W') : FBox w V who what W' :=
  ⟨h.box.below hb h.box.lt, h.u1.below hb h.u1.lt, h.u2.below hb h.u2.lt, h.on.trans (hb.mono h.on.size)⟩
theorem FBox.alloc {w W : World} {V : Array Value} {who what : Ud} (h : FBox w V who what W) (O : Obj) : FBox w V who what (W.alloc O) := h.later ((RowKit.Below.refl _ _).alloc (Nat.le_refl _) _)
theorem strs_lit (W : World) (T : TypeId) (l : List UInt8) : StrSl (W.alloc (.cells #[.string ⟨l.toArray⟩] T)) (W.alloc (.cells #[.string ⟨l.toArray⟩] T)).heap.size (some ⟨W.heap.size, 0, none⟩) [l] := fun _ =>
  ⟨W.heap.size, 0, rfl, by simp, fun i l' hl => by
    cases i with
    | succ i => simp at hl
    | zero => simp at hl; subst hl; rw [World.cell?_alloc_new]; rfl⟩
set_option maxRecDepth 100000 in
set_option maxHeartbeats 12800000 in
theorem law_fills_good (p : Po) (cs : List CdM) (A : Option Addr) (c : Nat) (who what : Ud) (w : World) (hg : ErrCell w) (hp : p.conds = cs.map CdM.cd) (hz : PoZ p) (hc : CdsAt w w.heap.size A cs) (hl : cs.length ≤ c) (hcm : c ≤ 9223372036854775807) (hu1 : UdOk who) (hu2 : UdOk what) (hk : polErr p = 0) :
    Calls Tryz.prog 5 #[.agg #[.string p.name, .bool p.forbid, .int .i64 p.who.op, .string p.who.ty, .string p.who.uid.ty, .string p.who.uid.id, .int .i64 p.act.op, .string p.act.ty, .string p.act.uid.ty, .string p.act.uid.id, .int .i64 p.what.op, .string p.what.ty, .string p.what.uid.ty, .string p.what.uid.id, .slice A cs.length c], .agg #[.string who.ty, .string who.id], .agg #[.string what.ty, .string what.id]] w fun r w' => r = .returned (.bool true) ∧ RowKit.Below w.heap.size w w' := by
  have HG := Lib.hid (fun (W : World) (h : RowKit.Below w.heap.size w W) => hg.below h hg.lt)
  have HP := Lib.hid (fun W (h : RowKit.Below w.heap.size w W) => r4_PolicyFault p cs A c W hp hz (hc.later h) (by omega))
  have HSO := Lib.hid (fun W => r4_SlotsOf p cs A c W)
  have HSL : Hid (∀ W, RowKit.Below w.heap.size w W → Calls Tryz.prog 13 #[.agg #[.string p.name, .bool p.forbid, .int .i64 p.who.op, .string p.who.ty, .string p.who.uid.ty, .string p.who.uid.id, .int .i64 p.act.op, .string p.act.ty, .string p.act.uid.ty, .string p.act.uid.id, .int .i64 p.what.op, .string p.what.ty, .string p.what.uid.ty, .string p.what.uid.id, .slice A cs.length c]] W fun e w' => StrsBack W e w' (if polErr p = 0 then slotsP p else []) (polErr p)) := by
    intro W h
    by_cases hk : polErr p = 0
    · rw [if_pos hk, hk]; exact link_Slots p cs A c W hp hz (hc.later h) (by omega) hk
    · rw [if_neg hk]; exact link_SlotsBad p cs A c W hp hz (hc.later h) (by omega) hk
  have HVL := Lib.hid (fun W (h : RowKit.Below w.heap.size w W) => r4_Linked p cs A c who what W hp hz (hc.later h) hl hcm hu1 hu2)
  have HLL := Lib.hid (fun W (h : RowKit.Below w.heap.size w W) => link_Link p cs A c who what W hp hz (hc.later h) (by omega) hu1 hu2)
  have HX := Lib.hid slots_b
  clear hp hz hc hu1 hu2 hg
  rw [hk] at HP HSL
  rw [if_pos rfl] at HSL
  clear hk
  generalize slotsP p = ss at HSL HSO
  generalize (linkP p who what).1 = q at HVL HLL
  generalize (linkP p who what).2 = k at HVL HLL
  go_enter Tryz.func5, Tryz.ntmps5
  go_wp2_with fail
  refine (HX.out _).mono ?_
  rintro r w1 ⟨⟨A1, c1, rfl, hs1⟩, hb1⟩
  obtain ⟨q0, q1, q2, q3⟩ := three hb1
  have b1 : FBox w _ who what w1 := ⟨q0, q1, q2, q3⟩
  have HS1 := Lib.hid hs1
  clear hb1 q0 q1 q2 q3 hs1
  go_wp2_with fail
  refine (same_Texts [[63, 114, 101, 115, 111, 117, 114, 99, 101]] A1 _ c1 1 _ ((HS1.out.below ((RowKit.Below.refl _ _).alloc (Nat.le_refl _) _)).more (by simp)) (strs_lit w1 _ _) (by decide)).mono ?_
  rintro r w2 ⟨rfl, hb2⟩
  have b2 := (b1.alloc _).later hb2
  clear hb2 b1 HS1
  have c0 := b2.box.cell
  have c1 := b2.u1.cell
  have c2 := b2.u2.cell
  have l0 := b2.box.lt
  have l1 := b2.u1.lt
  have l2 := b2.u2.lt
  go_wp2_with fail
  refine (HP.out _ b2.on).mono ?_
  rintro r w3 ⟨rfl, hb3⟩
  have b3 := b2.later hb3
  clear c0 c1 c2 l0 l1 l2
  clear hb3 b2
  have c0 := b3.box.cell
  have c1 := b3.u1.cell
  have c2 := b3.u2.cell
  have l0 := b3.box.lt
  have l1 := b3.u1.lt
  have l2 := b3.u2.lt
  go_wp2_with fail
  refine (HSO.out _).mono ?_
  rintro r w4 ⟨A4, c4, rfl, hl4, hm4, hs4, hb4⟩
  have b4 := b3.later hb4
  have HS4 := Lib.hid hs4
  have HL4 := Lib.hid hl4
  clear c0 c1 c2 l0 l1 l2
  clear hb4 b3 hs4 hl4
  have c0 := b4.box.cell
  have c1 := b4.u1.cell
  have c2 := b4.u2.cell
  have l0 := b4.box.lt
  have l1 := b4.u1.lt
  have l2 := b4.u2.lt
  go_wp2_with fail
  refine (HSL.out _ b4.on).mono ?_
  rintro r w5 ⟨A5, c5, rfl, hl5, hm5, hs5, hb5⟩
  have b5 := b4.later hb5
  have HS5 := Lib.hid hs5
  have hsl : ss.length ≤ 9223372036854775807 := by omega
  have HS4b := Lib.hid ((HS4.out.below hb5).more hb5.size)
  clear HS4
  clear c0 c1 c2 l0 l1 l2
  clear hb5 b4 hs5 hl5
  have c0 := b5.box.cell
  have c1 := b5.u1.cell
  have c2 := b5.u2.cell
  have l0 := b5.box.lt
  have l1 := b5.u1.lt
  have l2 := b5.u2.lt
  go_wp2_with fail
  refine (same_Error _ w5 (HG.out w5 b5.on)).mono ?_
  rintro r w6 ⟨rfl, hb6⟩
  have b6 := b5.later hb6
  have HS5b := Lib.hid ((HS5.out.below hb6).more hb6.size)
  have HS4c := Lib.hid ((HS4b.out.below hb6).more hb6.size)
  clear HS4b
  clear c0 c1 c2 l0 l1 l2
  clear hb6 b5 HS5
  have c0 := b6.box.cell
  have c1 := b6.u1.cell
  have c2 := b6.u2.cell
  have l0 := b6.box.lt
  have l1 := b6.u1.lt
  have l2 := b6.u2.lt
  go_wp2_with fail
  refine (same_Texts ss A5 A4 c5 c4 w6 HS5b.out HS4c.out hsl).mono ?_
  rintro r w7 ⟨rfl, hb7⟩
  have b7 := b6.later hb7
  clear c0 c1 c2 l0 l1 l2
  clear hb7 b6 HS5b
  have c0 := b7.box.cell
  have c1 := b7.u1.cell
  have c2 := b7.u2.cell
  have l0 := b7.box.lt
  have l1 := b7.u1.lt
  have l2 := b7.u2.lt
  go_wp2_with fail
  refine (HVL.out _ b7.on).mono ?_
  rintro r w8 ⟨A8, c8, cs8, rfl, hl8, hm8, hq8, hc8, hb8⟩
  have b8 := b7.later hb8
  have HC8 := Lib.hid hc8
  have HQ8 := Lib.hid hq8
  have HL8 := Lib.hid hl8
  clear c0 c1 c2 l0 l1 l2
  clear hb8 b7 hc8 hq8 hl8
  replace b8 := b8.alloc (.cells #[.string q.name, .bool q.forbid, .int .i64 q.who.op, .string q.who.ty, .string q.who.uid.ty, .string q.who.uid.id, .int .i64 q.act.op, .string q.act.ty, .string q.act.uid.ty, .string q.act.uid.id, .int .i64 q.what.op, .string q.what.ty, .string q.what.uid.ty, .string q.what.uid.id, .slice A8 cs8.length c8] 45)
  replace HC8 := Lib.hid (HC8.out.later ((RowKit.Below.refl _ _).alloc (Nat.le_refl _) (.cells #[.string q.name, .bool q.forbid, .int .i64 q.who.op, .string q.who.ty, .string q.who.uid.ty, .string q.who.uid.id, .int .i64 q.act.op, .string q.act.ty, .string q.act.uid.ty, .string q.act.uid.id, .int .i64 q.what.op, .string q.what.ty, .string q.what.uid.ty, .string q.what.uid.id, .slice A8 cs8.length c8] 45)))
  have e8 := Blk.new w8 45 #[.string q.name, .bool q.forbid, .int .i64 q.who.op, .string q.who.ty, .string q.who.uid.ty, .string q.who.uid.id, .int .i64 q.act.op, .string q.act.ty, .string q.act.uid.ty, .string q.act.uid.id, .int .i64 q.what.op, .string q.what.ty, .string q.what.uid.ty, .string q.what.uid.id, .slice A8 cs8.length c8]
  have c0 := b8.box.cell
  have c1 := b8.u1.cell
  have c2 := b8.u2.cell
  have l0 := b8.box.lt
  have l1 := b8.u1.lt
  have l2 := b8.u2.lt
  go_wp2_with fail
  refine (HLL.out _ b8.on).mono ?_
  rintro r w9 ⟨A9, c9, cs9, rfl, hl9, hm9, hq9, hc9, hb9⟩
  have b9 := b8.later hb9
  have e9 := e8.below hb9 (by simp)
  have HC8b := Lib.hid (HC8.out.later hb9)
  have HC9 := Lib.hid hc9
  have HQ9 := Lib.hid hq9
  have HL9 := Lib.hid hl9
  clear c0 c1 c2 l0 l1 l2
  clear hb9 b8 hc9 hq9 hl9 e8 HC8
  replace b9 := b9.alloc (.cells #[.string q.name, .bool q.forbid, .int .i64 q.who.op, .string q.who.ty, .string q.who.uid.ty, .string q.who.uid.id, .int .i64 q.act.op, .string q.act.ty, .string q.act.uid.ty, .string q.act.uid.id, .int .i64 q.what.op, .string q.what.ty, .string q.what.uid.ty, .string q.what.uid.id, .slice A9 cs9.length c9] 45)
  replace e9 := e9.alloc (.cells #[.string q.name, .bool q.forbid, .int .i64 q.who.op, .string q.who.ty, .string q.who.uid.ty, .string q.who.uid.id, .int .i64 q.act.op, .string q.act.ty, .string q.act.uid.ty, .string q.act.uid.id, .int .i64 q.what.op, .string q.what.ty, .string q.what.uid.ty, .string q.what.uid.id, .slice A9 cs9.length c9] 45)
  have d9 := Blk.new w9 45 #[.string q.name, .bool q.forbid, .int .i64 q.who.op, .string q.who.ty, .string q.who.uid.ty, .string q.who.uid.id, .int .i64 q.act.op, .string q.act.ty, .string q.act.uid.ty, .string q.act.uid.id, .int .i64 q.what.op, .string q.what.ty, .string q.what.uid.ty, .string q.what.uid.id, .slice A9 cs9.length c9]
  replace HC8b := Lib.hid (HC8b.out.later ((RowKit.Below.refl _ _).alloc (Nat.le_refl _) (.cells #[.string q.name, .bool q.forbid, .int .i64 q.who.op, .string q.who.ty, .string q.who.uid.ty, .string q.who.uid.id, .int .i64 q.act.op, .string q.act.ty, .string q.act.uid.ty, .string q.act.uid.id, .int .i64 q.what.op, .string q.what.ty, .string q.what.uid.ty, .string q.what.uid.id, .slice A9 cs9.length c9] 45)))
  replace HC9 := Lib.hid (HC9.out.later ((RowKit.Below.refl _ _).alloc (Nat.le_refl _) (.cells #[.string q.name, .bool q.forbid, .int .i64 q.who.op, .string q.who.ty, .string q.who.uid.ty, .string q.who.uid.id, .int .i64 q.act.op, .string q.act.ty, .string q.act.uid.ty, .string q.act.uid.id, .int .i64 q.what.op, .string q.what.ty, .string q.what.uid.ty, .string q.what.uid.id, .slice A9 cs9.length c9] 45)))
  go_wp2_with fail
  refine (same_Error _ _ (HG.out _ b9.on)).mono ?_
  rintro r w10 ⟨rfl, hb10⟩
  have b10 := b9.later hb10
  have e10 := e9.below hb10 e9.lt
  have d10 := d9.below hb10 d9.lt
  have HC8c := Lib.hid (HC8b.out.later hb10)
  have HC9b := Lib.hid (HC9.out.later hb10)
  clear hb10 b9 e9 d9 HC8b HC9
  have c0 := e10.cell
  have c1 := d10.cell
  have l0 := e10.lt
  have l1 := d10.lt
  go_wp2_with fail
  refine (same_Policy q q cs9 cs8 A9 A8 c9 c8 _ rfl HQ9.out HQ8.out HC9b.out HC8c.out HL9.out hm9).mono ?_
  rintro r w11 ⟨rfl, hb11⟩
  have b11 := b10.later hb11
  clear hb11
  go_wp2_with fail
  go_ret
  exact ⟨rfl, b11.on⟩
set_option maxRecDepth 100000 in
set_option maxHeartbeats 12800000 in
theorem law_fills_bad (p : Po) (cs : List CdM) (A : Option Addr) (c : Nat) (who what : Ud) (w : World) (hg : ErrCell w) (hp : p.conds = cs.map CdM.cd) (hz : PoZ p) (hc : CdsAt w w.heap.size A cs) (hl : cs.length ≤ c) (hcm : c ≤ 9223372036854775807) (hu1 : UdOk who) (hu2 : UdOk what) (hk : ¬ polErr p = 0) :
    Calls Tryz.prog 5 #[.agg #[.string p.name, .bool p.forbid, .int .i64 p.who.op, .string p.who.ty, .string p.who.uid.ty, .string p.who.uid.id, .int .i64 p.act.op, .string p.act.ty, .string p.act.uid.ty, .string p.act.uid.id, .int .i64 p.what.op, .string p.what.ty, .string p.what.uid.ty, .string p.what.uid.id, .slice A cs.length c], .agg #[.string who.ty, .string who.id], .agg #[.string what.ty, .string what.id]] w fun r w' => r = .returned (.bool true) ∧ RowKit.Below w.heap.size w w' := by
  have HG := Lib.hid (fun (W : World) (h : RowKit.Below w.heap.size w W) => hg.below h hg.lt)
  have HP := Lib.hid (fun W (h : RowKit.Below w.heap.size w W) => r4_PolicyFault p cs A c W hp hz (hc.later h) (by omega))
  have HSO := Lib.hid (fun W => r4_SlotsOf p cs A c W)
  have HSL : Hid (∀ W, RowKit.Below w.heap.size w W → Calls Tryz.prog 13 #[.agg #[.string p.name, .bool p.forbid, .int .i64 p.who.op, .string p.who.ty, .string p.who.uid.ty, .string p.who.uid.id, .int .i64 p.act.op, .string p.act.ty, .string p.act.uid.ty, .string p.act.uid.id, .int .i64 p.what.op, .string p.what.ty, .string p.what.uid.ty, .string p.what.uid.id, .slice A cs.length c]] W fun e w' => StrsBack W e w' (if polErr p = 0 then slotsP p else []) (polErr p)) := by
    intro W h
    by_cases hk : polErr p = 0
    · rw [if_pos hk, hk]; exact link_Slots p cs A c W hp hz (hc.later h) (by omega) hk
    · rw [if_neg hk]; exact link_SlotsBad p cs A c W hp hz (hc.later h) (by omega) hk
  have HVL := Lib.hid (fun W (h : RowKit.Below w.heap.size w W) => r4_Linked p cs A c who what W hp hz (hc.later h) hl hcm hu1 hu2)
  have HLL := Lib.hid (fun W (h : RowKit.Below w.heap.size w W) => link_Link p cs A c who what W hp hz (hc.later h) (by omega) hu1 hu2)
  have HX := Lib.hid slots_b
  clear hp hz hc hu1 hu2 hg
  rw [if_neg hk] at HSL
  have tk : (polErr p == 0) = false := by simp [hk]
  clear hk
  generalize hss : ([] : List (List UInt8)) = ss at HSL
  have HSS := Lib.hid hss
  generalize polErr p = pe at HSL HP tk
  clear hss
  generalize (linkP p who what).1 = q at HVL HLL
  generalize (linkP p who what).2 = k at HVL HLL
  go_enter Tryz.func5, Tryz.ntmps5
  go_wp2_with fail
  refine (HX.out _).mono ?_
  rintro r w1 ⟨⟨A1, c1, rfl, hs1⟩, hb1⟩
  obtain ⟨q0, q1, q2, q3⟩ := three hb1
  have b1 : FBox w _ who what w1 := ⟨q0, q1, q2, q3⟩
  have HS1 := Lib.hid hs1
  clear hb1 q0 q1 q2 q3 hs1
  go_wp2_with fail
  refine (same_Texts [[63, 114, 101, 115, 111, 117, 114, 99, 101]] A1 _ c1 1 _ ((HS1.out.below ((RowKit.Below.refl _ _).alloc (Nat.le_refl _) _)).more (by simp)) (strs_lit w1 _ _) (by decide)).mono ?_
  rintro r w2 ⟨rfl, hb2⟩
  have b2 := (b1.alloc _).later hb2
  clear hb2 b1 HS1
  have c0 := b2.box.cell
  have c1 := b2.u1.cell
  have c2 := b2.u2.cell
  have l0 := b2.box.lt
  have l1 := b2.u1.lt
  have l2 := b2.u2.lt
  go_wp2_with fail
  refine (HP.out _ b2.on).mono ?_
  rintro r w3 ⟨rfl, hb3⟩
  have b3 := b2.later hb3
  clear c0 c1 c2 l0 l1 l2
  clear hb3 b2
  have c0 := b3.box.cell
  have c1 := b3.u1.cell
  have c2 := b3.u2.cell
  have l0 := b3.box.lt
  have l1 := b3.u1.lt
  have l2 := b3.u2.lt
  go_wp2_with fail
  refine (HSL.out _ b3.on).mono ?_
  rintro r w5 ⟨A5, c5, rfl, hl5, hm5, hs5, hb5⟩
  have b5 := b3.later hb5
  have HS5 := Lib.hid hs5
  have hsl : ss.length ≤ 9223372036854775807 := by omega
  clear c0 c1 c2 l0 l1 l2
  clear hb5 b3 hs5 hl5
  have c0 := b5.box.cell
  have c1 := b5.u1.cell
  have c2 := b5.u2.cell
  have l0 := b5.box.lt
  have l1 := b5.u1.lt
  have l2 := b5.u2.lt
  go_wp2_with fail
  refine (same_Error _ w5 (HG.out w5 b5.on)).mono ?_
  rintro r w6 ⟨rfl, hb6⟩
  have b6 := b5.later hb6
  have HS5b := Lib.hid ((HS5.out.below hb6).more hb6.size)
  clear c0 c1 c2 l0 l1 l2
  clear hb6 b5 HS5
  have c0 := b6.box.cell
  have c1 := b6.u1.cell
  have c2 := b6.u2.cell
  have l0 := b6.box.lt
  have l1 := b6.u1.lt
  have l2 := b6.u2.lt
  go_wp2_with fail
  obtain rfl := HSS.out
  refine (same_Texts [] A5 none c5 0 w6 HS5b.out (StrSl.nil _ _ _) (by decide)).mono ?_
  rintro r w7 ⟨rfl, hb7⟩
  have b7 := b6.later hb7
  clear c0 c1 c2 l0 l1 l2
  clear hb7 b6 HS5b
  have c0 := b7.box.cell
  have c1 := b7.u1.cell
  have c2 := b7.u2.cell
  have l0 := b7.box.lt
  have l1 := b7.u1.lt
  have l2 := b7.u2.lt
  go_wp2_with fail
  refine (HVL.out _ b7.on).mono ?_
  rintro r w8 ⟨A8, c8, cs8, rfl, hl8, hm8, hq8, hc8, hb8⟩
  have b8 := b7.later hb8
  have HC8 := Lib.hid hc8
  have HQ8 := Lib.hid hq8
  have HL8 := Lib.hid hl8
  clear c0 c1 c2 l0 l1 l2
  clear hb8 b7 hc8 hq8 hl8
  replace b8 := b8.alloc (.cells #[.string q.name, .bool q.forbid, .int .i64 q.who.op, .string q.who.ty, .string q.who.uid.ty, .string q.who.uid.id, .int .i64 q.act.op, .string q.act.ty, .string q.act.uid.ty, .string q.act.uid.id, .int .i64 q.what.op, .string q.what.ty, .string q.what.uid.ty, .string q.what.uid.id, .slice A8 cs8.length c8] 45)
  replace HC8 := Lib.hid (HC8.out.later ((RowKit.Below.refl _ _).alloc (Nat.le_refl _) (.cells #[.string q.name, .bool q.forbid, .int .i64 q.who.op, .string q.who.ty, .string q.who.uid.ty, .string q.who.uid.id, .int .i64 q.act.op, .string q.act.ty, .string q.act.uid.ty, .string q.act.uid.id, .int .i64 q.what.op, .string q.what.ty, .string q.what.uid.ty, .string q.what.uid.id, .slice A8 cs8.length c8] 45)))
  have e8 := Blk.new w8 45 #[.string q.name, .bool q.forbid, .int .i64 q.who.op, .string q.who.ty, .string q.who.uid.ty, .string q.who.uid.id, .int .i64 q.act.op, .string q.act.ty, .string q.act.uid.ty, .string q.act.uid.id, .int .i64 q.what.op, .string q.what.ty, .string q.what.uid.ty, .string q.what.uid.id, .slice A8 cs8.length c8]
  have c0 := b8.box.cell
  have c1 := b8.u1.cell
  have c2 := b8.u2.cell
  have l0 := b8.box.lt
  have l1 := b8.u1.lt
  have l2 := b8.u2.lt
  go_wp2_with fail
  refine (HLL.out _ b8.on).mono ?_
  rintro r w9 ⟨A9, c9, cs9, rfl, hl9, hm9, hq9, hc9, hb9⟩
  have b9 := b8.later hb9
  have e9 := e8.below hb9 (by simp)
  have HC8b := Lib.hid (HC8.out.later hb9)
  have HC9 := Lib.hid hc9
  have HQ9 := Lib.hid hq9
  have HL9 := Lib.hid hl9
  clear c0 c1 c2 l0 l1 l2
  clear hb9 b8 hc9 hq9 hl9 e8 HC8
  replace b9 := b9.alloc (.cells #[.string q.name, .bool q.forbid, .int .i64 q.who.op, .string q.who.ty, .string q.who.uid.ty, .string q.who.uid.id, .int .i64 q.act.op, .string q.act.ty, .string q.act.uid.ty, .string q.act.uid.id, .int .i64 q.what.op, .string q.what.ty, .string q.what.uid.ty, .string q.what.uid.id, .slice A9 cs9.length c9] 45)
  replace e9 := e9.alloc (.cells #[.string q.name, .bool q.forbid, .int .i64 q.who.op, .string q.who.ty, .string q.who.uid.ty, .string q.who.uid.id, .int .i64 q.act.op, .string q.act.ty, .string q.act.uid.ty, .string q.act.uid.id, .int .i64 q.what.op, .string q.what.ty, .string q.what.uid.ty, .string q.what.uid.id, .slice A9 cs9.length c9] 45)
  have d9 := Blk.new w9 45 #[.string q.name, .bool q.forbid, .int .i64 q.who.op, .string q.who.ty, .string q.who.uid.ty, .string q.who.uid.id, .int .i64 q.act.op, .string q.act.ty, .string q.act.uid.ty, .string q.act.uid.id, .int .i64 q.what.op, .string q.what.ty, .string q.what.uid.ty, .string q.what.uid.id, .slice A9 cs9.length c9]
  replace HC8b := Lib.hid (HC8b.out.later ((RowKit.Below.refl _ _).alloc (Nat.le_refl _) (.cells #[.string q.name, .bool q.forbid, .int .i64 q.who.op, .string q.who.ty, .string q.who.uid.ty, .string q.who.uid.id, .int .i64 q.act.op, .string q.act.ty, .string q.act.uid.ty, .string q.act.uid.id, .int .i64 q.what.op, .string q.what.ty, .string q.what.uid.ty, .string q.what.uid.id, .slice A9 cs9.length c9] 45)))
  replace HC9 := Lib.hid (HC9.out.later ((RowKit.Below.refl _ _).alloc (Nat.le_refl _) (.cells #[.string q.name, .bool q.forbid, .int .i64 q.who.op, .string q.who.ty, .string q.who.uid.ty, .string q.who.uid.id, .int .i64 q.act.op, .string q.act.ty, .string q.act.uid.ty, .string q.act.uid.id, .int .i64 q.what.op, .string q.what.ty, .string q.what.uid.ty, .string q.what.uid.id, .slice A9 cs9.length c9] 45)))
  go_wp2_with fail
  refine (same_Error _ _ (HG.out _ b9.on)).mono ?_
  rintro r w10 ⟨rfl, hb10⟩
  have b10 := b9.later hb10
  have e10 := e9.below hb10 e9.lt
  have d10 := d9.below hb10 d9.lt
  have HC8c := Lib.hid (HC8b.out.later hb10)
  have HC9b := Lib.hid (HC9.out.later hb10)
  clear hb10 b9 e9 d9 HC8b HC9
  have c0 := e10.cell
  have c1 := d10.cell
  have l0 := e10.lt
  have l1 := d10.lt
  go_wp2_with fail
  refine (same_Policy q q cs9 cs8 A9 A8 c9 c8 _ rfl HQ9.out HQ8.out HC9b.out HC8c.out HL9.out hm9).mono ?_
  rintro r w11 ⟨rfl, hb11⟩
  have b11 := b10.later hb11
  clear hb11
  go_wp2_with fail
  go_ret
  exact ⟨rfl, b11.on⟩
theorem law_fills (p : Po) (cs : List CdM) (A : Option Addr) (c : Nat) (who what : Ud) (w : World) (hg : ErrCell w) (hp : p.conds = cs.map CdM.cd) (hz : PoZ p) (hc : CdsAt w w.heap.size A cs) (hl : cs.length ≤ c) (hcm : c ≤ 9223372036854775807) (hu1 : UdOk who) (hu2 : UdOk what) :
    Calls Tryz.prog 5 #[.agg #[.string p.name, .bool p.forbid, .int .i64 p.who.op, .string p.who.ty, .string p.who.uid.ty, .string p.who.uid.id, .int .i64 p.act.op, .string p.act.ty, .string p.act.uid.ty, .string p.act.uid.id, .int .i64 p.what.op, .string p.what.ty, .string p.what.uid.ty, .string p.what.uid.id, .slice A cs.length c], .agg #[.string who.ty, .string who.id], .agg #[.string what.ty, .string what.id]] w fun r w' => r = .returned (.bool true) ∧ RowKit.Below w.heap.size w w' := by
  by_cases hk : polErr p = 0
  · exact law_fills_good p cs A c who what w hg hp hz hc hl hcm hu1 hu2 hk
  · exact law_fills_bad p cs A c who what w hg hp hz hc hl hcm hu1 hu2 hk
end Go.Proofs.YtbommoefpekalaaGreatDoor
