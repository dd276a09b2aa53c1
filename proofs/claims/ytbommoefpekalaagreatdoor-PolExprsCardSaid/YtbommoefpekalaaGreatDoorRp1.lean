/-
  THE WALKS: the reference's ScopeFits.
-/
import Derived.Test.YtbommoefpekalaaGreatDoorRef2
import Derived.Test.YtbommoefpekalaaGreatDoorPol1
namespace Go.Proofs.YtbommoefpekalaaGreatDoor
open Go.RowKit

theorem r1_ud (u : Ud) (w : World) (hu : UdOk u) : Calls Tryz.prog 38 #[.agg #[.string u.ty, .string u.id]] w fun e w' => e = .returned (.int .i64 (udErr u)) ∧ Below w.heap.size w w' := r1_UidFault u.ty u.id w hu.1 hu.2
theorem emp_eq (s : ByteArray) : emp s = s.toList.isEmpty := by unfold emp; cases s.toList <;> rfl
def RefScope (s : Sc) (b : Bool) : Prop := ∀ w : World, Calls Tryz.prog 34 #[.agg #[.int .i64 s.op, .string s.ty, .string s.uid.ty, .string s.uid.id], .bool b] w fun e w' => e = .returned (.bool (scOk s b)) ∧ Below w.heap.size w w'
theorem two_on {w w1 : World} {O : Obj} (h : Below (w.alloc O).heap.size (w.alloc O) w1) : Below w.heap.size w w1 := ((Below.refl _ _).alloc (Nat.le_refl _) _).trans (h.mono (by simp))
set_option maxRecDepth 100000 in
set_option maxHeartbeats 3200000 in
theorem r4_scope0 (s : Sc) (b : Bool) (h0 : s.op = 0) (hz : ScZ s) (ku kn : Int) (hu : udErr s.uid = ku) (hn : nameErr s.ty.toList = kn) (du dn : Bool) (hdu : (ku == 0) = du) (hdn : (kn == 0) = dn) : RefScope s b := by
  intro w
  have HU := Lib.hid (fun W => r1_ud s.uid W hz.2)
  have HN := Lib.hid (fun W => r1_NameFault s.ty W hz.1)
  have HV : Hid (scOk s b = scOk s b) := Lib.hid rfl
  rw [hu] at HU
  rw [hn] at HN
  have HKU := Lib.hid hu
  have HKN := Lib.hid hn
  have HDU := Lib.hid hdu
  have HDN := Lib.hid hdn
  clear hu hn hz
  skip
  all_goals
    rw [h0]
    go_enter Tryz.func34, Tryz.ntmps34
    go_wp2_with fail
  all_goals
    refine (HU.out _).mono ?_
    rintro e w1 ⟨rfl, hb1⟩
    have hb := two_on hb1
    have c0 := ((Blk.new w 42 _).below hb1 (by simp)).cell
    have l0 := ((Blk.new w 42 _).below hb1 (by simp)).lt
    clear hb1
    go_wp2_with (go_at_call 33; refine (HN.out _).mono ?_; rintro e w' ⟨rfl, rfl⟩)
  all_goals
    go_ret
    have h1 := HDU.out
    have h2 := HDN.out
    have h3 := HKU.out
    have h4 := HKN.out
    refine ⟨ret_bool ?_, hb⟩
    simp_all [scOk, udNone, emp_eq]
set_option maxRecDepth 100000 in
set_option maxHeartbeats 3200000 in
theorem r4_scope1 (s : Sc) (b : Bool) (h0 : s.op = 1) (hz : ScZ s) (ku kn : Int) (hu : udErr s.uid = ku) (hn : nameErr s.ty.toList = kn) (du dn : Bool) (hdu : (ku == 0) = du) (hdn : (kn == 0) = dn) : RefScope s b := by
  intro w
  have HU := Lib.hid (fun W => r1_ud s.uid W hz.2)
  have HN := Lib.hid (fun W => r1_NameFault s.ty W hz.1)
  have HV : Hid (scOk s b = scOk s b) := Lib.hid rfl
  rw [hu] at HU
  rw [hn] at HN
  have HKU := Lib.hid hu
  have HKN := Lib.hid hn
  have HDU := Lib.hid hdu
  have HDN := Lib.hid hdn
  clear hu hn hz
  cases du <;> cases b
  all_goals
    rw [h0]
    go_enter Tryz.func34, Tryz.ntmps34
    go_wp2_with fail
  all_goals
    refine (HU.out _).mono ?_
    rintro e w1 ⟨rfl, hb1⟩
    have hb := two_on hb1
    have c0 := ((Blk.new w 42 _).below hb1 (by simp)).cell
    have l0 := ((Blk.new w 42 _).below hb1 (by simp)).lt
    clear hb1
    go_wp2_with (go_at_call 33; refine (HN.out _).mono ?_; rintro e w' ⟨rfl, rfl⟩)
  all_goals
    go_ret
    have h1 := HDU.out
    have h2 := HDN.out
    have h3 := HKU.out
    have h4 := HKN.out
    refine ⟨ret_bool ?_, hb⟩
    simp_all [scOk, udOk, emp_eq]
set_option maxRecDepth 100000 in
set_option maxHeartbeats 3200000 in
theorem r4_scope2 (s : Sc) (b : Bool) (h0 : s.op = 2) (hz : ScZ s) (ku kn : Int) (hu : udErr s.uid = ku) (hn : nameErr s.ty.toList = kn) (du dn : Bool) (hdu : (ku == 0) = du) (hdn : (kn == 0) = dn) : RefScope s b := by
  intro w
  have HU := Lib.hid (fun W => r1_ud s.uid W hz.2)
  have HN := Lib.hid (fun W => r1_NameFault s.ty W hz.1)
  have HV : Hid (scOk s b = scOk s b) := Lib.hid rfl
  rw [hu] at HU
  rw [hn] at HN
  have HKU := Lib.hid hu
  have HKN := Lib.hid hn
  have HDU := Lib.hid hdu
  have HDN := Lib.hid hdn
  clear hu hn hz
  cases du <;> cases b
  all_goals
    rw [h0]
    go_enter Tryz.func34, Tryz.ntmps34
    go_wp2_with fail
  all_goals
    refine (HU.out _).mono ?_
    rintro e w1 ⟨rfl, hb1⟩
    have hb := two_on hb1
    have c0 := ((Blk.new w 42 _).below hb1 (by simp)).cell
    have l0 := ((Blk.new w 42 _).below hb1 (by simp)).lt
    clear hb1
    go_wp2_with (go_at_call 33; refine (HN.out _).mono ?_; rintro e w' ⟨rfl, rfl⟩)
  all_goals
    go_ret
    have h1 := HDU.out
    have h2 := HDN.out
    have h3 := HKU.out
    have h4 := HKN.out
    refine ⟨ret_bool ?_, hb⟩
    simp_all [scOk, udOk, emp_eq]
set_option maxRecDepth 100000 in
set_option maxHeartbeats 3200000 in
theorem r4_scope3 (s : Sc) (b : Bool) (h0 : s.op = 3) (hz : ScZ s) (ku kn : Int) (hu : udErr s.uid = ku) (hn : nameErr s.ty.toList = kn) (du dn : Bool) (hdu : (ku == 0) = du) (hdn : (kn == 0) = dn) : RefScope s b := by
  intro w
  have HU := Lib.hid (fun W => r1_ud s.uid W hz.2)
  have HN := Lib.hid (fun W => r1_NameFault s.ty W hz.1)
  have HV : Hid (scOk s b = scOk s b) := Lib.hid rfl
  rw [hu] at HU
  rw [hn] at HN
  have HKU := Lib.hid hu
  have HKN := Lib.hid hn
  have HDU := Lib.hid hdu
  have HDN := Lib.hid hdn
  clear hu hn hz
  cases dn <;> cases b
  all_goals
    rw [h0]
    go_enter Tryz.func34, Tryz.ntmps34
    go_wp2_with fail
  all_goals
    refine (HU.out _).mono ?_
    rintro e w1 ⟨rfl, hb1⟩
    have hb := two_on hb1
    have c0 := ((Blk.new w 42 _).below hb1 (by simp)).cell
    have l0 := ((Blk.new w 42 _).below hb1 (by simp)).lt
    clear hb1
    go_wp2_with (go_at_call 33; refine (HN.out _).mono ?_; rintro e w' ⟨rfl, rfl⟩)
  all_goals
    go_ret
    have h1 := HDU.out
    have h2 := HDN.out
    have h3 := HKU.out
    have h4 := HKN.out
    refine ⟨ret_bool ?_, hb⟩
    simp_all [scOk, udNone, emp_eq]
set_option maxRecDepth 100000 in
set_option maxHeartbeats 3200000 in
theorem r4_scope4 (s : Sc) (b : Bool) (h0 : s.op = 4) (hz : ScZ s) (ku kn : Int) (hu : udErr s.uid = ku) (hn : nameErr s.ty.toList = kn) (du dn : Bool) (hdu : (ku == 0) = du) (hdn : (kn == 0) = dn) : RefScope s b := by
  intro w
  have HU := Lib.hid (fun W => r1_ud s.uid W hz.2)
  have HN := Lib.hid (fun W => r1_NameFault s.ty W hz.1)
  have HV : Hid (scOk s b = scOk s b) := Lib.hid rfl
  rw [hu] at HU
  rw [hn] at HN
  have HKU := Lib.hid hu
  have HKN := Lib.hid hn
  have HDU := Lib.hid hdu
  have HDN := Lib.hid hdn
  clear hu hn hz
  cases du <;> cases dn <;> cases b
  all_goals
    rw [h0]
    go_enter Tryz.func34, Tryz.ntmps34
    go_wp2_with fail
  all_goals
    refine (HU.out _).mono ?_
    rintro e w1 ⟨rfl, hb1⟩
    have hb := two_on hb1
    have c0 := ((Blk.new w 42 _).below hb1 (by simp)).cell
    have l0 := ((Blk.new w 42 _).below hb1 (by simp)).lt
    clear hb1
    go_wp2_with (go_at_call 33; refine (HN.out _).mono ?_; rintro e w' ⟨rfl, rfl⟩)
  all_goals
    go_ret
    have h1 := HDU.out
    have h2 := HDN.out
    have h3 := HKU.out
    have h4 := HKN.out
    refine ⟨ret_bool ?_, hb⟩
    simp_all [scOk, udOk]
set_option maxRecDepth 100000 in
set_option maxHeartbeats 3200000 in
theorem r4_scope5 (s : Sc) (b : Bool) (h0 : s.op = 5) (hz : ScZ s) (ku kn : Int) (hu : udErr s.uid = ku) (hn : nameErr s.ty.toList = kn) (du dn : Bool) (hdu : (ku == 0) = du) (hdn : (kn == 0) = dn) : RefScope s b := by
  intro w
  have HU := Lib.hid (fun W => r1_ud s.uid W hz.2)
  have HN := Lib.hid (fun W => r1_NameFault s.ty W hz.1)
  have HV : Hid (scOk s b = scOk s b) := Lib.hid rfl
  rw [hu] at HU
  rw [hn] at HN
  have HKU := Lib.hid hu
  have HKN := Lib.hid hn
  have HDU := Lib.hid hdu
  have HDN := Lib.hid hdn
  clear hu hn hz
  cases b
  all_goals
    rw [h0]
    go_enter Tryz.func34, Tryz.ntmps34
    go_wp2_with fail
  all_goals
    refine (HU.out _).mono ?_
    rintro e w1 ⟨rfl, hb1⟩
    have hb := two_on hb1
    have c0 := ((Blk.new w 42 _).below hb1 (by simp)).cell
    have l0 := ((Blk.new w 42 _).below hb1 (by simp)).lt
    clear hb1
    go_wp2_with (go_at_call 33; refine (HN.out _).mono ?_; rintro e w' ⟨rfl, rfl⟩)
  all_goals
    go_ret
    have h1 := HDU.out
    have h2 := HDN.out
    have h3 := HKU.out
    have h4 := HKN.out
    refine ⟨ret_bool ?_, hb⟩
    simp_all [scOk, udNone, emp_eq]
set_option maxRecDepth 100000 in
set_option maxHeartbeats 3200000 in
theorem r4_scope6 (s : Sc) (b : Bool) (h0 : s.op = 6) (hz : ScZ s) (ku kn : Int) (hu : udErr s.uid = ku) (hn : nameErr s.ty.toList = kn) (du dn : Bool) (hdu : (ku == 0) = du) (hdn : (kn == 0) = dn) : RefScope s b := by
  intro w
  have HU := Lib.hid (fun W => r1_ud s.uid W hz.2)
  have HN := Lib.hid (fun W => r1_NameFault s.ty W hz.1)
  have HV : Hid (scOk s b = scOk s b) := Lib.hid rfl
  rw [hu] at HU
  rw [hn] at HN
  have HKU := Lib.hid hu
  have HKN := Lib.hid hn
  have HDU := Lib.hid hdu
  have HDN := Lib.hid hdn
  clear hu hn hz
  cases b
  all_goals
    rw [h0]
    go_enter Tryz.func34, Tryz.ntmps34
    go_wp2_with fail
  all_goals
    refine (HU.out _).mono ?_
    rintro e w1 ⟨rfl, hb1⟩
    have hb := two_on hb1
    have c0 := ((Blk.new w 42 _).below hb1 (by simp)).cell
    have l0 := ((Blk.new w 42 _).below hb1 (by simp)).lt
    clear hb1
    go_wp2_with (go_at_call 33; refine (HN.out _).mono ?_; rintro e w' ⟨rfl, rfl⟩)
  all_goals
    go_ret
    have h1 := HDU.out
    have h2 := HDN.out
    have h3 := HKU.out
    have h4 := HKN.out
    refine ⟨ret_bool ?_, hb⟩
    simp_all [scOk, udNone, emp_eq]
set_option maxRecDepth 100000 in
set_option maxHeartbeats 3200000 in
theorem r4_scope9 (s : Sc) (b : Bool) (h0 : ¬ s.op = 0) (h1 : ¬ s.op = 1) (h2 : ¬ s.op = 2) (h3 : ¬ s.op = 3) (h4 : ¬ s.op = 4) (h5 : ¬ s.op = 5) (h6 : ¬ s.op = 6) (hz : ScZ s) (ku kn : Int) (hu : udErr s.uid = ku) (hn : nameErr s.ty.toList = kn) (du dn : Bool) (hdu : (ku == 0) = du) (hdn : (kn == 0) = dn) : RefScope s b := by
  intro w
  have HU := Lib.hid (fun W => r1_ud s.uid W hz.2)
  have HN := Lib.hid (fun W => r1_NameFault s.ty W hz.1)
  have HV : Hid (scOk s b = scOk s b) := Lib.hid rfl
  rw [hu] at HU
  rw [hn] at HN
  have HKU := Lib.hid hu
  have HKN := Lib.hid hn
  have t0 : (s.op == 0) = false := by simp [h0]
  have t1 : (s.op == 1) = false := by simp [h1]
  have t2 : (s.op == 2) = false := by simp [h2]
  have t3 : (s.op == 3) = false := by simp [h3]
  have t4 : (s.op == 4) = false := by simp [h4]
  have t5 : (s.op == 5) = false := by simp [h5]
  have t6 : (s.op == 6) = false := by simp [h6]
  clear h0 h1 h2 h3 h4 h5 h6
  have HDU := Lib.hid hdu
  have HDN := Lib.hid hdn
  clear hu hn hz
  cases b
  all_goals
    go_enter Tryz.func34, Tryz.ntmps34
    go_wp2_with fail
  all_goals
    refine (HU.out _).mono ?_
    rintro e w1 ⟨rfl, hb1⟩
    have hb := two_on hb1
    have c0 := ((Blk.new w 42 _).below hb1 (by simp)).cell
    have l0 := ((Blk.new w 42 _).below hb1 (by simp)).lt
    clear hb1
    go_wp2_with (go_at_call 33; refine (HN.out _).mono ?_; rintro e w' ⟨rfl, rfl⟩)
  all_goals
    go_ret
    have h1 := HDU.out
    have h2 := HDN.out
    have h3 := HKU.out
    have h4 := HKN.out
    refine ⟨ret_bool ?_, hb⟩
    simp_all [scOk]
theorem r4_ScopeFits (s : Sc) (b : Bool) (hz : ScZ s) : RefScope s b := by
  by_cases h0 : s.op = 0
  · exact r4_scope0 s b h0 hz _ _ rfl rfl _ _ rfl rfl
  by_cases h1 : s.op = 1
  · exact r4_scope1 s b h1 hz _ _ rfl rfl _ _ rfl rfl
  by_cases h2 : s.op = 2
  · exact r4_scope2 s b h2 hz _ _ rfl rfl _ _ rfl rfl
  by_cases h3 : s.op = 3
  · exact r4_scope3 s b h3 hz _ _ rfl rfl _ _ rfl rfl
  by_cases h4 : s.op = 4
  · exact r4_scope4 s b h4 hz _ _ rfl rfl _ _ rfl rfl
  by_cases h5 : s.op = 5
  · exact r4_scope5 s b h5 hz _ _ rfl rfl _ _ rfl rfl
  by_cases h6 : s.op = 6
  · exact r4_scope6 s b h6 hz _ _ rfl rfl _ _ rfl rfl
  exact r4_scope9 s b h0 h1 h2 h3 h4 h5 h6 hz _ _ rfl rfl _ _ rfl rfl
end Go.Proofs.YtbommoefpekalaaGreatDoor
