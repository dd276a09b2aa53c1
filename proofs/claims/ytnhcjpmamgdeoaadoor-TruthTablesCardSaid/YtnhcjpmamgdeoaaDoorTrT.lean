/-
  THE WALKS of the fact that the laws of tables begin with.
-/
import Derived.Test.YtnhcjpmamgdeoaaDoorTrG
import Derived.Test.YtnhcjpmamgdeoaaDoorTOk
namespace Go.Proofs.YtnhcjpmamgdeoaaDoor
open Go.RowKit Go.Sort

theorem law_name (s : ByteArray) (w : World) : Calls Tryd.prog 17 #[.string s] w fun r w' => r = .returned (.agg #[.int .i64 8, .int .i64 0, .string s, .string ⟨#[]⟩]) ∧ RowKit.Below w.heap.size w w' := by
  go_enter Tryd.func17, Tryd.ntmps17
  go_wp2_with fail
  exact bodyPost_ret (v := .agg #[.int .i64 8, .int .i64 0, .string s, .string ⟨#[]⟩]) (by simp [results, Tryd.results17, go_sem]) rfl ⟨rfl, by (repeat (first | assumption | exact Below.refl _ _ | apply Below.drew | apply below_drewN | (refine Below.alloc ?_ (by first | exact Nat.le_refl _ | omega | (simp; done) | (simp; omega)) _)))⟩
def nmA : ByteArray := ⟨#[97]⟩
def nmB : ByteArray := ⟨#[98]⟩
def exAB : List Nd := [⟨11, 0, ⟨#[]⟩, ⟨#[]⟩⟩, ⟨8, 0, nmA, ⟨#[]⟩⟩, ⟨8, 0, nmB, ⟨#[]⟩⟩]
theorem fact_ab : frmErr exAB [[97], [98]] = 0 ∧ onesP exAB [[97], [98]] = 1 := by
  have h : frmErr exAB [[97], [98]] = 0 := by
    refine frm_ok.2 ⟨?_, atoms_ok.2 ⟨by simp, by simp, rfl, ?_⟩⟩
    · simp [exAB, nmA, nmB, treeErr, bGo, shapedT, ndParts, variableB, nameErr, nameB, letterI, digitI, reserved, ByteArray.toList_mk]
    · simp [exAB, nmA, nmB, ByteArray.toList_mk]
  refine ⟨h, ?_⟩
  unfold onesP tableP
  rw [if_neg (by simp [h])]
  simp [tabB, exAB, evL, evG, twoB, vB, nmA, nmB, ByteArray.toList_mk, List.range_succ, onesL]
  rfl
theorem strs_new (W : World) (T : TypeId) (ss : List (List UInt8)) (cs : Array Value) (h : cs = (ss.map encStr).toArray) : StrSl (W.alloc (.cells cs T)) (W.alloc (.cells cs T)).heap.size (some ⟨W.heap.size, 0, none⟩) ss := fun _ =>
  ⟨W.heap.size, 0, rfl, by simp, fun i l hl => by
    subst h
    rw [World.cell?_alloc_new, Nat.zero_add]; simp [hl]⟩
theorem law_atoms (w : World) : Calls Tryd.prog 18 #[] w fun r w' => ∃ A c, r = .returned (.slice A 2 c) ∧ 2 ≤ c ∧ c ≤ 9223372036854775807 ∧ StrSl w' w'.heap.size A [[97], [98]] ∧ RowKit.Below w.heap.size w w' := by
  go_enter Tryd.func18, Tryd.ntmps18
  go_wp2_with fail
  go_ret
  exact ⟨_, 2, rfl, by omega, by omega, strs_new w 9 [[97], [98]] _ rfl, by (repeat (first | assumption | exact Below.refl _ _ | apply Below.drew | apply below_drewN | (refine Below.alloc ?_ (by first | exact Nat.le_refl _ | omega | (simp; done) | (simp; omega)) _)))⟩
theorem nds_new (W : World) (T : TypeId) (xs : List Nd) (cs : Array Value) (h : cs.toList = flat xs) : NdSl (W.alloc (.cells cs T)) (W.alloc (.cells cs T)).heap.size (some ⟨W.heap.size, 0, none⟩) xs :=
  NdSl.of_flat (by simp) fun j u hu => by rw [World.cell?_alloc_new, ← hu, ← h, Array.getElem?_toList]
set_option maxRecDepth 100000 in
set_option maxHeartbeats 3200000 in
theorem law_tabled (w : World) : Calls Tryd.prog 5 #[] w fun r w' => r = .returned (.bool true) ∧ RowKit.Below w.heap.size w w' := by
  have HO : Hid (∀ W An cn, StrSl W W.heap.size An [[97], [98]] → 2 ≤ cn → cn ≤ 9223372036854775807 → ∀ A, NdSl W W.heap.size A exAB → Calls Tryd.prog 13 #[.slice A 3 3, .slice An 2 cn] W fun r w' => r = .returned (.tuple #[.int .i64 1, .nilIface]) ∧ RowKit.Below W.heap.size W w') := by
    intro W An cn hs h1 h2 A hA
    have hok : NdOk exAB := tree_ok (frm_ok.1 fact_ab.1).1
    have h := truth_Ones exAB A 3 [[97], [98]] An cn W (Nat.le_refl _) (by omega) hok hA hs h1 h2
    rw [fact_ab.1, fact_ab.2] at h
    exact h
  go_enter Tryd.func5, Tryd.ntmps5
  go_wp2_with fail
  refine (law_name _ w).mono ?_
  rintro r w1 ⟨rfl, hb1⟩
  go_wp2_with fail
  refine (law_name _ w1).mono ?_
  rintro r w2 ⟨rfl, hb2⟩
  have hw2 := hb1.trans (hb2.mono hb1.size)
  clear hb1 hb2
  go_wp2_with fail
  have HE := Lib.hid (nds_new w2 47 exAB #[.int .i64 11, .int .i64 0, .string ⟨#[]⟩, .string ⟨#[]⟩, .int .i64 8, .int .i64 0, .string ⟨#[97]⟩, .string ⟨#[]⟩, .int .i64 8, .int .i64 0, .string ⟨#[98]⟩, .string ⟨#[]⟩] rfl)
  have hw3 : RowKit.Below w.heap.size w (w2.alloc (.cells #[.int .i64 11, .int .i64 0, .string ⟨#[]⟩, .string ⟨#[]⟩, .int .i64 8, .int .i64 0, .string ⟨#[97]⟩, .string ⟨#[]⟩, .int .i64 8, .int .i64 0, .string ⟨#[98]⟩, .string ⟨#[]⟩] 47)) := hw2.alloc hw2.size _
  refine (law_atoms _).mono ?_
  rintro r w4 ⟨An, cn, rfl, h1, h2, h3, hb4⟩
  have HS := Lib.hid h3
  have HE4 := Lib.hid ((HE.out.below hb4).more hb4.size)
  have hw4 := hw3.trans (hb4.mono hw3.size)
  clear h3 hb4 hw3
  go_wp2_with fail
  refine (HO.out w4 An cn HS.out h1 h2 _ HE4.out).mono ?_
  rintro r w5 ⟨rfl, hb5⟩
  go_wp2_with fail
  go_ret
  exact ⟨rfl, hw4.trans (hb5.mono hw4.size)⟩
end Go.Proofs.YtnhcjpmamgdeoaaDoor
