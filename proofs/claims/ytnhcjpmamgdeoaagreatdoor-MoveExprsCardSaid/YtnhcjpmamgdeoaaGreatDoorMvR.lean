/-
  THE WALKS: what all laws of moves ask first; what is shaped is short.
-/
import Derived.Test.YtnhcjpmamgdeoaaGreatDoorMvH
import Derived.Test.YtnhcjpmamgdeoaaGreatDoorSameN
namespace Go.Proofs.YtnhcjpmamgdeoaaGreatDoor
open Go.RowKit

theorem nm_size {s : ByteArray} (h : nameErr s.toList = 0) : s.size ≤ 140737488351232 := by
  rw [← toList_len]
  unfold nameErr at h
  (repeat' split at h) <;> first | omega | cases h | simp_all
theorem tx_size {s : ByteArray} (h : textErr s.toList = 0) : s.size ≤ 140737488351232 := by
  rw [← toList_len]
  unfold textErr at h
  split at h
  · cases h
  · omega
theorem emp_size {s : ByteArray} (h : s.toList.isEmpty = true) : s.size ≤ 140737488351232 := by
  rw [← toList_len]
  have : s.toList = [] := by simpa using h
  rw [this]; simp
theorem shapedV_size {x : Nd} (h : shapedV x = true) : x.s.size ≤ 140737488351232 ∧ x.t.size ≤ 140737488351232 := by
  unfold shapedV at h
  split at h
  · simp only [Bool.and_eq_true] at h; exact ⟨emp_size h.1.2, emp_size h.2⟩
  · split at h
    · simp only [Bool.and_eq_true] at h; exact ⟨emp_size h.1, emp_size h.2⟩
    · split at h
      · simp only [Bool.and_eq_true, beq_iff_eq] at h; exact ⟨tx_size h.2, emp_size h.1.2⟩
      · split at h
        · simp only [Bool.and_eq_true, beq_iff_eq] at h; exact ⟨nm_size h.1.2, tx_size h.2⟩
        · split at h
          · simp only [Bool.and_eq_true] at h; exact ⟨emp_size h.1.2, emp_size h.2⟩
          · split at h
            · simp only [Bool.and_eq_true, beq_iff_eq] at h; exact ⟨nm_size h.2, emp_size h.1.2⟩
            · cases h
theorem shapedT_size {x : Nd} (h : shapedT x = true) : x.s.size ≤ 140737488351232 ∧ x.t.size ≤ 140737488351232 := by
  unfold shapedT at h
  split at h
  · have hv : valErr [x] = 0 := by simpa using h
    obtain ⟨y, r, e, hs, _⟩ := ((val_iff [x]).1 hv).2.ne
    injection e with e1 e2
    subst e1
    exact shapedV_size hs
  · split at h
    · simp only [Bool.and_eq_true] at h; exact ⟨emp_size h.1.2, emp_size h.2⟩
    · split at h
      · simp only [Bool.and_eq_true] at h
        refine ⟨?_, emp_size h.1.2⟩
        have hv := h.2
        rw [← toList_len]
        unfold variableB at hv
        split at hv
        · rename_i he; rw [he]; simp
        · rename_i c r he
          split at hv
          · have hn : nameErr r = 0 := by simpa using hv
            have := nm_size (s := ⟨r.toArray⟩) (by rw [ByteArray.toList_eq]; simpa using hn)
            rw [← toList_len, ByteArray.toList_eq] at this
            have h20 : r.length ≤ 20 := by
              unfold nameErr at hn
              (repeat' split at hn) <;> first | omega | cases hn | simp_all
            rw [he]; simp; omega
          · simp only [Bool.and_eq_true, beq_iff_eq] at hv
            have := nm_size (s := x.s) (by rw [he]; exact hv.1)
            rw [← toList_len] at this
            exact this
      · split at h
        · simp only [Bool.and_eq_true, beq_iff_eq] at h; exact ⟨nm_size h.2, emp_size h.1.2⟩
        · split at h
          · simp only [Bool.and_eq_true, beq_iff_eq] at h; exact ⟨tx_size h.2, emp_size h.1.2⟩
          · simp only [Bool.and_eq_true] at h; exact ⟨emp_size h.1.2, emp_size h.2⟩
theorem ex_shaped {t : BTag} {xs : List Nd} (h : Ex t xs) : ∀ x ∈ xs, shapedT x = true := by
  induction h with
  | one n body fld hs h7 hb ih =>
    intro x hx
    rcases List.mem_cons.1 hx with rfl | hx
    · exact hs
    · exact ih x hx
  | nil r l => simp
  | cons c r l m xs ys hl hx hy ih1 ih2 =>
    intro x hx'
    rcases List.mem_append.1 hx' with h | h
    · exact ih1 x h
    · exact ih2 x h
theorem ex_nok {t : BTag} {xs : List Nd} (h : Ex t xs) : NdOk xs := fun x hx => shapedT_size (ex_shaped h x hx)
theorem tree_nok {e : List Nd} (h : treeErr e = 0) : NdOk e := ex_nok ((tree_iff e).1 h).2
theorem fresh_ok {m : Mv} {e : List Nd} (h1 : (freshV m e).2 = 0) (h2 : (freshV m e).1 = true) : mvErr m = 0 ∧ treeErr e = 0 ∧ freshB m e = true := by
  unfold freshV at h1 h2
  split at h1
  · rename_i h; exact absurd h1 h
  · rename_i hm
    rw [if_neg hm] at h2
    split at h1
    · rename_i h; exact absurd h1 h
    · rename_i he
      rw [if_neg he] at h2
      exact ⟨by simpa using hm, by simpa using he, h2⟩
theorem exprM_ok {m : Mv} {e x : List Nd} (hm : mvErr m = 0) (he : treeErr e = 0) (h : movE m e = some x) : exprM m e = (x, 0) := by
  unfold exprM
  rw [if_neg (by simp [hm]), if_neg (by simp [he]), h]
  rfl
theorem MCap.new (m : Mv) (w : World) : MCap m w.heap.size (w.alloc (.cells #[.int .i64 m.what, .string m.fr, .string m.to_] 23)) := by
  have h := Blk.new w 23 #[.int .i64 m.what, .string m.fr, .string m.to_]
  exact ⟨h.cell 0, h.cell 1, h.cell 2, by simp⟩
def mR : Mv := ⟨1, ⟨#[97]⟩, ⟨#[98]⟩⟩
def eR : List Nd := [⟨22, 0, ⟨#[97]⟩, ⟨#[]⟩⟩, ⟨8, 0, ⟨#[99, 111, 110, 116, 101, 120, 116]⟩, ⟨#[]⟩⟩]
theorem mR_ok : mvErr mR = 0 := by simp [mR, mvErr, nameErr, nameB, letterI, digitI, ByteArray.toList_mk]
theorem eR_ok : treeErr eR = 0 := by
  simp [eR, treeErr, bGo, shapedT, ndParts, variableB, nameErr, nameB, letterI, digitI, reserved, ByteArray.toList_mk]
theorem eR_mov : movE mR eR = some [⟨22, 0, ⟨#[98]⟩, ⟨#[]⟩⟩, ⟨8, 0, ⟨#[99, 111, 110, 116, 101, 120, 116]⟩, ⟨#[]⟩⟩] := by
  simp [eR, mR, movE, movGo, kidsGo, skP, ndParts, allSome, ren, looksB, ByteArray.toList_mk]
theorem mv_name (s : ByteArray) (w : World) : Calls Tryz.prog 25 #[.string s] w fun r w' => r = .returned (.agg #[.int .i64 8, .int .i64 0, .string s, .string ⟨#[]⟩]) ∧ Below w.heap.size w w' := by
  go_enter Tryz.func25, Tryz.ntmps25
  go_wp2_with fail
  exact bodyPost_ret (v := .agg #[.int .i64 8, .int .i64 0, .string s, .string ⟨#[]⟩]) (by simp [results, Tryz.results25, go_sem]) rfl ⟨rfl, by (repeat (first | assumption | exact Below.refl _ _ | apply Below.drew | apply below_drewN | (refine Below.alloc ?_ (by first | exact Nat.le_refl _ | omega | (simp; done) | (simp; omega)) _)))⟩
set_option maxRecDepth 100000 in
set_option maxHeartbeats 1600000 in
theorem law_renamed (w : World) : Calls Tryz.prog 5 #[] w fun r w' => r = .returned (.bool true) ∧ Below w.heap.size w w' := by
  have HX := Lib.hid (fun W A (hsl : NdSl W W.heap.size A eR) => by
    have h := move_Expr mR eR A 2 W ⟨by simp [mR]; decide, by simp [mR]; decide⟩ (by simp [eR]) (by omega) (tree_nok eR_ok) hsl
    rw [exprM_ok mR_ok eR_ok eR_mov] at h
    exact h)
  have HE : Hid (∀ (w1 : World), NdSl (w1.alloc (.cells #[.int .i64 22, .int .i64 0, .string ⟨#[97]⟩, .string ⟨#[]⟩, .int .i64 8, .int .i64 0, .string ⟨#[99, 111, 110, 116, 101, 120, 116]⟩, .string ⟨#[]⟩] 40)) (w1.heap.size + 1) (some ⟨w1.heap.size, 0, none⟩) eR) := by
    intro w1
    refine NdSl.of_flat (by omega) (fun j u hu => ?_)
    have h := (Blk.new w1 40 #[.int .i64 22, .int .i64 0, .string ⟨#[97]⟩, .string ⟨#[]⟩, .int .i64 8, .int .i64 0, .string ⟨#[99, 111, 110, 116, 101, 120, 116]⟩, .string ⟨#[]⟩]).cell j
    rw [h, ← hu]
    rw [← Array.getElem?_toList]
    rfl
  go_enter Tryz.func5, Tryz.ntmps5
  go_wp2_with fail
  refine (mv_name _ _).mono ?_
  rintro r w1 ⟨rfl, hb1⟩
  go_wp2_with fail
  refine (HX.out _ _ (by have := HE.out w1; simpa using this)).mono ?_
  rintro r w2 ⟨A2, c2, rfl, h1, h2, h3, hb2⟩
  obtain ⟨b, o, rfl, hb, hcs⟩ := h3 (by simp)
  have d2 := (hcs 0 _ rfl).c2
  rw [Nat.zero_mul, Nat.add_zero] at d2
  have hw2 : Below w.heap.size w w2 := hb1.trans (((by (repeat (first | assumption | exact Below.refl _ _ | apply Below.drew | apply below_drewN | (refine Below.alloc ?_ (by first | exact Nat.le_refl _ | omega | (simp; done) | (simp; omega)) _))) : Below w1.heap.size w1 _).trans (hb2.mono (by simp))).mono hb1.size)
  have t0 := errV_zero
  clear hb1 hb2 hcs h3
  simp only [t0]
  go_wp2_with fail
  go_ret
  exact ⟨rfl, hw2⟩
end Go.Proofs.YtnhcjpmamgdeoaaGreatDoor
