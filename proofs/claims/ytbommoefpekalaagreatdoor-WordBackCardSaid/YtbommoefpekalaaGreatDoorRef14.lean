/-
  THE WALKS of the reference: Spelt.
-/
import Derived.Test.YtbommoefpekalaaGreatDoorRef13
import Derived.BigQuiet
import Derived.Test.YtbommoefpekalaaGreatDoorSpell1
namespace Go.Proofs.YtbommoefpekalaaGreatDoor
open Go.RowKit

/-- What Spelt hands back: whether it is spelt; and if so, its text. -/
def SptPost (x : Tk) (w : World) (e : Ending) (w' : World) : Prop :=
  ∃ tx : List UInt8, e = .returned (.tuple #[encStr tx, .bool (speltP x).2]) ∧ ((speltP x).2 = true → tx = (speltP x).1) ∧ Below w.heap.size w w'
set_option maxRecDepth 100000 in
set_option maxHeartbeats 1600000 in
theorem r2_Spelt3 (x : Tk) (w : World) (hx : x.s.size ≤ 140737488351232) (h3 : x.kind = 3) :
    Calls Tryz.prog 26 #[.agg #[.int .i64 x.kind, .string x.s, .int .i64 x.at_]] w (SptPost x w) := by
  have t3 : (x.kind == 3) = true := by simp [h3]
  have hv := speltP_text h3
  have HV : Hid ((speltP x).2 = (textErr x.s.toList == 0)) := by
    show _ = _
    rw [hv]
    by_cases h : textErr x.s.toList = 0 <;> simp [h]
  have HT : Hid ((speltP x).2 = true → 34 :: (escP x.s.toList ++ [34]) = (speltP x).1) := by
    intro h
    rw [hv] at h ⊢
    by_cases h0 : textErr x.s.toList = 0
    · rw [if_pos h0, quoteV, if_pos h0]
    · rw [if_neg h0] at h; cases h
  have HQ := Lib.hid (fun W => (r1_Quoted x.s W hx).mono fun _ _ h => (⟨h.1, h.2.symm⟩ : _ ∧ _ = W))
  have HF := Lib.hid (fun W => (r1_TextFault x.s W hx).mono fun _ _ h => (⟨h.1, h.2.symm⟩ : _ ∧ _ = W))
  clear hv h3
  go_enter Tryz.func26, Tryz.ntmps26
  go_wp2_with fail
  go_quiet ((first | (go_at_call 55; exact Calls.quiet_of_same (HQ.out _)) | (go_at_call 56; exact Calls.quiet_of_same (HF.out _))))
  go_wp2_with fail
  refine bodyPost_ret (results_tmp2 rfl _ _ _) rfl ?_
  exact ⟨_, by rw [HV.out]; rfl, HT.out, by (repeat (first | assumption | exact Below.refl _ _ | apply Below.drew | apply below_drewN | (refine Below.alloc ?_ (by first | exact Nat.le_refl _ | omega | (simp; done) | (simp; omega)) _)))⟩
theorem slot_text (s : ByteArray) : (⟨#[63]⟩ : ByteArray) ++ s = bsOf (63 :: s.toList) := by
  apply ByteArray.ext
  rw [ByteArray.data_append, ByteArray.toList_eq]
  show _ = (63 :: s.data.toList).toArray
  apply Array.toList_inj.1
  simp
set_option maxRecDepth 100000 in
set_option maxHeartbeats 1600000 in
theorem r2_Spelt4 (x : Tk) (w : World) (hx : x.s.size ≤ 140737488351232) (h4 : x.kind = 4) :
    Calls Tryz.prog 26 #[.agg #[.int .i64 x.kind, .string x.s, .int .i64 x.at_]] w (SptPost x w) := by
  have h3 : ¬ x.kind = 3 := by omega
  have t3 : (x.kind == 3) = false := by simp [h3]
  have t4 : (x.kind == 4) = true := by simp [h4]
  have hv := speltP_slot h4
  have HV : Hid ((speltP x).2 = (nameErr x.s.toList == 0)) := by
    show _ = _
    rw [hv]; rw [Bool.eq_iff_iff]; simp
  have HT : Hid ((speltP x).2 = true → 63 :: x.s.toList = (speltP x).1) := by
    intro h
    rw [speltP_fst h, speltT, if_neg h3, if_pos h4]
  have HF := Lib.hid (fun W => (r1_NameFault x.s W hx).mono fun _ _ h => (⟨h.1, h.2.symm⟩ : _ ∧ _ = W))
  clear hv h3 h4
  go_enter Tryz.func26, Tryz.ntmps26
  go_wp2_with fail
  go_quiet ((go_at_call 33; exact Calls.quiet_of_same (HF.out _)))
  go_wp2_with fail
  refine bodyPost_ret (results_tmp2 rfl _ _ _) rfl ?_
  exact ⟨63 :: x.s.toList, by rw [HV.out, encStr_bs, ← slot_text]; rfl, HT.out, by (repeat (first | assumption | exact Below.refl _ _ | apply Below.drew | apply below_drewN | (refine Below.alloc ?_ (by first | exact Nat.le_refl _ | omega | (simp; done) | (simp; omega)) _)))⟩
/-- The world behind the word: the box of it is known. -/
structure SwAt (x : Tk) (W w : World) : Prop where
  on : Below W.heap.size W w
  c0 : w.cell? ⟨W.heap.size, 0, none⟩ = some (.int .i64 x.kind)
  c1 : w.cell? ⟨W.heap.size, 1, none⟩ = some (.string x.s)
  lt : W.heap.size < w.heap.size
theorem SwAt.new (x : Tk) (W : World) : SwAt x W (W.alloc (.cells #[.int .i64 x.kind, .string x.s, .int .i64 x.at_] 28)) :=
  ⟨(Below.refl _ _).alloc (Nat.le_refl _) _, by rw [World.cell?_alloc_new]; rfl, by rw [World.cell?_alloc_new]; rfl, by simp⟩
theorem SwAt.later {x : Tk} {W w w' : World} (h : SwAt x W w) (hb : Below w.heap.size w w') : SwAt x W w' :=
  ⟨h.on.trans (hb.mono h.on.size), (hb.cell (p := ⟨W.heap.size, 0, none⟩) h.lt).trans h.c0, (hb.cell (p := ⟨W.heap.size, 1, none⟩) h.lt).trans h.c1, Nat.lt_of_lt_of_le h.lt hb.size⟩
set_option maxRecDepth 100000 in
set_option maxHeartbeats 3200000 in
theorem r2_Spelt0 (x : Tk) (w : World) (hx : x.s.size ≤ 140737488351232) (h3 : ¬ x.kind = 3) (h4 : ¬ x.kind = 4) :
    Calls Tryz.prog 26 #[.agg #[.int .i64 x.kind, .string x.s, .int .i64 x.at_]] w (SptPost x w) := by
  have t3 : (x.kind == 3) = false := by simp [h3]
  have t4 : (x.kind == 4) = false := by simp [h4]
  have hv := speltP_bare h3 h4
  have HT : Hid ((speltP x).2 = true → x.s.toList = (speltP x).1) := by
    intro h
    rw [speltP_fst h, speltT, if_neg h3, if_neg h4]
  clear h3 h4
  by_cases h0 : 0 < x.s.size
  · have hl0 : ((x.s.size : Int) == 0) = false := beq_eq_false_iff_ne.2 (by omega)
    obtain ⟨r, hs⟩ : ∃ r, x.s.toList = x.s[0] :: r := ⟨_, by have := toList_drop x.s 0 h0; rwa [List.drop_zero] at this⟩
    have hi0 := run_index_str x.s 0 h0
    by_cases e32 : x.s[0] = 32
    · have t32 : ((x.s[0].toNat : Int) == 32) = true := beq_lit e32
      have HV : Hid ((speltP x).2 = false) := by show _ = _; rw [hv, hs, e32]; rfl
      clear hv hs e32
      go_enter Tryz.func26, Tryz.ntmps26
      go_wp2_with fail
      refine bodyPost_ret (results_tmp2 rfl _ _ _) rfl ?_
      exact ⟨[], by rw [HV.out]; rfl, (by rw [HV.out]; intro h; cases h), by (repeat (first | assumption | exact Below.refl _ _ | apply Below.drew | apply below_drewN | (refine Below.alloc ?_ (by first | exact Nat.le_refl _ | omega | (simp; done) | (simp; omega)) _)))⟩
    · by_cases e34 : x.s[0] = 34
      · have t32 : ((x.s[0].toNat : Int) == 32) = false := bne_lit e32
        have t34 : ((x.s[0].toNat : Int) == 34) = true := beq_lit e34
        have HV : Hid ((speltP x).2 = false) := by show _ = _; rw [hv, hs, e34]; rfl
        clear hv hs e32 e34
        go_enter Tryz.func26, Tryz.ntmps26
        go_wp2_with fail
        refine bodyPost_ret (results_tmp2 rfl _ _ _) rfl ?_
        exact ⟨[], by rw [HV.out]; rfl, (by rw [HV.out]; intro h; cases h), by (repeat (first | assumption | exact Below.refl _ _ | apply Below.drew | apply below_drewN | (refine Below.alloc ?_ (by first | exact Nat.le_refl _ | omega | (simp; done) | (simp; omega)) _)))⟩
      · by_cases e63 : x.s[0] = 63
        · have t32 : ((x.s[0].toNat : Int) == 32) = false := bne_lit e32
          have t34 : ((x.s[0].toNat : Int) == 34) = false := bne_lit e34
          have t63 : ((x.s[0].toNat : Int) == 63) = true := beq_lit e63
          have HV : Hid ((speltP x).2 = false) := by show _ = _; rw [hv, hs, e63]; rfl
          clear hv hs e32 e34 e63
          go_enter Tryz.func26, Tryz.ntmps26
          go_wp2_with fail
          refine bodyPost_ret (results_tmp2 rfl _ _ _) rfl ?_
          exact ⟨[], by rw [HV.out]; rfl, (by rw [HV.out]; intro h; cases h), by (repeat (first | assumption | exact Below.refl _ _ | apply Below.drew | apply below_drewN | (refine Below.alloc ?_ (by first | exact Nat.le_refl _ | omega | (simp; done) | (simp; omega)) _)))⟩
        · have t32 : ((x.s[0].toNat : Int) == 32) = false := bne_lit e32
          have t34 : ((x.s[0].toNat : Int) == 34) = false := bne_lit e34
          have t63 : ((x.s[0].toNat : Int) == 63) = false := bne_lit e63
          have hbare : bareP x.kind x.s.toList = (match wordP x.s.toList with
              | .ok k t n => decide (n = x.s.toList.length) && decide (k = x.kind) && decide (t = x.s.toList)
              | .bad _ => false) := by
            have c1 : (x.s[0] == 32) = false := by simpa using e32
            have c2 : (x.s[0] == 34) = false := by simpa using e34
            have c3 : (x.s[0] == 63) = false := by simpa using e63
            rw [hs, bareP, c1, c2, c3]; rfl
          rw [hbare] at hv
          have HWD := Lib.hid (fun W => r2_Word x.s 0 W hx h0)
          simp only [List.drop_zero] at HWD
          obtain ⟨q, hq⟩ : ∃ q, wordP x.s.toList = q := ⟨_, rfl⟩
          rw [hq] at hv HWD
          cases q with
          | bad k =>
            have hk : ¬ k = 0 := fun e => wordP_ne0 (e ▸ hq)
            have tk : (k == 0) = false := by simp [hk]
            have HV : Hid ((speltP x).2 = false) := hv
            clear hv hs e32 e34 e63 hbare hq hk
            go_enter Tryz.func26, Tryz.ntmps26
            go_wp2_with fail
            have hsw := SwAt.new x w
            refine Calls.mono (HWD.out _) ?_
            rintro e w1 ⟨he, hb1⟩
            have he : e = .returned (.tuple #[.agg #[.int .i64 0, .string ⟨#[]⟩, .int .i64 0], .int .i64 0, .int .i64 k]) := he
            subst he
            have hsw1 := hsw.later hb1
            clear hsw hb1
            obtain ⟨hon, d0, d1, hlt⟩ := hsw1
            go_wp2_with fail
            go_quiet (fail)
            go_wp2_with fail
            refine bodyPost_ret (results_tmp2 rfl _ _ _) rfl ?_
            exact ⟨x.s.toList, by rw [HV.out, encStr_of]; rfl, HT.out, below_drewN (hon.alloc hon.size _) _⟩
          | ok k t n =>
            have hlen := toList_len x.s
            by_cases n1 : n = x.s.size
            · have tn : ((n : Int) == (x.s.size : Int)) = true := beq_iff_eq.2 (by omega)
              by_cases n2 : k = x.kind
              · have tk : (k == x.kind) = true := beq_iff_eq.2 n2
                by_cases n3 : t = x.s.toList
                · have tt : ((bsOf t).toList == x.s.toList) = true := by rw [bsOf_list]; exact beq_iff_eq.2 n3
                  have HV : Hid ((speltP x).2 = true) := by show _ = _; rw [hv]; simp [n1, n2, n3, hlen]
                  clear hv hs e32 e34 e63 hbare hq n1 n2 n3 hlen
                  go_enter Tryz.func26, Tryz.ntmps26
                  go_wp2_with fail
                  have hsw := SwAt.new x w
                  refine Calls.mono (HWD.out _) ?_
                  rintro e w1 ⟨he, hb1⟩
                  have he : e = .returned (.tuple #[.agg #[.int .i64 k, .string (bsOf t), .int .i64 0], .int .i64 (0 + n), .int .i64 0]) := he
                  rw [Int.zero_add] at he
                  subst he
                  have hsw1 := hsw.later hb1
                  clear hsw hb1
                  obtain ⟨hon, d0, d1, hlt⟩ := hsw1
                  go_wp2_with fail
                  go_quiet (fail)
                  go_wp2_with fail
                  refine bodyPost_ret (results_tmp2 rfl _ _ _) rfl ?_
                  exact ⟨x.s.toList, by rw [HV.out, encStr_of]; rfl, HT.out, below_drewN (hon.alloc hon.size _) _⟩
                · have tt : ((bsOf t).toList == x.s.toList) = false := by rw [bsOf_list]; exact beq_eq_false_iff_ne.2 n3
                  have HV : Hid ((speltP x).2 = false) := by show _ = _; rw [hv]; simp [n3]
                  clear hv hs e32 e34 e63 hbare hq n1 n2 n3 hlen
                  go_enter Tryz.func26, Tryz.ntmps26
                  go_wp2_with fail
                  have hsw := SwAt.new x w
                  refine Calls.mono (HWD.out _) ?_
                  rintro e w1 ⟨he, hb1⟩
                  have he : e = .returned (.tuple #[.agg #[.int .i64 k, .string (bsOf t), .int .i64 0], .int .i64 (0 + n), .int .i64 0]) := he
                  rw [Int.zero_add] at he
                  subst he
                  have hsw1 := hsw.later hb1
                  clear hsw hb1
                  obtain ⟨hon, d0, d1, hlt⟩ := hsw1
                  go_wp2_with fail
                  go_quiet (fail)
                  go_wp2_with fail
                  refine bodyPost_ret (results_tmp2 rfl _ _ _) rfl ?_
                  exact ⟨x.s.toList, by rw [HV.out, encStr_of]; rfl, HT.out, below_drewN (hon.alloc hon.size _) _⟩
              · have tk : (k == x.kind) = false := beq_eq_false_iff_ne.2 n2
                have HV : Hid ((speltP x).2 = false) := by show _ = _; rw [hv]; simp [n2]
                clear hv hs e32 e34 e63 hbare hq n1 n2 hlen
                go_enter Tryz.func26, Tryz.ntmps26
                go_wp2_with fail
                have hsw := SwAt.new x w
                refine Calls.mono (HWD.out _) ?_
                rintro e w1 ⟨he, hb1⟩
                have he : e = .returned (.tuple #[.agg #[.int .i64 k, .string (bsOf t), .int .i64 0], .int .i64 (0 + n), .int .i64 0]) := he
                rw [Int.zero_add] at he
                subst he
                have hsw1 := hsw.later hb1
                clear hsw hb1
                obtain ⟨hon, d0, d1, hlt⟩ := hsw1
                go_wp2_with fail
                go_quiet (fail)
                go_wp2_with fail
                refine bodyPost_ret (results_tmp2 rfl _ _ _) rfl ?_
                exact ⟨x.s.toList, by rw [HV.out, encStr_of]; rfl, HT.out, below_drewN (hon.alloc hon.size _) _⟩
            · have tn : ((n : Int) == (x.s.size : Int)) = false := beq_eq_false_iff_ne.2 (by omega)
              have HV : Hid ((speltP x).2 = false) := by show _ = _; rw [hv]; simp [hlen, n1]
              clear hv hs e32 e34 e63 hbare hq n1 hlen
              go_enter Tryz.func26, Tryz.ntmps26
              go_wp2_with fail
              have hsw := SwAt.new x w
              refine Calls.mono (HWD.out _) ?_
              rintro e w1 ⟨he, hb1⟩
              have he : e = .returned (.tuple #[.agg #[.int .i64 k, .string (bsOf t), .int .i64 0], .int .i64 (0 + n), .int .i64 0]) := he
              rw [Int.zero_add] at he
              subst he
              have hsw1 := hsw.later hb1
              clear hsw hb1
              obtain ⟨hon, d0, d1, hlt⟩ := hsw1
              go_wp2_with fail
              go_quiet (fail)
              go_wp2_with fail
              refine bodyPost_ret (results_tmp2 rfl _ _ _) rfl ?_
              exact ⟨x.s.toList, by rw [HV.out, encStr_of]; rfl, HT.out, below_drewN (hon.alloc hon.size _) _⟩
  · have h00 : x.s.toList = [] := toList_nil h0
    have hl0 : ((x.s.size : Int) == 0) = true := beq_iff_eq.2 (by omega)
    have HV : Hid ((speltP x).2 = false) := by show _ = _; rw [hv, h00]; rfl
    clear hv h00
    go_enter Tryz.func26, Tryz.ntmps26
    go_wp2_with fail
    refine bodyPost_ret (results_tmp2 rfl _ _ _) rfl ?_
    exact ⟨[], by rw [HV.out]; rfl, (by rw [HV.out]; intro h; cases h), by (repeat (first | assumption | exact Below.refl _ _ | apply Below.drew | apply below_drewN | (refine Below.alloc ?_ (by first | exact Nat.le_refl _ | omega | (simp; done) | (simp; omega)) _)))⟩
theorem r2_Spelt (x : Tk) (w : World) (hx : x.s.size ≤ 140737488351232) :
    Calls Tryz.prog 26 #[.agg #[.int .i64 x.kind, .string x.s, .int .i64 x.at_]] w (SptPost x w) := by
  by_cases h3 : x.kind = 3
  · exact r2_Spelt3 x w hx h3
  · by_cases h4 : x.kind = 4
    · exact r2_Spelt4 x w hx h4
    · exact r2_Spelt0 x w hx h3 h4
end Go.Proofs.YtbommoefpekalaaGreatDoor
