/-
  THE WALK of truth.Diagram.
-/
import Derived.Test.YtnhcjpmamgdeoaaDoorTrJ
namespace Go.Proofs.YtnhcjpmamgdeoaaDoor
set_option maxRecDepth 100000
open Go.RowKit Go.Sort Go.Maps

def diaR (e : List Nd) (ss : List (List UInt8)) : List Ce := if frmErr e ss = 0 then diaP ss.length (tableP e ss).1 else []
theorem row_sl {w : World} {base g n cap : Nat} {cs : List Ce} (h : w.ownsRow base 51 3 (.slice (some ⟨g, 0, none⟩) n cap) n (flatG ceC cs)) : n = cs.length ∧ n ≤ cap ∧ cap ≤ 9223372036854775807 ∧ CeSl w w.heap.size (some ⟨g, 0, none⟩) cs := by
  obtain ⟨h1, A, c, e, h2, h3, h4⟩ := own_formG ceC_ok h
  injection e with e1 e2 e3
  subst e1 e3
  exact ⟨h1, h2, h3, h4⟩
theorem dia_start (W : World) : DiaX W.heap.size (W.heap.size + 1 + 1) ceBase W.heap.size 2 (W.heap.size + 1) (.map [])
    (((W.alloc (.cells #[.int .i64 (-1), .int .i64 0, .int .i64 0, .int .i64 (-1), .int .i64 1, .int .i64 1] 51)).alloc (.map #[] 0)).alloc (.cells #[.slice (some ⟨W.heap.size, 0, none⟩) 2 2, .map (some (W.heap.size + 1))] 59)) := by
  have hm := World.ownsMap_made (H := Unit) (W.alloc (.cells #[.int .i64 (-1), .int .i64 0, .int .i64 0, .int .i64 (-1), .int .i64 1, .int .i64 1] 51)) Tryd.prog 51 (plainElem (H := Unit) Tryd.prog 3)
  have hr := World.ownsRow_lit (base := W.heap.size) (e := 51) (size := 3) W #[.int .i64 (-1), .int .i64 0, .int .i64 0, .int .i64 (-1), .int .i64 1, .int .i64 1] 2 (Nat.le_refl _) (by decide) rfl
  have hb := heap_alloc_new ((W.alloc (.cells #[.int .i64 (-1), .int .i64 0, .int .i64 0, .int .i64 (-1), .int .i64 1, .int .i64 1] 51)).alloc (.map #[] 0)) (.cells #[.slice (some ⟨W.heap.size, 0, none⟩) 2 2, .map (some (W.heap.size + 1))] 59)
  have hB : Blk (((W.alloc (.cells #[.int .i64 (-1), .int .i64 0, .int .i64 0, .int .i64 (-1), .int .i64 1, .int .i64 1] 51)).alloc (.map #[] 0)).alloc (.cells #[.slice (some ⟨W.heap.size, 0, none⟩) 2 2, .map (some (W.heap.size + 1))] 59)) (W.heap.size + 1 + 1) 59 #[.slice (some ⟨W.heap.size, 0, none⟩) 2 2, .map (some (W.heap.size + 1))] := by simpa [Blk] using hb
  refine ⟨hB.cell 0, hB.cell 1, hB, (hr.alloc _).alloc _, ?_, mapOk_base, by omega, by omega, by omega, by omega, by omega⟩
  have := (hm.alloc (.cells #[.slice (some ⟨W.heap.size, 0, none⟩) 2 2, .map (some (W.heap.size + 1))] 59)).mono (n' := ceBase.length) (Nat.zero_le _)
  rw [World.size_alloc] at this
  exact this
/-- Cells, and the number of what is wrong. -/
def CesBack (w : World) (r : Ending) (w' : World) (xs : List Ce) (k : Int) : Prop :=
  ∃ A c, r = .returned (.tuple #[.slice A xs.length c, errV k]) ∧ xs.length ≤ c ∧ c ≤ 9223372036854775807 ∧ CeSl w' w'.heap.size A xs ∧ RowKit.Below w.heap.size w w'
set_option maxHeartbeats 6400000 in
theorem truth_Diagram (e : List Nd) (A : Option Addr) (c : Nat) (ss : List (List UInt8)) (An : Option Addr) (cn : Nat) (w : World) (hc : e.length ≤ c) (hcm : c ≤ 9223372036854775807) (hok : NdOk e) (hsl : NdSl w w.heap.size A e) (hss : StrSl w w.heap.size An ss) (hn : ss.length ≤ cn) (hcn : cn ≤ 9223372036854775807) :
    Calls Tryd.prog 9 #[.slice A e.length c, .slice An ss.length cn] w fun r w' => CesBack w r w' (diaR e ss) (frmErr e ss) := by
  obtain ⟨i0, hi0, hz0, hz1, hz2⟩ := info_parts ce_info
  have HT := Lib.hid (truth_Table e A c ss An cn w hc hcm hok hsl hss hn hcn)
  by_cases hk : frmErr e ss = 0
  · have h6 : ss.length ≤ 6 := (atoms_ok.1 (frm_ok.1 hk).2).1
    have hR : diaR e ss = diaP ss.length (tableP e ss).1 := by unfold diaR; rw [if_pos hk]
    have hT : (tableP e ss).1.length = 2 ^ ss.length := by unfold tableP; rw [if_neg (by simp [hk])]; exact tabB_len _ _
    rw [hR, hk]
    rw [hk] at HT
    generalize (tableP e ss).1 = t at HT hT ⊢
    clear hR hc hok hsl hss hk
    have n1 := dOf_len ss.length ceBase t 0 (by simp [ceBase])
    have hp : 2 ^ ss.length ≤ 64 := Nat.pow_le_pow_right (by omega) h6
    have HO := Lib.hid (fun base db b o c1 W (h1 : t.length ≤ c1) (h2 : c1 ≤ 9223372036854775807) (h3 : BoSl W base (some ⟨b, o, none⟩) t) (h4 : DiaAt base db ceBase W) (h5 : base ≤ W.heap.size) => dia_of base db ss.length ceBase t b o c1 0 W h6 hT h1 h2 h3 h4 (by simp [ceBase]) (by simp [ceBase]; omega) (by omega) (by omega) h5)
    have hne : t ≠ [] := by intro h; rw [h] at hT; have := Nat.two_pow_pos ss.length; simp at hT; omega
    have HNE := Lib.hid hne
    have hc2 : ceBase.length = 2 := rfl
    unfold diaP
    generalize dOf ss.length ceBase t 0 = P at n1 HO ⊢
    obtain ⟨cs, i⟩ := P
    simp only at n1 HO ⊢
    clear hT h6 hne
    by_cases hi : i < 2
    · rw [if_pos hi]
      have t0 := errV_zero
      have hmm := @run_makeMap Tryd.prog
      go_enter Tryd.func9, Tryd.ntmps9
      go_wp2_with fail
      refine HT.out.mono ?_
      rintro r w1 ⟨A1, c1, rfl, h1, h2, h3, hb1⟩
      obtain ⟨b1, o1, rfl, hb1l, -⟩ := h3 HNE.out
      have HS := Lib.hid h3
      clear h3
      have HX0 := Lib.hid (dia_start w1)
      go_wp2_with fail
      rw [show w1.heap.size + 1 + 1 = w1.heap.size + 2 from rfl] at HX0
      have hbx : RowKit.Below w1.heap.size w1 (((w1.alloc (.cells #[.int .i64 (-1), .int .i64 0, .int .i64 0, .int .i64 (-1), .int .i64 1, .int .i64 1] 51)).alloc (.map #[] 0)).alloc (.cells #[.slice (some ⟨w1.heap.size, 0, none⟩) 2 2, .map (some (w1.heap.size + 1))] 59)) := by (repeat (first | assumption | exact Below.refl _ _ | apply Below.drew | apply below_drewN | (refine Below.alloc ?_ (by first | exact Nat.le_refl _ | omega | (simp; done) | (simp; omega)) _)))
      refine (HO.out w1.heap.size (w1.heap.size + 2) b1 o1 c1 _ h1 h2 (HS.out.below hbx) ⟨_, _, _, _, HX0.out⟩ hbx.size).mono ?_
      rintro r W ⟨rfl, hd, hb2⟩
      have hB := hb1.trans ((hbx.trans hb2).mono hb1.size)
      obtain ⟨g, cap, mb, D, hX⟩ := hd
      have HX := Lib.hid hX
      have lt := hX.lt
      have c0 := hX.c0
      have f0 := hX.f0.frozen 0
      have dg := hX.dg
      have hrow := hX.row
      clear hX hb2 hbx HX0
      have HSZ := Lib.hid lt
      have lt1 : w1.heap.size + 2 < W.heap.size := lt.1
      have lt2 : w1.heap.size ≤ W.heap.size := lt.2.2.2.2
      clear lt
      have KC : (W.alloc (.cells #[.int .i64 (-1), .int .i64 i, .int .i64 i] 51)).cell? ⟨w1.heap.size + 2, 0, none⟩ = some (.slice (some ⟨g, 0, none⟩) cs.length cap) := (World.cell?_alloc_lt W _ _ lt1).trans c0
      have KF : (W.alloc (.cells #[.int .i64 (-1), .int .i64 i, .int .i64 i] 51)).frozen? ⟨w1.heap.size + 2, 0, none⟩ = false := ((World.grownBy_alloc W (.cells #[.int .i64 (-1), .int .i64 i, .int .i64 i] 51) none).frozen_far ⟨w1.heap.size + 2, 0, none⟩ lt1 (by simp)).trans f0
      have HKC := Lib.hid KC
      have HKF := Lib.hid KF
      clear KC KF
      go_wp2_with (at_builtin; refine wpList_append_lies _ rfl (.tmp 34) (.tmp 38) 27 rfl w1.heap.size 51 i0 _ 3 24 Tryd.underlying27 hi0 hz0 hz1 hz2 rfl (by omega) (.slice (some ⟨g, 0, none⟩) cs.length cap) cs.length (flatG ceC cs) rfl (hrow.alloc _) ⟨W.heap.size, 0, none⟩ 1 1 [.int .i64 (-1), .int .i64 i, .int .i64 i] rfl rfl (World.news_of_block (cs := #[.int .i64 (-1), .int .i64 i, .int .i64 i]) (t := 51) (fr := (0, 0)) (heap_alloc_new W _)) (by simp [Value.oneCell']) (by omega) (by unfold maxLen; omega) (by omega) (by simp; omega) (W.heap.size + 1) (by simp) ?_; intro gg cap2 w5 hown1 hgrow hat hlt; have hf1 := (hgrow.frozen_far ⟨w1.heap.size + 2, 0, none⟩ (by simp; omega) (by simp [Value.ownBlock]; omega)).trans HKF.out; have hc1 := (hgrow.cell_far ⟨w1.heap.size + 2, 0, none⟩ (by simp; omega) (by simp [Value.ownBlock]; omega)).trans HKC.out)
      go_ret2
      have hg2 : (W.alloc (.cells #[.int .i64 (-1), .int .i64 i, .int .i64 i] 51)).drew.grownBy w5 (some g) := ⟨hgrow.os, hgrow.tape, hgrow.output, hgrow.size, hgrow.block⟩
      obtain ⟨_, p2, _, _, p5, _, _⟩ := dia_put HX.out (c := ⟨-1, i, i⟩) hown1 hg2 hat rfl
      obtain ⟨r1, r2, r3, r4⟩ := row_sl p2
      rw [show w1.heap.size + 2 = w1.heap.size + 1 + 1 from rfl] at p5 r4
      exact ⟨some ⟨gg, 0, none⟩, cap2, by rw [← r1]; rfl, by rw [← r1]; exact r2, r3, r4, hB.trans (p5.mono hb1.size)⟩
    · rw [if_neg hi]
      have t0 := errV_zero
      have hmm := @run_makeMap Tryd.prog
      go_enter Tryd.func9, Tryd.ntmps9
      go_wp2_with fail
      refine HT.out.mono ?_
      rintro r w1 ⟨A1, c1, rfl, h1, h2, h3, hb1⟩
      obtain ⟨b1, o1, rfl, hb1l, -⟩ := h3 HNE.out
      have HS := Lib.hid h3
      clear h3
      have HX0 := Lib.hid (dia_start w1)
      go_wp2_with fail
      rw [show w1.heap.size + 1 + 1 = w1.heap.size + 2 from rfl] at HX0
      have hbx : RowKit.Below w1.heap.size w1 (((w1.alloc (.cells #[.int .i64 (-1), .int .i64 0, .int .i64 0, .int .i64 (-1), .int .i64 1, .int .i64 1] 51)).alloc (.map #[] 0)).alloc (.cells #[.slice (some ⟨w1.heap.size, 0, none⟩) 2 2, .map (some (w1.heap.size + 1))] 59)) := by (repeat (first | assumption | exact Below.refl _ _ | apply Below.drew | apply below_drewN | (refine Below.alloc ?_ (by first | exact Nat.le_refl _ | omega | (simp; done) | (simp; omega)) _)))
      refine (HO.out w1.heap.size (w1.heap.size + 2) b1 o1 c1 _ h1 h2 (HS.out.below hbx) ⟨_, _, _, _, HX0.out⟩ hbx.size).mono ?_
      rintro r W ⟨rfl, hd, hb2⟩
      have hB := hb1.trans ((hbx.trans hb2).mono hb1.size)
      obtain ⟨g, cap, mb, D, hX⟩ := hd
      have HX := Lib.hid hX
      have lt := hX.lt
      have c0 := hX.c0
      have f0 := hX.f0.frozen 0
      have dg := hX.dg
      have hrow := hX.row
      clear hX hb2 hbx HX0
      go_wp2_with fail
      go_ret2
      obtain ⟨_, r2, r3, r4⟩ := row_sl HX.out.row
      exact ⟨_, _, rfl, r2, r3, r4, hB⟩
  · have hR : diaR e ss = [] := by unfold diaR; rw [if_neg hk]
    have tk : (frmErr e ss != 0) = true := by simp [hk]
    rw [hR]
    clear hok hsl hss hk hR
    generalize frmErr e ss = k at HT tk ⊢
    go_enter Tryd.func9, Tryd.ntmps9
    go_wp2_with fail
    refine HT.out.mono ?_
    rintro r w1 ⟨A1, c1, rfl, h1, h2, h3, hb1⟩
    clear h3
    go_wp2_with fail
    go_ret2
    exact ⟨none, 0, rfl, Nat.le_refl _, by omega, SlG.nil _ _ _, hb1⟩
end Go.Proofs.YtnhcjpmamgdeoaaDoor
