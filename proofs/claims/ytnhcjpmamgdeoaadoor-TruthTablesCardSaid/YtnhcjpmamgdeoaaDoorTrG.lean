/-
  THE WALKS: truth.Ones, truth.Alike.
-/
import Derived.Test.YtnhcjpmamgdeoaaDoorTrE
import Derived.Test.YtnhcjpmamgdeoaaDoorTrF
namespace Go.Proofs.YtnhcjpmamgdeoaaDoor
open Go.RowKit Go.Sort Go.Shelf

theorem tableP_le (e : List Nd) (ss : List (List UInt8)) : (tableP e ss).1.length ≤ 64 := by
  unfold tableP
  split
  · simp
  · rename_i h
    have h1 := (atoms_ok.1 (frm_ok.1 (by simpa using h)).2).1
    show (tabB (evL e) ss).length ≤ 64
    rw [tabB_len]
    exact Nat.pow_le_pow_right (by omega) h1
theorem ones_step {t : List Bool} {k : Nat} {b : Bool} (h : t[k]? = some b) : onesL (t.take (k + 1)) = onesL (t.take k) + if b = true then 1 else 0 := by
  unfold onesL
  rw [List.take_add_one, h, List.count_append]
  cases b <;> rfl
theorem ones_le (t : List Bool) (k : Nat) : onesL (t.take k) ≤ k := Nat.le_trans List.count_le_length (List.length_take_le _ _)
set_option maxRecDepth 100000 in
set_option maxHeartbeats 3200000 in
theorem truth_Ones (e : List Nd) (A : Option Addr) (c : Nat) (ss : List (List UInt8)) (An : Option Addr) (cn : Nat) (w : World) (hc : e.length ≤ c) (hcm : c ≤ 9223372036854775807) (hok : NdOk e) (hsl : NdSl w w.heap.size A e) (hss : StrSl w w.heap.size An ss) (hn : ss.length ≤ cn) (hcn : cn ≤ 9223372036854775807) :
    Calls Tryd.prog 13 #[.slice A e.length c, .slice An ss.length cn] w fun r w' => r = .returned (.tuple #[.int .i64 (onesP e ss : Nat), errV (frmErr e ss)]) ∧ RowKit.Below w.heap.size w w' := by
  have HT := Lib.hid (truth_Table e A c ss An cn w hc hcm hok hsl hss hn hcn)
  have hle := tableP_le e ss
  have HO : Hid (onesP e ss = onesL (tableP e ss).1) := rfl
  rw [HO.out]
  clear hc hok hsl hss HO
  generalize (tableP e ss).1 = t at HT hle ⊢
  generalize frmErr e ss = k at HT ⊢
  go_enter Tryd.func13, Tryd.ntmps13
  go_wp2_with fail
  refine HT.out.mono ?_
  rintro r w1 ⟨A1, c1, rfl, h1, h2, h3, hb1⟩
  have HS := Lib.hid h3
  clear h3 h1
  go_wp2_with fail
  go_loop [19, 8] (fun kk nn => ∃ (j : Nat) (m : Nat), kk = .int .i64 j ∧ nn = .int .i64 m ∧ j ≤ t.length ∧ m ≤ j ∧ Hid (m = onesL (t.take j))) (fun kk _ => t.length - (intOf kk).toNat)
  case atStart => exact ⟨0, 0, rfl, rfl, by omega, by omega, rfl⟩
  case round =>
    obtain ⟨j, m, rfl, rfl, hj, hm, HM⟩ := hrel
    by_cases hlt : j < t.length
    · obtain ⟨x, hx⟩ : ∃ x, t[j]? = some x := ⟨_, List.getElem?_eq_getElem hlt⟩
      obtain ⟨b, o, rfl, hb, d0⟩ := boSl_at HS.out hx
      have HST := Lib.hid (ones_step hx)
      clear hx
      cases x
      · have HM2 : Hid (m = onesL (t.take (j + 1))) := by show _ = _; rw [HST.out, HM.out]; rfl
        go_wp2_with fail
        exact ⟨⟨j + 1, m, by go_num, rfl, by omega, by omega, HM2⟩, by simp [intOf]; omega⟩
      · have HM2 : Hid (m + 1 = onesL (t.take (j + 1))) := by show _ = _; rw [HST.out, HM.out]; rfl
        go_wp2_with fail
        exact ⟨⟨j + 1, m + 1, by go_num, by go_num, by omega, by omega, HM2⟩, by simp [intOf]; omega⟩
    · have HE : Hid (m = onesL t) := by
        have := HM.out
        rw [List.take_of_length_le (by omega)] at this
        exact this
      go_wp2_with fail
      go_ret2
      rw [← HE.out]
      exact ⟨rfl, hb1⟩
set_option maxRecDepth 100000 in
set_option maxHeartbeats 6400000 in
theorem truth_Alike (a b : List Nd) (A : Option Addr) (c : Nat) (B : Option Addr) (d : Nat) (ss : List (List UInt8)) (An : Option Addr) (cn : Nat) (w : World)
    (hc : a.length ≤ c) (hcm : c ≤ 9223372036854775807) (hok : NdOk a) (hsl : NdSl w w.heap.size A a) (hd : b.length ≤ d) (hdm : d ≤ 9223372036854775807) (hokb : NdOk b) (hslb : NdSl w w.heap.size B b)
    (hss : StrSl w w.heap.size An ss) (hn : ss.length ≤ cn) (hcn : cn ≤ 9223372036854775807) :
    Calls Tryd.prog 16 #[.slice A a.length c, .slice B b.length d, .slice An ss.length cn] w fun r w' => r = .returned (.tuple #[.bool (alikeB a b ss), errV (alikeErr a b ss)]) ∧ RowKit.Below w.heap.size w w' := by
  have HC := Lib.hid (truth_check a A c w hc hcm hok hsl)
  have HD := Lib.hid (fun W (hW : RowKit.Below w.heap.size w W) => truth_check b B d W hd hdm hokb ((hslb.below hW).more hW.size))
  by_cases ha : treeErr a = 0
  · rw [ha] at HC
    by_cases hb : treeErr b = 0
    · rw [hb] at HD
      have la := tree_len ha
      have lb := tree_len hb
      have nea : a ≠ [] := by intro h; rw [h] at la; simp at la
      have neb : b ≠ [] := by intro h; rw [h] at lb; simp at lb
      have ga : NsGood w w.heap.size ⟨A, c, a⟩ := ⟨hsl, hc, hcm⟩
      have gb : NsGood w w.heap.size ⟨B, d, b⟩ := ⟨hslb, hd, hdm⟩
      have HCC : Hid (∀ W, RowKit.Below w.heap.size w W → Calls Tryd.prog 29 #[.slice (some ⟨W.heap.size, 0, none⟩) 2 2] (W.alloc (.cells #[.slice A a.length c, .slice B b.length d] 22)) fun r w' => NdsNew W r w' (a ++ b)) := by
        intro W hW
        have hcat : catN [⟨A, c, a⟩, ⟨B, d, b⟩] = a ++ b := by simp [catN]
        have hal : RowKit.Below W.heap.size W (W.alloc (.cells #[.slice A a.length c, .slice B b.length d] 22)) := by (repeat (first | assumption | exact Below.refl _ _ | apply Below.drew | apply below_drewN | (refine Below.alloc ?_ (by first | exact Nat.le_refl _ | omega | (simp; done) | (simp; omega)) _)))
        have hg : ∀ x ∈ ([⟨A, c, a⟩, ⟨B, d, b⟩] : List NsM), NsGood W W.heap.size x := by
          intro x hx
          simp only [List.mem_cons, List.not_mem_nil, or_false] at hx
          rcases hx with rfl | rfl
          · exact ga.later hW
          · exact gb.later hW
        have h := concat_nodes [⟨A, c, a⟩, ⟨B, d, b⟩] (some ⟨W.heap.size, 0, none⟩) 2 (W.alloc (.cells #[.slice A a.length c, .slice B b.length d] 22))
          ⟨(new_SlG ns_ok W 22 [⟨A, c, a⟩, ⟨B, d, b⟩] #[.slice A a.length c, .slice B b.length d] rfl).more (by simp), fun x hx => (hg x hx).later hal⟩
          (by simpa using ⟨nea, neb⟩) (by rw [hcat, List.length_append]; omega) (by simp)
        rw [hcat] at h
        refine h.mono ?_
        rintro r w' ⟨A', c', h1, h2, h3, h4, h5, h6⟩
        exact ⟨A', c', h1, h2, h3, h4, hal.trans (h5.mono hal.size), fun b o e => by have := h6 b o e; simp at this; omega⟩
      have HA := Lib.hid (fun W A' c' (hW : RowKit.Below w.heap.size w W) (hs : NdSl W W.heap.size A' (a ++ b)) => truth_atoms (a ++ b) A' c' ss An cn W (by rw [List.length_append]; omega) hs ((hss.below hW).more hW.size) hn hcn)
      have HAE : Hid (alikeErr a b ss = atomsErr (a ++ b) ss) := by show _ = _; unfold alikeErr; rw [if_neg (by simp [ha]), if_neg (by simp [hb])]
      by_cases he : atomsErr (a ++ b) ss = 0
      · rw [he] at HA
        have h1 := atoms_append.1 he
        obtain ⟨f, hf, hfe⟩ := frm_fm (frm_ok.2 ⟨ha, h1.1⟩)
        obtain ⟨g, hg, hge⟩ := frm_fm (frm_ok.2 ⟨hb, h1.2⟩)
        have h6 := (atoms_ok.1 h1.1).1
        have HR := Lib.hid (fun W (hW : RowKit.Below w.heap.size w W) => rows_collect A a c An ss cn f hf hfe h6 hc hcm hcn W ((hsl.below hW).more hW.size) ((hss.below hW).more hW.size))
        have HR2 := Lib.hid (fun W (hW : RowKit.Below w.heap.size w W) => rows_collect B b d An ss cn g hg hge h6 hd hdm hcn W ((hslb.below hW).more hW.size) ((hss.below hW).more hW.size))
        have HV : Hid (alikeB a b ss = (tabB (evL a) ss == tabB (evL b) ss)) := by show _ = _; unfold alikeB; rw [if_neg (by rw [HAE.out, he]; simp)]
        have l1 : (tabB (evL a) ss).length ≤ 64 := by rw [tabB_len]; exact Nat.pow_le_pow_right (by omega) h6
        have l2 : (tabB (evL b) ss).length ≤ 64 := by rw [tabB_len]; exact Nat.pow_le_pow_right (by omega) h6
        rw [HV.out, HAE.out, he]
        clear ha hb he h1 hf hfe hg hge h6 hc hd hok hokb hsl hslb hss HV HAE ga gb nea neb la lb
        have HLEN : Hid ((a ++ b).length = a.length + b.length) := List.length_append
        rw [HLEN.out] at HA
        generalize tabB (evL a) ss = T at HR l1 ⊢
        generalize tabB (evL b) ss = U at HR2 l2 ⊢
        go_enter Tryd.func16, Tryd.ntmps16
        go_wp2_with fail
        refine HC.out.mono ?_
        rintro r w1 ⟨rfl, hb1⟩
        have t0 := errV_zero
        go_wp2_with fail
        refine (HD.out _ hb1).mono ?_
        rintro r w2 ⟨rfl, hb2⟩
        have hw2 := hb1.trans (hb2.mono hb1.size)
        clear hb1 hb2
        go_wp2_with fail
        refine (HCC.out _ hw2).mono ?_
        rintro r w3 ⟨A3, c3, rfl, h31, h32, h33, h34, -⟩
        have hw3 := hw2.trans (h34.mono hw2.size)
        have HS3 := Lib.hid h33
        rw [HLEN.out] at h31 ⊢
        clear h33 h34
        go_wp2_with fail
        refine (HA.out _ A3 c3 hw3 HS3.out).mono ?_
        rintro r w4 ⟨rfl, hb4⟩
        have hw4 := hw3.trans (hb4.mono hw3.size)
        clear hb4
        go_wp2_with fail
        refine (truth_rows A a.length c An ss.length cn w4).mono ?_
        rintro r w5 ⟨rfl, rfl⟩
        go_wp2_with fail
        refine (HR.out _ hw4).mono ?_
        rintro r w6 ⟨A6, c6, rfl, h61, h62, h63, h64⟩
        have hw6 := hw4.trans (h64.mono hw4.size)
        have HS6 := Lib.hid h63
        clear h63 h64 h61
        go_wp2_with fail
        refine (truth_rows B b.length d An ss.length cn w6).mono ?_
        rintro r w7 ⟨rfl, rfl⟩
        go_wp2_with fail
        refine (HR2.out _ hw6).mono ?_
        rintro r w8 ⟨A8, c8, rfl, h81, h82, h83, h84⟩
        have hw8 := hw6.trans (h84.mono hw6.size)
        have HS8 := Lib.hid h83
        have HS6b := Lib.hid ((HS6.out.below h84).more h84.size)
        clear h83 h84 h81
        go_wp2_with fail
        refine (equal_bools T U A6 A8 c6 c8 w8 HS6b.out HS8.out (by omega) (by omega)).mono ?_
        rintro r w9 ⟨rfl, hb9⟩
        go_wp2_with fail
        go_ret2
        exact ⟨rfl, hw8.trans (hb9.mono hw8.size)⟩
      · have HV : Hid (alikeB a b ss = false) := by show _ = _; unfold alikeB; rw [if_pos (by rw [HAE.out]; exact he)]
        have tk : (atomsErr (a ++ b) ss != 0) = true := by simp [he]
        rw [HV.out, HAE.out]
        clear ha hb he hc hd hok hokb hsl hslb hss HV HAE ga gb nea neb la lb
        have HLEN : Hid ((a ++ b).length = a.length + b.length) := List.length_append
        rw [HLEN.out] at HA
        generalize atomsErr (a ++ b) ss = k at HA tk ⊢
        go_enter Tryd.func16, Tryd.ntmps16
        go_wp2_with fail
        refine HC.out.mono ?_
        rintro r w1 ⟨rfl, hb1⟩
        have t0 := errV_zero
        go_wp2_with fail
        refine (HD.out _ hb1).mono ?_
        rintro r w2 ⟨rfl, hb2⟩
        have hw2 := hb1.trans (hb2.mono hb1.size)
        clear hb1 hb2
        go_wp2_with fail
        refine (HCC.out _ hw2).mono ?_
        rintro r w3 ⟨A3, c3, rfl, h31, h32, h33, h34, -⟩
        have hw3 := hw2.trans (h34.mono hw2.size)
        have HS3 := Lib.hid h33
        rw [HLEN.out] at h31 ⊢
        clear h33 h34
        go_wp2_with fail
        refine (HA.out _ A3 c3 hw3 HS3.out).mono ?_
        rintro r w4 ⟨rfl, hb4⟩
        have hw4 := hw3.trans (hb4.mono hw3.size)
        clear hb4
        go_wp2_with fail
        go_ret2
        exact ⟨rfl, hw4⟩
    · have HAE : Hid (alikeErr a b ss = treeErr b) := by show _ = _; unfold alikeErr; rw [if_neg (by simp [ha]), if_pos hb]
      have HV : Hid (alikeB a b ss = false) := by show _ = _; unfold alikeB; rw [if_pos (by rw [HAE.out]; exact hb)]
      have tk : (treeErr b != 0) = true := by simp [hb]
      rw [HV.out, HAE.out]
      clear ha hb hc hd hok hokb hsl hslb hss HV HAE
      generalize treeErr b = k at HD tk ⊢
      go_enter Tryd.func16, Tryd.ntmps16
      go_wp2_with fail
      refine HC.out.mono ?_
      rintro r w1 ⟨rfl, hb1⟩
      have t0 := errV_zero
      go_wp2_with fail
      refine (HD.out _ hb1).mono ?_
      rintro r w2 ⟨rfl, hb2⟩
      have hw2 := hb1.trans (hb2.mono hb1.size)
      clear hb1 hb2
      go_wp2_with fail
      go_ret2
      exact ⟨rfl, hw2⟩
  · have HAE : Hid (alikeErr a b ss = treeErr a) := by show _ = _; unfold alikeErr; rw [if_pos ha]
    have HV : Hid (alikeB a b ss = false) := by show _ = _; unfold alikeB; rw [if_pos (by rw [HAE.out]; exact ha)]
    have tk : (treeErr a != 0) = true := by simp [ha]
    rw [HV.out, HAE.out]
    clear ha hc hd hok hokb hsl hslb hss HV HAE
    generalize treeErr a = k at HC tk ⊢
    go_enter Tryd.func16, Tryd.ntmps16
    go_wp2_with fail
    refine HC.out.mono ?_
    rintro r w1 ⟨rfl, hb1⟩
    go_wp2_with fail
    go_ret2
    exact ⟨rfl, hb1⟩
end Go.Proofs.YtnhcjpmamgdeoaaDoor
