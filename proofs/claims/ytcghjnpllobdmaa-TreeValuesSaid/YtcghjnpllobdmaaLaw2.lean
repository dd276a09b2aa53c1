/-
  THE WALK of the law TreeValues.
-/
import Derived.Test.YtcghjnpllobdmaaTree7
import Derived.Test.YtcghjnpllobdmaaLaw0
import Derived.Test.YtcghjnpllobdmaaGFacts
namespace Go.Proofs.Ytcghjnpllobdmaa
open Go.RowKit

set_option maxRecDepth 100000 in
set_option maxHeartbeats 4000000 in
theorem law_values (e v : List Nd) (s : ByteArray) (A Av : Option Addr) (c cv : Nat) (w : World) (hc : e.length ≤ c) (hcm : c ≤ 9223372036854775807) (hok : NdOk e) (hsl : NdSl w w.heap.size A e)
    (hcv : v.length ≤ cv) (hcvm : cv ≤ 9223372036854775807) (hokv : NdOk v) (hslv : NdSl w w.heap.size Av v) :
    Calls Try.prog 6 #[.slice A e.length c, .string s, .slice Av v.length cv] w fun r w' => r = .returned (.bool true) ∧ Below w.heap.size w w' := by
  have HS := Lib.hid hsl
  have HSV := Lib.hid hslv
  have HOK := Lib.hid hok
  have HOKV := Lib.hid hokv
  clear hsl hslv hok hokv
  go_enter Try.func6, Try.ntmps6
  go_wp2_with fail
  refine (law_name _ _).mono ?_
  rintro r w1 ⟨rfl, hb1⟩
  go_wp2_with fail
  have hw1 : Below w.heap.size w (w1.alloc (.cells #[.int .i64 9, .int .i64 0, .string ⟨#[]⟩, .string ⟨#[]⟩, .int .i64 8, .int .i64 0, .string ⟨#[97]⟩, .string ⟨#[]⟩] 28)) := hb1.alloc hb1.size _
  have hn1 := new_nodes w1 28 [⟨9, 0, ⟨#[]⟩, ⟨#[]⟩⟩, ⟨8, 0, ⟨#[97]⟩, ⟨#[]⟩⟩] _ rfl
  have hv := tree_Vars [⟨9, 0, ⟨#[]⟩, ⟨#[]⟩⟩, ⟨8, 0, ⟨#[97]⟩, ⟨#[]⟩⟩] (some ⟨w1.heap.size, 0, none⟩) 2 _ (by simp) (by omega) (ndok_small _ (by decide)) (hn1.more (by simp))
  rw [fact_values.1, fact_values.2] at hv
  refine Calls.mono hv ?_
  rintro r w2 ⟨A2, c2, rfl, _, _, hs2, hb2⟩
  have hw2 : Below w.heap.size w w2 := hw1.trans (hb2.mono hw1.size)
  clear hw1 hn1 hv hb1 hb2
  have HS2 := Lib.hid hs2
  clear hs2
  go_wp2_with fail
  have hw3 : Below w.heap.size w (w2.alloc (.cells #[.string ⟨#[97]⟩] 9)) := hw2.alloc hw2.size _
  have hn3 := new_strs w2 9 [[97]] _ rfl
  refine Calls.mono (same_Texts [[97]] A2 (some ⟨w2.heap.size, 0, none⟩) c2 1 _ ((HS2.out.below ((Below.refl _ _).alloc (Nat.le_refl _) _)).more (by simp)) (hn3.more (by simp)) (by simp)) ?_
  rintro r w4 ⟨rfl, hb4⟩
  have hw4 : Below w.heap.size w w4 := hw3.trans (hb4.mono hw3.size)
  clear hw2 hw3 hn3 hb4 HS2
  go_wp2_with fail
  have hck := val_Check e A c w4 hc hcm HOK.out ((HS.out.below hw4).more hw4.size)
  by_cases h0 : valErr e = 0
  · obtain ⟨he, hn⟩ := val_tree h0
    have hle := tree_len he
    rw [h0] at hck
    refine Calls.mono hck ?_
    rintro r w5 ⟨rfl, hb5⟩
    have hw5 : Below w.heap.size w w5 := hw4.trans (hb5.mono hw4.size)
    clear hck hw4 hb5 h0
    go_wp2_with fail
    have hv := tree_Vars e A c w5 hc hcm HOK.out ((HS.out.below hw5).more hw5.size)
    rw [he, varsR_none he hn] at hv
    refine Calls.mono hv ?_
    rintro r w6 ⟨A6, c6, rfl, _, _, _, hb6⟩
    have hw6 : Below w.heap.size w w6 := hw5.trans (hb6.mono hw5.size)
    have hpt := tree_Put e v s A Av c cv w6 hc hcm HOK.out ((HS.out.below hw6).more hw6.size) hcv hcvm HOKV.out ((HSV.out.below hw6).more hw6.size)
    rw [putV_none s he hn] at hpt
    have HPT := Lib.hid hpt
    clear hv hw5 hb6 he hn hpt
    go_wp2_with fail
    by_cases hv0 : treeErr v = 0
    · have hpt := HPT.out
      rw [if_neg (by simp [hv0])] at hpt
      refine Calls.mono hpt ?_
      rintro r w7 ⟨A7, c7, rfl, _, _, hs7, hb7⟩
      have hw7 : Below w.heap.size w w7 := hw6.trans (hb7.mono hw6.size)
      have HS7 := Lib.hid hs7
      clear hpt hw6 hb7 hs7 hv0
      go_wp2_with fail
      refine Calls.mono (same_Nodes e A7 A c7 c w7 HS7.out ((HS.out.below hw7).more hw7.size) (by omega)) ?_
      rintro r w8 ⟨rfl, hb8⟩
      go_wp2_with fail
      go_ret
      exact ⟨rfl, hw7.trans (hb8.mono hw7.size)⟩
    · have hpt := HPT.out
      rw [if_pos hv0] at hpt
      have hne : (treeErr v != 0) = true := by simp [hv0]
      have HNE := Lib.hid hne
      refine Calls.mono hpt ?_
      rintro r w7 ⟨A7, c7, rfl, _, _, hs7, hb7⟩
      have hw7 : Below w.heap.size w w7 := hw6.trans (hb7.mono hw6.size)
      clear hpt hw6 hb7 hs7 hv0
      go_wp2_with fail
      refine Calls.mono (tree_Check v Av cv w7 hcv hcvm HOKV.out ((HSV.out.below hw7).more hw7.size)) ?_
      rintro r w8 ⟨rfl, hb8⟩
      go_wp2_with fail
      go_ret
      exact ⟨rfl, hw7.trans (hb8.mono hw7.size)⟩
  · have hne : (valErr e != 0) = true := by simp [h0]
    refine Calls.mono hck ?_
    rintro r w5 ⟨rfl, hb5⟩
    have hw5 : Below w.heap.size w w5 := hw4.trans (hb5.mono hw4.size)
    clear hck hw4 hb5 h0
    go_wp2_with fail
    go_ret
    exact ⟨rfl, hw5⟩
end Go.Proofs.Ytcghjnpllobdmaa
