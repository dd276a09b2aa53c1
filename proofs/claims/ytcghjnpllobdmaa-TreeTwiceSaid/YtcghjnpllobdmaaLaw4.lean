/-
  THE WALK of the law TreeTwice.
-/
import Derived.Test.YtcghjnpllobdmaaLaw0
import Derived.Test.YtcghjnpllobdmaaGFacts2
namespace Go.Proofs.Ytcghjnpllobdmaa
open Go.RowKit

set_option maxRecDepth 100000 in
set_option maxHeartbeats 4000000 in
theorem law_twice (e v u : List Nd) (s t : ByteArray) (A Av Au : Option Addr) (c cv cu : Nat) (w : World) (hc : e.length ≤ c) (hcm : c ≤ 9223372036854775807) (hok : NdOk e) (hsl : NdSl w w.heap.size A e)
    (hcv : v.length ≤ cv) (hcvm : cv ≤ 9223372036854775807) (hokv : NdOk v) (hslv : NdSl w w.heap.size Av v)
    (hcu : u.length ≤ cu) (hcum : cu ≤ 9223372036854775807) (hoku : NdOk u) (hslu : NdSl w w.heap.size Au u) :
    Calls Try.prog 5 #[.slice A e.length c, .string s, .slice Av v.length cv, .string t, .slice Au u.length cu] w fun r w' => r = .returned (.bool true) ∧ Below w.heap.size w w' := by
  have HS := Lib.hid hsl
  have HSV := Lib.hid hslv
  have HSU := Lib.hid hslu
  have HOK := Lib.hid hok
  have HOKV := Lib.hid hokv
  have HOKU := Lib.hid hoku
  clear hsl hslv hok hokv hslu hoku
  go_enter Try.func5, Try.ntmps5
  go_wp2_with fail
  refine (law_name _ _).mono ?_
  rintro r w1 ⟨rfl, hb1⟩
  go_wp2_with fail
  have hw1 : Below w.heap.size w (w1.alloc (.cells #[.int .i64 9, .int .i64 0, .string ⟨#[]⟩, .string ⟨#[]⟩, .int .i64 8, .int .i64 0, .string ⟨#[97]⟩, .string ⟨#[]⟩] 28)) := hb1.alloc hb1.size _
  have hn1 : NdSl (w1.alloc (.cells #[.int .i64 9, .int .i64 0, .string ⟨#[]⟩, .string ⟨#[]⟩, .int .i64 8, .int .i64 0, .string ⟨#[97]⟩, .string ⟨#[]⟩] 28)) (w1.heap.size + 1) (some ⟨w1.heap.size, 0, none⟩) [⟨9, 0, ⟨#[]⟩, ⟨#[]⟩⟩, ⟨8, 0, ⟨#[97]⟩, ⟨#[]⟩⟩] := new_nodes w1 28 [⟨9, 0, ⟨#[]⟩, ⟨#[]⟩⟩, ⟨8, 0, ⟨#[97]⟩, ⟨#[]⟩⟩] _ rfl
  have hz1 : (w1.alloc (.cells #[.int .i64 9, .int .i64 0, .string ⟨#[]⟩, .string ⟨#[]⟩, .int .i64 8, .int .i64 0, .string ⟨#[97]⟩, .string ⟨#[]⟩] 28)).heap.size = w1.heap.size + 1 := by simp
  have HZ1 := Lib.hid hz1
  have HN1 := Lib.hid hn1
  clear hz1 hn1
  generalize (w1.alloc (.cells #[.int .i64 9, .int .i64 0, .string ⟨#[]⟩, .string ⟨#[]⟩, .int .i64 8, .int .i64 0, .string ⟨#[97]⟩, .string ⟨#[]⟩] 28)) = w2 at HN1 hw1 HZ1 ⊢
  rw [← HZ1.out] at HN1
  refine (law_name _ _).mono ?_
  rintro r w3 ⟨rfl, hb3⟩
  have hw3 : Below w.heap.size w w3 := hw1.trans (hb3.mono hw1.size)
  have HN3 := Lib.hid ((HN1.out.below hb3).more hb3.size)
  clear hw1 hb3 HN1
  go_wp2_with fail
  have hw4 : Below w.heap.size w (w3.alloc (.cells #[.int .i64 8, .int .i64 0, .string ⟨#[98]⟩, .string ⟨#[]⟩] 28)) := hw3.alloc hw3.size _
  have hn4 : NdSl (w3.alloc (.cells #[.int .i64 8, .int .i64 0, .string ⟨#[98]⟩, .string ⟨#[]⟩] 28)) (w3.heap.size + 1) (some ⟨w3.heap.size, 0, none⟩) [⟨8, 0, ⟨#[98]⟩, ⟨#[]⟩⟩] := new_nodes w3 28 [⟨8, 0, ⟨#[98]⟩, ⟨#[]⟩⟩] _ rfl
  have hput := tree_Put [⟨9, 0, ⟨#[]⟩, ⟨#[]⟩⟩, ⟨8, 0, ⟨#[97]⟩, ⟨#[]⟩⟩] [⟨8, 0, ⟨#[98]⟩, ⟨#[]⟩⟩] ⟨#[97]⟩ (some ⟨w1.heap.size, 0, none⟩) (some ⟨w3.heap.size, 0, none⟩) 2 1 _ (by simp) (by omega) (ndok_small _ (by decide)) ((HN3.out.below ((Below.refl _ _).alloc (Nat.le_refl _) _)).more (by simp)) (by simp) (by omega) (ndok_small _ (by decide)) (hn4.more (by simp))
  rw [fact_twice] at hput
  refine Calls.mono hput ?_
  rintro r w5 ⟨A5, c5, rfl, _, _, hs5, hb5⟩
  have hw5 : Below w.heap.size w w5 := hw4.trans (hb5.mono hw4.size)
  have HS5 := Lib.hid hs5
  clear hw3 hw4 hb5 hn4 hput HN3 HZ1 hs5
  go_wp2_with fail
  refine (law_name _ _).mono ?_
  rintro r w6 ⟨rfl, hb6⟩
  have hw6 : Below w.heap.size w w6 := hw5.trans (hb6.mono hw5.size)
  have HS6 := Lib.hid ((HS5.out.below hb6).more hb6.size)
  clear hw5 hb6 HS5
  go_wp2_with fail
  have hw7 : Below w.heap.size w (w6.alloc (.cells #[.int .i64 9, .int .i64 0, .string ⟨#[]⟩, .string ⟨#[]⟩, .int .i64 8, .int .i64 0, .string ⟨#[98]⟩, .string ⟨#[]⟩] 28)) := hw6.alloc hw6.size _
  have hn7 : NdSl (w6.alloc (.cells #[.int .i64 9, .int .i64 0, .string ⟨#[]⟩, .string ⟨#[]⟩, .int .i64 8, .int .i64 0, .string ⟨#[98]⟩, .string ⟨#[]⟩] 28)) (w6.heap.size + 1) (some ⟨w6.heap.size, 0, none⟩) [⟨9, 0, ⟨#[]⟩, ⟨#[]⟩⟩, ⟨8, 0, ⟨#[98]⟩, ⟨#[]⟩⟩] := new_nodes w6 28 [⟨9, 0, ⟨#[]⟩, ⟨#[]⟩⟩, ⟨8, 0, ⟨#[98]⟩, ⟨#[]⟩⟩] _ rfl
  refine Calls.mono (same_Nodes [⟨9, 0, ⟨#[]⟩, ⟨#[]⟩⟩, ⟨8, 0, ⟨#[98]⟩, ⟨#[]⟩⟩] A5 (some ⟨w6.heap.size, 0, none⟩) c5 2 _ ((HS6.out.below ((Below.refl _ _).alloc (Nat.le_refl _) _)).more (by simp)) (hn7.more (by simp)) (by simp)) ?_
  rintro r w8 ⟨rfl, hb8⟩
  have hw8 : Below w.heap.size w w8 := hw7.trans (hb8.mono hw7.size)
  clear hw6 hw7 hb8 hn7 HS6
  have HK : Hid (∀ (_ : (putV e s v).2 = 0) (_ : (putV (putV e s v).1 t u).2 = 0) (_ : (putV e t u).2 = 0) (_ : (putV v t u).2 = 0) (_ : (s.toList == t.toList) = false) (_ : (varsL u).contains s.toList = false), putV (putV e t u).1 s (putV v t u).1 = (putV (putV e s v).1 t u)) := twice_ok
  have HU : Hid ((putV e t u).2 = 0 → treeErr u = 0) := fun h => (put_ok h).2.1
  obtain ⟨x1, hx1⟩ : ∃ x, (putV e s v).1 = x := ⟨_, rfl⟩
  obtain ⟨k1, hk1⟩ : ∃ x, (putV e s v).2 = x := ⟨_, rfl⟩
  have hox1 : NdOk x1 := hx1 ▸ ndok_putV HOK.out HOKV.out s
  obtain ⟨x2, hx2⟩ : ∃ x, (putV x1 t u).1 = x := ⟨_, rfl⟩
  obtain ⟨k2, hk2⟩ : ∃ x, (putV x1 t u).2 = x := ⟨_, rfl⟩
  obtain ⟨x3, hx3⟩ : ∃ x, (putV e t u).1 = x := ⟨_, rfl⟩
  obtain ⟨k3, hk3⟩ : ∃ x, (putV e t u).2 = x := ⟨_, rfl⟩
  have hox3 : NdOk x3 := hx3 ▸ ndok_putV HOK.out HOKU.out t
  obtain ⟨x4, hx4⟩ : ∃ x, (putV v t u).1 = x := ⟨_, rfl⟩
  obtain ⟨k4, hk4⟩ : ∃ x, (putV v t u).2 = x := ⟨_, rfl⟩
  have hox4 : NdOk x4 := hx4 ▸ ndok_putV HOKV.out HOKU.out t
  have HOX1 := Lib.hid hox1
  have HOX3 := Lib.hid hox3
  have HOX4 := Lib.hid hox4
  have hput1 := tree_Put e v s A Av c cv w8 hc hcm HOK.out ((HS.out.below hw8).more hw8.size) hcv hcvm HOKV.out ((HSV.out.below hw8).more hw8.size)
  have HP2 : Hid (∀ (B : Option Addr) (d : Nat) (W : World), x1.length ≤ d → d ≤ 9223372036854775807 → Below w.heap.size w W → NdSl W W.heap.size B x1 → Calls Try.prog 7 #[.slice B x1.length d, .string t, .slice Au u.length cu] W fun r w' => NdsBack W r w' x2 k2) := fun B d W hd hdm hW hB => by
    have := tree_Put x1 u t B Au d cu W hd hdm hox1 hB hcu hcum HOKU.out ((HSU.out.below hW).more hW.size)
    rw [hx2, hk2] at this; exact this
  have HP3 : Hid (∀ (W : World), Below w.heap.size w W → Calls Try.prog 7 #[.slice A e.length c, .string t, .slice Au u.length cu] W fun r w' => NdsBack W r w' x3 k3) := fun W hW => by
    have := tree_Put e u t A Au c cu W hc hcm HOK.out ((HS.out.below hW).more hW.size) hcu hcum HOKU.out ((HSU.out.below hW).more hW.size)
    rw [hx3, hk3] at this; exact this
  have HP4 : Hid (∀ (W : World), Below w.heap.size w W → Calls Try.prog 7 #[.slice Av v.length cv, .string t, .slice Au u.length cu] W fun r w' => NdsBack W r w' x4 k4) := fun W hW => by
    have := tree_Put v u t Av Au cv cu W hcv hcvm HOKV.out ((HSV.out.below hW).more hW.size) hcu hcum HOKU.out ((HSU.out.below hW).more hW.size)
    rw [hx4, hk4] at this; exact this
  have HP5 : Hid (∀ (B D : Option Addr) (a d : Nat) (W : World), x3.length ≤ a → a ≤ 9223372036854775807 → NdSl W W.heap.size B x3 → x4.length ≤ d → d ≤ 9223372036854775807 → NdSl W W.heap.size D x4 → Calls Try.prog 7 #[.slice B x3.length a, .string s, .slice D x4.length d] W fun r w' => NdsBack W r w' (putV x3 s x4).1 (putV x3 s x4).2) := fun B D a d W ha hal hB hd hdl hD =>
    tree_Put x3 x4 s B D a d W ha hal hox3 hB hd hdl hox4 hD
  rw [hx1, hk1] at hput1
  rw [hk1, hx1, hk2, hk3, hk4, hx3, hx4] at HK
  rw [hk3] at HU
  have HX2 := Lib.hid (Prod.ext hx2 hk2 : putV x1 t u = (x2, k2))
  rw [HX2.out] at HK
  clear hx1 hk1 hx2 hk2 hx3 hk3 hx4 hk4 hox1 hox3 hox4 HX2
  have HPUT1 := Lib.hid hput1
  clear hput1
  go_wp2_with fail
  refine Calls.mono HPUT1.out ?_
  rintro r w9 ⟨B1, d1, rfl, hl1, hm1, hs1, hb9⟩
  have hw9 : Below w.heap.size w w9 := hw8.trans (hb9.mono hw8.size)
  have HS1 := Lib.hid hs1
  clear hs1 hb9 hw8 HPUT1
  go_wp2_with fail
  refine Calls.mono (HP2.out B1 d1 w9 hl1 hm1 hw9 HS1.out) ?_
  rintro r w10 ⟨B2, d2, rfl, hl2, hm2, hs2, hb10⟩
  have hw10 : Below w.heap.size w w10 := hw9.trans (hb10.mono hw9.size)
  have HS2 := Lib.hid hs2
  clear hs2 hb10 hw9 HP2 HS1
  go_wp2_with fail
  refine Calls.mono (HP3.out w10 hw10) ?_
  rintro r w11 ⟨B3, d3, rfl, hl3, hm3, hs3, hb11⟩
  have hw11 : Below w.heap.size w w11 := hw10.trans (hb11.mono hw10.size)
  have HS2a := Lib.hid ((HS2.out.below hb11).more hb11.size)
  have HS3 := Lib.hid hs3
  clear hs3 hb11 hw10 HP3 HS2
  go_wp2_with fail
  refine Calls.mono (HP4.out w11 hw11) ?_
  rintro r w12 ⟨B4, d4, rfl, hl4, hm4, hs4, hb12⟩
  have hw12 : Below w.heap.size w w12 := hw11.trans (hb12.mono hw11.size)
  have HS2b := Lib.hid ((HS2a.out.below hb12).more hb12.size)
  have HS3b := Lib.hid ((HS3.out.below hb12).more hb12.size)
  have HS4b := Lib.hid hs4
  clear hs4 hb12 hw11 HP4 HS3 HS2a
  by_cases h1 : k1 = 0
  · by_cases h2 : k2 = 0
    · by_cases h3 : k3 = 0
      · by_cases h4 : k4 = 0
        · cases h5 : (s.toList == t.toList)
          · have HUZ := Lib.hid (HU.out h3)
            have HKK := Lib.hid (HK.out h1 h2 h3 h4 h5)
            subst h1 h2 h3 h4
            clear HK HU
            go_wp2_with fail
            have hvs := tree_Vars u Au cu w12 hcu hcum HOKU.out ((HSU.out.below hw12).more hw12.size)
            rw [HUZ.out, show varsR u = varsL u from by unfold varsR; rw [if_pos HUZ.out]] at hvs
            have lu := varsL_len HUZ.out
            refine Calls.mono hvs ?_
            rintro r w13 ⟨B5, d5, rfl, _, _, hs5, hb13⟩
            have hw13 : Below w.heap.size w w13 := hw12.trans (hb13.mono hw12.size)
            have HS2c := Lib.hid ((HS2b.out.below hb13).more hb13.size)
            have HS3c := Lib.hid ((HS3b.out.below hb13).more hb13.size)
            have HS4c := Lib.hid ((HS4b.out.below hb13).more hb13.size)
            have HS5 := Lib.hid hs5
            clear hs5 hb13 hw12 HS2b HS3b HS4b hvs
            go_wp2_with fail
            have ham := law_among s (varsL u) B5 d5 w13 HS5.out (by omega)
            cases hc : (varsL u).contains s.toList
            · have HEQ := Lib.hid (HKK.out hc)
              rw [hc] at ham
              refine Calls.mono ham ?_
              rintro r w14 ⟨rfl, hb14⟩
              have hw14 : Below w.heap.size w w14 := hw13.trans (hb14.mono hw13.size)
              have HS2d := Lib.hid ((HS2c.out.below hb14).more hb14.size)
              have HS3d := Lib.hid ((HS3c.out.below hb14).more hb14.size)
              have HS4d := Lib.hid ((HS4c.out.below hb14).more hb14.size)
              clear hb14 hw13 HS2c HS3c HS4c ham hc HKK
              go_wp2_with fail
              have hp5 := HP5.out B3 B4 d3 d4 w14 hl3 hm3 HS3d.out hl4 hm4 HS4d.out
              rw [HEQ.out] at hp5
              refine Calls.mono hp5 ?_
              rintro r w15 ⟨B6, d6, rfl, hl6, hm6, hs6, hb15⟩
              have hw15 : Below w.heap.size w w15 := hw14.trans (hb15.mono hw14.size)
              have HS2e := Lib.hid ((HS2d.out.below hb15).more hb15.size)
              have HS6 := Lib.hid hs6
              clear hb15 hw14 HS2d HS3d HS4d hp5 hs6
              go_wp2_with fail
              refine Calls.mono (same_Nodes x2 B6 B2 d6 d2 w15 HS6.out HS2e.out (by omega)) ?_
              rintro r w16 ⟨rfl, hb16⟩
              go_wp2_with fail
              go_ret
              exact ⟨rfl, hw15.trans (hb16.mono hw15.size)⟩
            · rw [hc] at ham
              refine Calls.mono ham ?_
              rintro r w14 ⟨rfl, hb14⟩
              clear hc ham
              go_wp2_with fail
              go_ret
              exact ⟨rfl, hw13.trans (hb14.mono hw13.size)⟩
          · subst h1 h2 h3 h4
            go_wp2_with fail
            go_ret
            exact ⟨rfl, hw12⟩
        · have hne : (k4 != 0) = true := by simp [h4]
          subst h1 h2 h3
          clear h4
          go_wp2_with fail
          go_ret
          exact ⟨rfl, hw12⟩
      · have hne : (k3 != 0) = true := by simp [h3]
        subst h1 h2
        clear h3
        go_wp2_with fail
        go_ret
        exact ⟨rfl, hw12⟩
    · have hne : (k2 != 0) = true := by simp [h2]
      subst h1
      clear h2
      go_wp2_with fail
      go_ret
      exact ⟨rfl, hw12⟩
  · have hne : (k1 != 0) = true := by simp [h1]
    clear h1
    go_wp2_with fail
    go_ret
    exact ⟨rfl, hw12⟩
end Go.Proofs.Ytcghjnpllobdmaa
