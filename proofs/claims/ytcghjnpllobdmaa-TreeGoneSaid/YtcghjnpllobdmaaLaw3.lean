/-
  THE WALK of the law TreeGone.
-/
import Derived.Test.YtcghjnpllobdmaaLaw0
import Derived.Test.YtcghjnpllobdmaaGFacts2
namespace Go.Proofs.Ytcghjnpllobdmaa
open Go.RowKit

set_option maxRecDepth 100000 in
set_option maxHeartbeats 4000000 in
theorem law_gone (e v : List Nd) (s : ByteArray) (A Av : Option Addr) (c cv : Nat) (w : World) (hc : e.length ≤ c) (hcm : c ≤ 9223372036854775807) (hok : NdOk e) (hsl : NdSl w w.heap.size A e)
    (hcv : v.length ≤ cv) (hcvm : cv ≤ 9223372036854775807) (hokv : NdOk v) (hslv : NdSl w w.heap.size Av v) :
    Calls Try.prog 4 #[.slice A e.length c, .string s, .slice Av v.length cv] w fun r w' => r = .returned (.bool true) ∧ Below w.heap.size w w' := by
  have HS := Lib.hid hsl
  have HSV := Lib.hid hslv
  have HOK := Lib.hid hok
  have HOKV := Lib.hid hokv
  clear hsl hslv hok hokv
  go_enter Try.func4, Try.ntmps4
  go_wp2_with fail
  refine (law_name _ _).mono ?_
  rintro r w1 ⟨rfl, hb1⟩
  go_wp2_with fail
  have hw1 : Below w.heap.size w (w1.alloc (.cells #[.int .i64 8, .int .i64 0, .string ⟨#[97]⟩, .string ⟨#[]⟩] 28)) := hb1.alloc hb1.size _
  have hn1 : NdSl (w1.alloc (.cells #[.int .i64 8, .int .i64 0, .string ⟨#[97]⟩, .string ⟨#[]⟩] 28)) (w1.heap.size + 1) (some ⟨w1.heap.size, 0, none⟩) [⟨8, 0, ⟨#[97]⟩, ⟨#[]⟩⟩] := new_nodes w1 28 [⟨8, 0, ⟨#[97]⟩, ⟨#[]⟩⟩] _ rfl
  have hz1 : (w1.alloc (.cells #[.int .i64 8, .int .i64 0, .string ⟨#[97]⟩, .string ⟨#[]⟩] 28)).heap.size = w1.heap.size + 1 := by simp
  have HZ1 := Lib.hid hz1
  have HN1 := Lib.hid hn1
  clear hz1 hn1
  generalize (w1.alloc (.cells #[.int .i64 8, .int .i64 0, .string ⟨#[97]⟩, .string ⟨#[]⟩] 28)) = w2 at HN1 hw1 HZ1 ⊢
  rw [← HZ1.out] at HN1
  refine (law_num _ _).mono ?_
  rintro r w3 ⟨rfl, hb3⟩
  have hw3 : Below w.heap.size w w3 := hw1.trans (hb3.mono hw1.size)
  have HN3 := Lib.hid ((HN1.out.below hb3).more hb3.size)
  clear hw1 hb3 HN1
  go_wp2_with fail
  have hw4 : Below w.heap.size w (w3.alloc (.cells #[.int .i64 2, .int .i64 5, .string ⟨#[]⟩, .string ⟨#[]⟩] 28)) := hw3.alloc hw3.size _
  have hn4 : NdSl (w3.alloc (.cells #[.int .i64 2, .int .i64 5, .string ⟨#[]⟩, .string ⟨#[]⟩] 28)) (w3.heap.size + 1) (some ⟨w3.heap.size, 0, none⟩) [⟨2, 5, ⟨#[]⟩, ⟨#[]⟩⟩] := new_nodes w3 28 [⟨2, 5, ⟨#[]⟩, ⟨#[]⟩⟩] _ rfl
  have hput := tree_Put [⟨8, 0, ⟨#[97]⟩, ⟨#[]⟩⟩] [⟨2, 5, ⟨#[]⟩, ⟨#[]⟩⟩] ⟨#[97]⟩ (some ⟨w1.heap.size, 0, none⟩) (some ⟨w3.heap.size, 0, none⟩) 1 1 _ (by simp) (by omega) (ndok_small _ (by decide)) ((HN3.out.below ((Below.refl _ _).alloc (Nat.le_refl _) _)).more (by simp)) (by simp) (by omega) (ndok_small _ (by decide)) (hn4.more (by simp))
  rw [fact_gone] at hput
  refine Calls.mono hput ?_
  rintro r w5 ⟨A5, c5, rfl, _, _, hs5, hb5⟩
  have hw5 : Below w.heap.size w w5 := hw4.trans (hb5.mono hw4.size)
  have HS5 := Lib.hid hs5
  clear hw3 hw4 hb5 hn4 hput HN3 HZ1 hs5
  go_wp2_with fail
  refine (law_num _ _).mono ?_
  rintro r w6 ⟨rfl, hb6⟩
  have hw6 : Below w.heap.size w w6 := hw5.trans (hb6.mono hw5.size)
  have HS6 := Lib.hid ((HS5.out.below hb6).more hb6.size)
  clear hw5 hb6 HS5
  go_wp2_with fail
  have hw7 : Below w.heap.size w (w6.alloc (.cells #[.int .i64 2, .int .i64 5, .string ⟨#[]⟩, .string ⟨#[]⟩] 28)) := hw6.alloc hw6.size _
  have hn7 : NdSl (w6.alloc (.cells #[.int .i64 2, .int .i64 5, .string ⟨#[]⟩, .string ⟨#[]⟩] 28)) (w6.heap.size + 1) (some ⟨w6.heap.size, 0, none⟩) [⟨2, 5, ⟨#[]⟩, ⟨#[]⟩⟩] := new_nodes w6 28 [⟨2, 5, ⟨#[]⟩, ⟨#[]⟩⟩] _ rfl
  refine Calls.mono (same_Nodes [⟨2, 5, ⟨#[]⟩, ⟨#[]⟩⟩] A5 (some ⟨w6.heap.size, 0, none⟩) c5 1 _ ((HS6.out.below ((Below.refl _ _).alloc (Nat.le_refl _) _)).more (by simp)) (hn7.more (by simp)) (by simp)) ?_
  rintro r w8 ⟨rfl, hb8⟩
  have hw8 : Below w.heap.size w w8 := hw7.trans (hb8.mono hw7.size)
  clear hw6 hw7 hb8 hn7 HS6
  go_wp2_with fail
  have hput := tree_Put e v s A Av c cv w8 hc hcm HOK.out ((HS.out.below hw8).more hw8.size) hcv hcvm HOKV.out ((HSV.out.below hw8).more hw8.size)
  by_cases h0 : (putV e s v).2 = 0
  · obtain ⟨he, hv, hl, hp⟩ := put_ok h0
    have hlen := tree_len he
    have hx := put_tree he hv hl
    have HP : Hid (putL e s v = putL e s v) := rfl
    rw [h0, hp] at hput
    refine Calls.mono hput ?_
    rintro r w9 ⟨A9, c9, rfl, hl9, hm9, hs9, hb9⟩
    have hw9 : Below w.heap.size w w9 := hw8.trans (hb9.mono hw8.size)
    have HS9 := Lib.hid hs9
    have HE := Lib.hid he
    have HV := Lib.hid hv
    have HX := Lib.hid hx
    clear hput hp h0 he hv hx hw8 hb9 hs9
    go_wp2_with fail
    have hvs := tree_Vars e A c w9 hc hcm HOK.out ((HS.out.below hw9).more hw9.size)
    rw [HE.out] at hvs
    refine Calls.mono hvs ?_
    rintro r w10 ⟨A10, c10, rfl, _, _, hs10, hb10⟩
    have hw10 : Below w.heap.size w w10 := hw9.trans (hb10.mono hw9.size)
    have HS9a := Lib.hid ((HS9.out.below hb10).more hb10.size)
    have HS10 := Lib.hid hs10
    clear hvs HS9 hw9 hb10 hs10
    go_wp2_with fail
    have hvs := tree_Vars (putL e s v) A9 c9 w10 hl9 hm9 (ndok_put HOK.out HOKV.out s) HS9a.out
    rw [HX.out] at hvs
    refine Calls.mono hvs ?_
    rintro r w11 ⟨A11, c11, rfl, _, _, hs11, hb11⟩
    have hw11 : Below w.heap.size w w11 := hw10.trans (hb11.mono hw10.size)
    have HS9b := Lib.hid ((HS9a.out.below hb11).more hb11.size)
    have HS10b := Lib.hid ((HS10.out.below hb11).more hb11.size)
    have HS11 := Lib.hid hs11
    clear hvs HS9a HS10 hw10 hb11 hs11
    go_wp2_with fail
    have hvs := tree_Vars v Av cv w11 hcv hcvm HOKV.out ((HSV.out.below hw11).more hw11.size)
    rw [HV.out] at hvs
    refine Calls.mono hvs ?_
    rintro r w12 ⟨A12, c12, rfl, _, _, hs12, hb12⟩
    have hw12 : Below w.heap.size w w12 := hw11.trans (hb12.mono hw11.size)
    have HS9c := Lib.hid ((HS9b.out.below hb12).more hb12.size)
    have HS10c := Lib.hid ((HS10b.out.below hb12).more hb12.size)
    have HS11c := Lib.hid ((HS11.out.below hb12).more hb12.size)
    have HS12 := Lib.hid hs12
    clear hvs HS9b HS10b HS11 hw11 hb12 hs12
    go_wp2_with fail
    have hck := tree_Check (putL e s v) A9 c9 w12 hl9 hm9 (ndok_put HOK.out HOKV.out s) HS9c.out
    rw [HX.out] at hck
    refine Calls.mono hck ?_
    rintro r w13 ⟨rfl, hb13⟩
    have hw13 : Below w.heap.size w w13 := hw12.trans (hb13.mono hw12.size)
    have HSX := Lib.hid ((HS9c.out.below hb13).more hb13.size)
    have HS1 := Lib.hid ((HS10c.out.below hb13).more hb13.size)
    have HS2 := Lib.hid ((HS11c.out.below hb13).more hb13.size)
    have HS3 := Lib.hid ((HS12.out.below hb13).more hb13.size)
    clear hck HS9c HS10c HS11c HS12 hw12 hb13
    rw [show varsR e = varsL e from by unfold varsR; rw [if_pos HE.out]] at HS1 ⊢
    rw [show varsR v = varsL v from by unfold varsR; rw [if_pos HV.out]] at HS3 ⊢
    rw [show varsR (putL e s v) = varsL (putL e s v) from by unfold varsR; rw [if_pos HX.out]] at HS2 ⊢
    go_wp2_with fail
    have l1 := varsL_len HE.out
    have l2 := varsL_len HX.out
    have l3 := varsL_len HV.out
    have ham := law_among s (varsL e) A10 c10 w13 HS1.out (by omega)
    cases hs : (varsL e).contains s.toList
    · rw [hs] at ham
      have hg : putL e s v = e := gone_not hs
      refine Calls.mono ham ?_
      rintro r w14 ⟨rfl, hb14⟩
      have hw14 : Below w.heap.size w w14 := hw13.trans (hb14.mono hw13.size)
      have HSX' := Lib.hid ((HSX.out.below hb14).more hb14.size)
      rw [hg] at HSX' ⊢
      clear ham hs hw13 hb14 hg
      go_wp2_with fail
      refine Calls.mono (same_Nodes e A9 A c9 c w14 HSX'.out ((HS.out.below hw14).more hw14.size) (by omega)) ?_
      rintro r w15 ⟨rfl, hb15⟩
      go_wp2_with fail
      go_ret
      exact ⟨rfl, hw14.trans (hb15.mono hw14.size)⟩
    · rw [hs] at ham
      have HGO : Hid (∀ t, t ∈ varsL e → ((t == s.toList) || (varsL (putL e s v)).contains t) = true) := fun t ht => gone_old ht
      have HGN : Hid (∀ t, t ∈ varsL (putL e s v) → ((((varsL e).contains t) && !(t == s.toList)) || (varsL v).contains t) = true) := fun t ht => gone_new ht
      generalize varsL (putL e s v) = nx at *
      generalize varsL e = ne at *
      generalize varsL v = nv at *
      refine Calls.mono ham ?_
      rintro r w14 ⟨rfl, hb14⟩
      have hw14 : Below w.heap.size w w14 := hw13.trans (hb14.mono hw13.size)
      have HS1' := Lib.hid ((HS1.out.below hb14).more hb14.size)
      have HS2' := Lib.hid ((HS2.out.below hb14).more hb14.size)
      have HS3' := Lib.hid ((HS3.out.below hb14).more hb14.size)
      clear ham hs hw13 hb14 HS1 HS2 HS3 HSX HS HSV HE HV HX
      go_wp2_with fail
      go_loopw [20] (fun kk wr => ∃ k : Nat, kk = .int .i64 k ∧ k ≤ nx.length ∧ Below w14.heap.size w14 wr) (fun kk _ => nx.length - (intOf kk).toNat)
      case atStart => exact ⟨0, rfl, by omega, Below.refl _ _⟩
      case round =>
        obtain ⟨k, rfl, hk, hbr⟩ := hrel
        by_cases hlt : k < nx.length
        · obtain ⟨b, o, rfl, hb, hcs⟩ := (HS2'.out.below hbr).at_ hlt
          obtain ⟨x, hx⟩ : ∃ x, nx[k]? = some x := ⟨_, List.getElem?_eq_getElem hlt⟩
          have d0 := hcs k x hx
          obtain ⟨p, hp⟩ : ∃ p, ne.contains x = p := ⟨_, rfl⟩
          obtain ⟨q, hq⟩ : ∃ q, (x == s.toList) = q := ⟨_, rfl⟩
          obtain ⟨r, hr⟩ : ∃ r, nv.contains x = r := ⟨_, rfl⟩
          have hall := HGN.out x (List.mem_of_getElem? hx)
          rw [hp, hq, hr] at hall
          have H1 : Hid (∀ W, Below w14.heap.size w14 W → Calls Try.prog 15 #[encStr x, .slice A10 ne.length c10] W fun r w' => r = .returned (.bool p) ∧ Below W.heap.size W w') := fun W hW => by
            rw [← hp]; exact among_enc x ne A10 c10 W ((HS1'.out.below hW).more hW.size) (by omega)
          have H2 : Hid (∀ W, Below w14.heap.size w14 W → Calls Try.prog 15 #[encStr x, .slice A12 nv.length c12] W fun r' w' => r' = .returned (.bool r) ∧ Below W.heap.size W w') := fun W hW => by
            rw [← hr]; exact among_enc x nv A12 c12 W ((HS3'.out.below hW).more hW.size) (by omega)
          have hbz := hbr.size
          clear hcs hx hp hr
          cases p <;> cases q <;> cases r <;> first | exact absurd hall (by decide) | skip
          all_goals
            clear hall
            go_wp2_with fail
            refine Calls.mono (H1.out _ hbr) ?_
            rintro r wa ⟨rfl, hba⟩
            have hwa := hbr.trans (hba.mono hbz)
            have d1 := (hba.cell (p := ⟨b, o + k, none⟩) (show b < _ by omega)).trans d0
            have hza : b < wa.heap.size := by have := hba.size; omega
            clear hba
            go_wp2_with fail
            refine Calls.mono (H2.out _ hwa) ?_
            rintro r wb ⟨rfl, hbb⟩
            have hwb := hwa.trans (hbb.mono hwa.size)
            go_wp2_with fail
            exact ⟨⟨k + 1, by go_num, by omega, hwb⟩, by simp [intOf]; omega⟩
        · go_wp2_with fail
          go_loopw [23] (fun kk wr => ∃ k : Nat, kk = .int .i64 k ∧ k ≤ ne.length ∧ Below w14.heap.size w14 wr) (fun kk _ => ne.length - (intOf kk).toNat)
          case atStart => exact ⟨0, rfl, by omega, hbr⟩
          case round =>
            obtain ⟨k2, rfl, hk2, hbr2⟩ := hrel
            have hbz2 := hbr2.size
            by_cases hlt2 : k2 < ne.length
            · obtain ⟨b, o, rfl, hb, hcs⟩ := (HS1'.out.below hbr2).at_ hlt2
              obtain ⟨x, hx⟩ : ∃ x, ne[k2]? = some x := ⟨_, List.getElem?_eq_getElem hlt2⟩
              have d0 := hcs k2 x hx
              obtain ⟨q, hq⟩ : ∃ q, (x == s.toList) = q := ⟨_, rfl⟩
              obtain ⟨r, hr⟩ : ∃ r, nx.contains x = r := ⟨_, rfl⟩
              have hall := HGO.out x (List.mem_of_getElem? hx)
              rw [hq, hr] at hall
              have H2 : Hid (∀ W, Below w14.heap.size w14 W → Calls Try.prog 15 #[encStr x, .slice A11 nx.length c11] W fun r' w' => r' = .returned (.bool r) ∧ Below W.heap.size W w') := fun W hW => by
                rw [← hr]; exact among_enc x nx A11 c11 W ((HS2'.out.below hW).more hW.size) (by omega)
              clear hcs hx hr
              cases q <;> cases r <;> first | exact absurd hall (by decide) | skip
              all_goals
                clear hall
                go_wp2_with fail
                refine Calls.mono (H2.out _ hbr2) ?_
                rintro r wa ⟨rfl, hba⟩
                have hwa := hbr2.trans (hba.mono hbz2)
                have d1 := (hba.cell (p := ⟨b, o + k2, none⟩) (show b < _ by omega)).trans d0
                have hza : b < wa.heap.size := by have := hba.size; omega
                clear hba
                go_wp2_with fail
                exact ⟨⟨k2 + 1, by go_num, by omega, hwa⟩, by simp [intOf]; omega⟩
            · go_wp2_with fail
              go_ret
              exact ⟨rfl, hw14.trans (hbr2.mono hw14.size)⟩
  · have hne : ((putV e s v).2 != 0) = true := by simp [h0]
    refine Calls.mono hput ?_
    rintro r w9 ⟨A9, c9, rfl, _, _, _, hb9⟩
    have hw9 : Below w.heap.size w w9 := hw8.trans (hb9.mono hw8.size)
    clear hput h0 hw8 hb9
    go_wp2_with fail
    go_ret
    exact ⟨rfl, hw9⟩
end Go.Proofs.Ytcghjnpllobdmaa
