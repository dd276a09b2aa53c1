/-
  THE WALK of the law TreeSizes.
-/
import Derived.Test.YtcghjnpllobdmaaLaw0
namespace Go.Proofs.Ytcghjnpllobdmaa
open Go.RowKit

set_option maxRecDepth 100000 in
set_option maxHeartbeats 4000000 in
theorem law_sizes (e v : List Nd) (s : ByteArray) (A Av : Option Addr) (c cv : Nat) (w : World) (hc : e.length ≤ c) (hcm : c ≤ 9223372036854775807) (hok : NdOk e) (hsl : NdSl w w.heap.size A e)
    (hcv : v.length ≤ cv) (hcvm : cv ≤ 9223372036854775807) (hokv : NdOk v) (hslv : NdSl w w.heap.size Av v) :
    Calls Try.prog 3 #[.slice A e.length c, .string s, .slice Av v.length cv] w fun r w' => r = .returned (.bool true) ∧ Below w.heap.size w w' := by
  have HS := Lib.hid hsl
  have HSV := Lib.hid hslv
  have HOK := Lib.hid hok
  have HOKV := Lib.hid hokv
  clear hsl hslv hok hokv
  go_enter Try.func3, Try.ntmps3
  go_wp2_with fail
  refine (law_name _ _).mono ?_
  rintro r w1 ⟨rfl, hb1⟩
  go_wp2_with fail
  refine (law_name _ _).mono ?_
  rintro r w2 ⟨rfl, hb2⟩
  have hw2 : Below w.heap.size w w2 := hb1.trans (hb2.mono hb1.size)
  clear hb1 hb2
  go_wp2_with fail
  have HN1 := Lib.hid (new_nodes w2 28 [⟨14, 0, ⟨#[]⟩, ⟨#[]⟩⟩, ⟨8, 0, ⟨#[97]⟩, ⟨#[]⟩⟩, ⟨8, 0, ⟨#[97]⟩, ⟨#[]⟩⟩] _ rfl)
  refine (law_name _ _).mono ?_
  rintro r w3 ⟨rfl, hb3⟩
  have hw3 : Below w.heap.size w w3 := (hw2.alloc hw2.size _).trans (hb3.mono (by have := hw2.size; simp; omega))
  have HN1' := Lib.hid ((HN1.out.below (hb3.mono (by simp))).more (show _ ≤ w3.heap.size by have := hb3.size; simpa using this))
  go_wp2_with fail
  have HN2 : Hid (NdSl (w3.alloc (.cells #[.int .i64 9, .int .i64 0, .string ⟨#[]⟩, .string ⟨#[]⟩, .int .i64 8, .int .i64 0, .string ⟨#[98]⟩, .string ⟨#[]⟩] 28)) (w3.heap.size + 1) (some ⟨w3.heap.size, 0, none⟩) [⟨9, 0, ⟨#[]⟩, ⟨#[]⟩⟩, ⟨8, 0, ⟨#[98]⟩, ⟨#[]⟩⟩]) := new_nodes _ _ _ _ rfl
  have hw4 : Below w.heap.size w (w3.alloc (.cells #[.int .i64 9, .int .i64 0, .string ⟨#[]⟩, .string ⟨#[]⟩, .int .i64 8, .int .i64 0, .string ⟨#[98]⟩, .string ⟨#[]⟩] 28)) := hw3.alloc hw3.size _
  have HN3 : Hid (NdSl (w3.alloc (.cells #[.int .i64 9, .int .i64 0, .string ⟨#[]⟩, .string ⟨#[]⟩, .int .i64 8, .int .i64 0, .string ⟨#[98]⟩, .string ⟨#[]⟩] 28)) (w3.heap.size + 1) (some ⟨w2.heap.size, 0, none⟩) [⟨14, 0, ⟨#[]⟩, ⟨#[]⟩⟩, ⟨8, 0, ⟨#[97]⟩, ⟨#[]⟩⟩, ⟨8, 0, ⟨#[97]⟩, ⟨#[]⟩⟩]) :=
    (HN1'.out.below ((Below.refl _ _).alloc (Nat.le_refl _) _)).more (Nat.le_succ _)
  have hz4 : (w3.alloc (.cells #[.int .i64 9, .int .i64 0, .string ⟨#[]⟩, .string ⟨#[]⟩, .int .i64 8, .int .i64 0, .string ⟨#[98]⟩, .string ⟨#[]⟩] 28)).heap.size = w3.heap.size + 1 := by simp
  have HZ4 := Lib.hid hz4
  clear hz4
  generalize (w3.alloc (.cells #[.int .i64 9, .int .i64 0, .string ⟨#[]⟩, .string ⟨#[]⟩, .int .i64 8, .int .i64 0, .string ⟨#[98]⟩, .string ⟨#[]⟩] 28)) = w4 at HN2 HN3 hw4 HZ4 ⊢
  rw [← HZ4.out] at HN2 HN3
  have hput := tree_Put [⟨14, 0, ⟨#[]⟩, ⟨#[]⟩⟩, ⟨8, 0, ⟨#[97]⟩, ⟨#[]⟩⟩, ⟨8, 0, ⟨#[97]⟩, ⟨#[]⟩⟩] [⟨9, 0, ⟨#[]⟩, ⟨#[]⟩⟩, ⟨8, 0, ⟨#[98]⟩, ⟨#[]⟩⟩] ⟨#[97]⟩ (some ⟨w2.heap.size, 0, none⟩) (some ⟨w3.heap.size, 0, none⟩) 3 2 w4 (by simp) (by omega) (ndok_small _ (by decide)) HN3.out (by simp) (by omega) (ndok_small _ (by decide)) HN2.out
  rw [fact_sizes] at hput
  refine Calls.mono hput ?_
  rintro r w5 ⟨A5, c5, rfl, _, _, _, hb5⟩
  have hw5 : Below w.heap.size w w5 := hw4.trans (hb5.mono hw4.size)
  clear hw2 hw3 hw4 hb3 hb5 HN1 HN1' HN2 HN3 HZ4 hput
  go_wp2_with fail
  have hput := tree_Put e v s A Av c cv w5 hc hcm HOK.out ((HS.out.below hw5).more hw5.size) hcv hcvm HOKV.out ((HSV.out.below hw5).more hw5.size)
  by_cases h0 : (putV e s v).2 = 0
  · obtain ⟨he, hv, hl, hp⟩ := put_ok h0
    rw [h0, hp] at hput
    have hlen := tree_len he
    have hlv := (tree_len hv).1
    refine Calls.mono hput ?_
    rintro r w6 ⟨A6, c6, rfl, _, _, _, hb6⟩
    have hw6 : Below w.heap.size w w6 := hw5.trans (hb6.mono hw5.size)
    have HE := Lib.hid he
    clear hput h0 hp he hv hw5 hb6
    obtain ⟨b, o, rfl, hb, hcs⟩ := (HS.out.below hw6).at_ hlen.2
    obtain ⟨pl, hpl⟩ : ∃ pl, pl = (putL e s v).length := ⟨_, rfl⟩
    have HPL := Lib.hid hpl
    rw [← hpl] at hl
    rw [← hpl]
    have HCS := Lib.hid hcs
    clear hpl hcs
    go_wp2_with fail
    go_loop [11, 12] (fun n ii => ∃ k : Nat, ii = .int .i64 k ∧ k ≤ e.length ∧ (putL (e.take k) s v).length ≤ 200 ∧ n = .int .i64 ((e.length : Int) + ((putL (e.take k) s v).length : Int) - k)) (fun _ ii => e.length - (intOf ii).toNat)
    case atStart => exact ⟨0, rfl, by omega, by simp [putL], by simp [putL]⟩
    case round =>
      obtain ⟨k, rfl, hk, hkl, rfl⟩ := hrel
      by_cases hlt : k < e.length
      · obtain ⟨x, hx⟩ : ∃ x, e[k]? = some x := ⟨_, List.getElem?_eq_getElem hlt⟩
        obtain ⟨d0, d1, d2, d3⟩ := HCS.out k x hx
        have HST : Hid ((putL (e.take (k + 1)) s v).length = (putL (e.take k) s v).length + (if isVar s x = true then v else [x]).length ∧ (putL (e.take (k + 1)) s v).length ≤ 200) := by
          have h1 := putL_step hx s v
          have h2 := putL_take_le e (k + 1) s v
          refine ⟨by rw [h1, List.length_append], by have := HPL.out; omega⟩
        clear hx
        generalize hg : (putL (e.take k) s v).length = g at HST hkl ⊢
        clear hg
        by_cases h8 : (x.op == 8) = true
        · by_cases hss : (x.s.toList == s.toList) = true
          · have HV : Hid (isVar s x = true) := by show _ = _; unfold isVar; rw [h8, hss]; rfl
            go_wp2_with fail
            have h1 := HST.out.1
            rw [if_pos HV.out] at h1
            exact ⟨⟨k + 1, by go_num, by omega, HST.out.2, congrArg (Value.int .i64) (by omega)⟩, by simp [intOf]; omega⟩
          · have hss : (x.s.toList == s.toList) = false := by simpa using hss
            have HV : Hid (¬ isVar s x = true) := by show ¬ _; unfold isVar; rw [h8, hss]; simp
            go_wp2_with fail
            have h1 := HST.out.1
            rw [if_neg HV.out, List.length_singleton] at h1
            exact ⟨⟨k + 1, by go_num, by omega, HST.out.2, congrArg (Value.int .i64) (by omega)⟩, by simp [intOf]; omega⟩
        · have h8 : (x.op == 8) = false := by simpa using h8
          have HV : Hid (¬ isVar s x = true) := by show ¬ _; unfold isVar; rw [h8]; simp
          go_wp2_with fail
          have h1 := HST.out.1
          rw [if_neg HV.out, List.length_singleton] at h1
          exact ⟨⟨k + 1, by go_num, by omega, HST.out.2, congrArg (Value.int .i64) (by omega)⟩, by simp [intOf]; omega⟩
      · obtain rfl : k = e.length := by omega
        have HTK : Hid ((putL (e.take e.length) s v).length = pl) := by show _ = _; rw [List.take_length]; exact HPL.out.symm
        rw [HTK.out]
        obtain ⟨x, hx⟩ : ∃ x, e[0]? = some x := ⟨_, List.getElem?_eq_getElem hlen.2⟩
        have hx0 := HCS.out 0 x hx
        simp only [Nat.zero_mul, Nat.add_zero] at hx0
        obtain ⟨d0, d1, d2, d3⟩ := hx0
        rw [show (e.length : Int) + (pl : Int) - (e.length : Int) = (pl : Int) from by omega]
        have hend := fun (k : Int) (W : World) (hW : Below w.heap.size w W) => tree_End e _ c k W hc hcm HOK.out ((HS.out.below hW).more hW.size)
        have hend0 : ∀ (W : World) (hW : Below w.heap.size w W), Calls Try.prog 9 #[.slice (some ⟨b, o, none⟩) e.length c, .int .i64 0] W fun r w' => r = .returned (.tuple #[.int .i64 e.length, errV 0]) ∧ Below W.heap.size W w' := fun W hW => by
          have := hend 0 W hW; rw [end_zero HE.out] at this; exact this
        have HEND := Lib.hid hend
        have HEND0 := Lib.hid hend0
        have HX := Lib.hid hx
        have hz0 : ((0 : Int) != 0) = false := rfl
        have hpp : ((pl : Int) != (pl : Int)) = false := by simp
        have hee : ((e.length : Int) != (e.length : Int)) = false := by simp
        clear hend hend0 hx
        go_wp2_with fail
        refine (HEND0.out _ hw6).mono ?_
        rintro r w7 ⟨rfl, hb7⟩
        have hw7 : Below w.heap.size w w7 := hw6.trans (hb7.mono hw6.size)
        obtain ⟨f0, f1, f2, f3⟩ : NdAt w7 b o x := ⟨(hb7.cell (p := ⟨b, o, none⟩) (by have := hw6.size; simp; omega)).trans d0, (hb7.cell (p := ⟨b, o + 1, none⟩) (by have := hw6.size; simp; omega)).trans d1, (hb7.cell (p := ⟨b, o + 2, none⟩) (by have := hw6.size; simp; omega)).trans d2, (hb7.cell (p := ⟨b, o + 3, none⟩) (by have := hw6.size; simp; omega)).trans d3⟩
        have hbw7 : b < w7.heap.size := by have := hw7.size; omega
        clear hw6 hb7 d0 d1 d2 d3
        go_wp2_with fail
        obtain ⟨pp, hpar⟩ : ∃ pp, ndParts x = pp := ⟨_, rfl⟩
        have hpt := ref_Parts x.op x.n x.s x.t w7
        rw [show ndParts ⟨x.op, x.n, x.s, x.t⟩ = pp from hpar] at hpt
        refine Calls.mono hpt ?_
        rintro r w8 ⟨rfl, hb8⟩
        have hw8 : Below w.heap.size w w8 := hw7.trans (hb8.mono hw7.size)
        have g0 : w8.cell? ⟨b, o, none⟩ = some (.int .i64 x.op) := (hb8.cell (p := ⟨b, o, none⟩) hbw7).trans f0
        clear hpt hw7 f0 f1 f2 f3
        by_cases hp2 : pp = 2
        · have hq : (pp != 2) = false := by simp [hp2]
          have HP2 : Hid (ndParts x = 2) := hpar.trans hp2
          clear hp2 hpar
          go_wp2_with fail
          by_cases h5 : x.op = 5
          · have p5 : (x.op == 5) = true := by simp [h5]
            refine (HEND.out 1 _ hw8).mono ?_
            rintro r w9 ⟨rfl, hb9⟩
            have hw9 : Below w.heap.size w w9 := hw8.trans (hb9.mono hw8.size)
            have g9 : w9.cell? ⟨b, o, none⟩ = some (.int .i64 x.op) := (hb9.cell (p := ⟨b, o, none⟩) (by have := hb8.size; simp; omega)).trans g0
            clear h5 hb9 g0 hb8
            go_wp2_with fail
            go_ret
            exact ⟨rfl, hw9⟩
          · by_cases h6 : x.op = 6
            · have p5 : (x.op == 5) = false := by simp [h5]
              have p6 : (x.op == 6) = true := by simp [h6]
              refine (HEND.out 1 _ hw8).mono ?_
              rintro r w9 ⟨rfl, hb9⟩
              have hw9 : Below w.heap.size w w9 := hw8.trans (hb9.mono hw8.size)
              have g9 : w9.cell? ⟨b, o, none⟩ = some (.int .i64 x.op) := (hb9.cell (p := ⟨b, o, none⟩) (by have := hb8.size; simp; omega)).trans g0
              clear h5 h6 hb9 g0 hb8
              go_wp2_with fail
              go_ret
              exact ⟨rfl, hw9⟩
            · have p5 : (x.op == 5) = false := by simp [h5]
              have p6 : (x.op == 6) = false := by simp [h6]
              obtain ⟨m, hm1, hm2⟩ := end_two HE.out HX.out HP2.out h6
              have he1 := HEND.out 1 _ hw8
              rw [hm1] at he1
              refine Calls.mono he1 ?_
              rintro r w9 ⟨rfl, hb9⟩
              have hw9 : Below w.heap.size w w9 := hw8.trans (hb9.mono hw8.size)
              have g9 : w9.cell? ⟨b, o, none⟩ = some (.int .i64 x.op) := (hb9.cell (p := ⟨b, o, none⟩) (by have := hb8.size; simp; omega)).trans g0
              have he2 := HEND.out m _ hw9
              rw [hm2] at he2
              have HE2 := Lib.hid he2
              clear h5 h6 hb9 g0 hb8 hm1 hm2 he1 he2
              go_wp2_with fail
              refine Calls.mono HE2.out ?_
              rintro r w10 ⟨rfl, hb10⟩
              have hee' : ((e.length : Int) == (e.length : Int)) = true := by simp
              have hzz : ((0 : Int) == 0) = true := rfl
              go_wp2_with fail
              go_ret
              exact ⟨rfl, hw9.trans (hb10.mono hw9.size)⟩
        · have hq : (pp != 2) = true := by simp [hp2]
          go_wp2_with fail
          go_ret
          exact ⟨rfl, hw8⟩
  · have hne : ((putV e s v).2 != 0) = true := by simp [h0]
    refine Calls.mono hput ?_
    rintro r w6 ⟨A6, c6, rfl, _, _, _, hb6⟩
    have hw6 : Below w.heap.size w w6 := hw5.trans (hb6.mono hw5.size)
    clear hput h0 hw5 hb6
    go_wp2_with fail
    go_ret
    exact ⟨rfl, hw6⟩
end Go.Proofs.Ytcghjnpllobdmaa
