/-
  THE WALKS: tree.Check, Skip, End.
-/
import Derived.Test.YtcghjnpllobdmaaDoorTree3
import Derived.Test.YtcghjnpllobdmaaDoorLPlain1
namespace Go.Proofs.YtcghjnpllobdmaaDoor
open Go.RowKit

theorem beh_all (e : List Nd) : ∀ f i, BehOk e f i := by
  intro f
  induction f using Nat.strongRecOn with
  | _ f ih =>
    intro i
    by_cases hi : e.length ≤ i
    · exact beh_out e f i hi
    · have hil : i < e.length := by omega
      cases f with
      | zero => intro w A c fld hf; omega
      | succ f =>
        have hx : e[i]? = some e[i] := List.getElem?_eq_getElem hil
        cases hsh : shapedT e[i] with
        | false => exact beh_bad e f i _ hx hsh
        | true =>
          intro w A c fld hf hc hcm him hok hsl
          by_cases h7 : (e[i].op == 7) = fld
          · exact beh_yes e f i _ hx hsh (fun f' hf i' => ih f' (by omega) i') w A c fld h7 hf hc hcm him hok hsl
          · exact beh_no e f i _ hx hsh w A c fld h7 hf hc hcm him hok hsl

set_option maxHeartbeats 800000 in
theorem tree_Check (e : List Nd) (A : Option Addr) (c : Nat) (w : World) (hc : e.length ≤ c) (hcm : c ≤ 9223372036854775807) (hok : NdOk e) (hsl : NdSl w w.heap.size A e) :
    Calls Tryd.prog 17 #[.slice A e.length c] w fun r w' => r = .returned (errV (treeErr e)) ∧ Below w.heap.size w w' := by
  by_cases h : 200 < e.length
  · have HV : Hid (treeErr e = 4) := by show _ = _; simp [treeErr, h]
    clear hok hsl
    go_enter Tryd.func17, Tryd.ntmps17
    go_wp2_with fail
    go_ret
    exact ⟨ret_val (by rw [HV.out]; rfl), Below.refl _ _⟩
  · have hb := beh_all e (2 * e.length) 0 w A c false (by omega) hc hcm (by omega) hok hsl
    cases hv : bGo e (2 * e.length) (.one false) 0 with
    | none =>
      have HV : Hid (treeErr e = 1) := by show _ = _; simp [treeErr, h, hv]
      rw [hv] at hb
      have HB : Hid (Calls Tryd.prog 29 #[.slice A e.length c, .int .i64 0, .bool false] w fun r w' => r = .returned (.int .i64 (-1)) ∧ Below w.heap.size w w') := hb
      clear hv hb hok hsl
      have hne : ((-1 : Int) != (e.length : Int)) = true := by rw [bne_iff_ne]; omega
      go_enter Tryd.func17, Tryd.ntmps17
      go_wp2_with (go_at_call 29; refine HB.out.mono ?_; rintro r w1 ⟨rfl, hb1⟩)
      go_ret
      exact ⟨ret_val (by rw [HV.out]; rfl), hb1⟩
    | some j =>
      have HV : Hid (treeErr e = if j = e.length then 0 else 1) := by show _ = _; simp [treeErr, h, hv]
      rw [hv] at hb
      have HB : Hid (Calls Tryd.prog 29 #[.slice A e.length c, .int .i64 0, .bool false] w fun r w' => r = .returned (.int .i64 (j : Int)) ∧ Below w.heap.size w w') := hb
      clear hv hb hok hsl
      by_cases hj : j = e.length
      · have hne : ((j : Int) != (e.length : Int)) = false := by rw [hj]; simp
        have HJ := Lib.hid hj
        clear hj
        go_enter Tryd.func17, Tryd.ntmps17
        go_wp2_with (go_at_call 29; refine HB.out.mono ?_; rintro r w1 ⟨rfl, hb1⟩)
        go_ret
        exact ⟨ret_val (by rw [HV.out, if_pos HJ.out]; rfl), hb1⟩
      · have hne : ((j : Int) != (e.length : Int)) = true := by rw [bne_iff_ne]; omega
        go_enter Tryd.func17, Tryd.ntmps17
        go_wp2_with (go_at_call 29; refine HB.out.mono ?_; rintro r w1 ⟨rfl, hb1⟩)
        go_ret
        exact ⟨ret_val (by rw [HV.out, if_neg hj]; rfl), hb1⟩

set_option maxHeartbeats 1600000 in
theorem tree_Skip (e : List Nd) (A : Option Addr) (c i r : Nat) (w : World) (hlen : e.length ≤ 200) (hsl : NdSl w w.heap.size A e) (hpar : ∀ x ∈ e, 0 ≤ ndParts x ∧ ndParts x ≤ 200) (hsk : skP (e.drop i) 1 i = some r) (hi : i ≤ e.length) :
    Calls Tryd.prog 28 #[.slice A e.length c, .int .i64 i] w fun q w' => q = .returned (.int .i64 r) ∧ Below w.heap.size w w' := by
  have HS := Lib.hid hsl
  have HP := Lib.hid hpar
  have HK := Lib.hid hsk
  clear hsl hpar hsk
  go_enter Tryd.func28, Tryd.ntmps28
  go_wp2_with fail
  go_loopw [1, 5] (fun at_ left wr => ∃ (a : Nat) (lf : Int), at_ = .int .i64 a ∧ left = .int .i64 lf ∧ i ≤ a ∧ a ≤ e.length ∧ 0 ≤ lf ∧ lf ≤ 1 + 200 * (a : Int) ∧ Hid (skP (e.drop a) lf a = some r) ∧ Below w.heap.size w wr)
    (fun at_ _ _ => e.length - (intOf at_).toNat)
  case atStart => exact ⟨i, 1, rfl, rfl, by omega, hi, by omega, by omega, HK, Below.refl _ _⟩
  case round =>
    obtain ⟨a, lf, rfl, rfl, hia, hal, hlf, hlb, HQ, hbr⟩ := hrel
    have hzr := hbr.size
    by_cases hpos : 0 < lf
    · have hal2 : a < e.length := by
        rcases Nat.lt_or_ge a e.length with h | h
        · exact h
        · have := HQ.out; rw [List.drop_eq_nil_of_le h] at this; simp [skP] at this; omega
      obtain ⟨b, o, rfl, hb, hcs⟩ := (HS.out.below hbr).at_ hal2
      obtain ⟨x, hx⟩ : ∃ x, e[a]? = some x := ⟨_, List.getElem?_eq_getElem hal2⟩
      obtain ⟨d0, d1, d2, d3⟩ := hcs a x hx
      obtain ⟨hp0, hp1⟩ := HP.out x (List.mem_of_getElem? hx)
      obtain ⟨p, hp⟩ : ∃ p, ndParts x = p := ⟨_, rfl⟩
      rw [hp] at hp0 hp1
      have HQ2 : Hid (skP (e.drop (a + 1)) (lf + p - 1) (a + 1) = some r) := by
        have := HQ.out; rw [skP_step hx hpos, hp] at this; exact this
      have htp : ∀ W, Calls Tryd.prog 48 #[.agg #[.int .i64 x.op, .int .i64 x.n, .string x.s, .string x.t]] W fun e w' => e = .returned (.int .i64 p) ∧ Below W.heap.size W w' := fun W => by
        rw [← hp]; exact tree_parts x.op x.n x.s x.t W
      have HTP := Lib.hid htp
      clear hcs hx htp hp
      go_wp2_with (go_at_call 48; refine (HTP.out _).mono ?_; rintro q w1 ⟨rfl, hb1⟩)
      go_roundw
      case rel => exact ⟨a + 1, lf + p - 1, by go_num, rfl, by omega, by omega, by omega, by omega, HQ2, hbr.trans (hb1.mono hbr.size)⟩
      case measure => simp [intOf]; omega
    · obtain rfl : lf = 0 := by omega
      have HE : Hid (a = r) := by have := HQ.out; rw [skP_done] at this; injection this
      go_wp2_with fail
      go_ret
      exact ⟨ret_int (by rw [HE.out]), hbr⟩

set_option maxHeartbeats 1600000 in
theorem tree_End (e : List Nd) (A : Option Addr) (c : Nat) (i : Int) (w : World) (hc : e.length ≤ c) (hcm : c ≤ 9223372036854775807) (hok : NdOk e) (hsl : NdSl w w.heap.size A e) :
    Calls Tryd.prog 14 #[.slice A e.length c, .int .i64 i] w fun r w' => r = .returned (.tuple #[.int .i64 (endV e i).1, errV (endV e i).2]) ∧ Below w.heap.size w w' := by
  have hchk := tree_Check e A c w hc hcm hok hsl
  have HCH := Lib.hid hchk
  clear hchk
  by_cases h0 : treeErr e = 0
  · have HE := Lib.hid h0
    have hne : (treeErr e != 0) = false := by simp [h0]
    by_cases hlo : i < 0
    · have HV : Hid (endV e i = (0, 3)) := by show _ = _; simp [endV, h0, hlo]
      clear h0 hok hsl
      go_enter Tryd.func14, Tryd.ntmps14
      go_wp2_with (go_at_call 17; refine HCH.out.mono ?_; rintro r w1 ⟨rfl, hb1⟩)
      go_ret2
      exact ⟨by rw [HV.out]; rfl, hb1⟩
    · obtain ⟨k, rfl⟩ := Int.eq_ofNat_of_zero_le (show 0 ≤ i by omega)
      by_cases hhi : e.length ≤ k
      · have HV : Hid (endV e k = (0, 3)) := by show _ = _; simp [endV, h0, hhi]
        clear h0 hok hsl
        go_enter Tryd.func14, Tryd.ntmps14
        go_wp2_with (go_at_call 17; refine HCH.out.mono ?_; rintro r w1 ⟨rfl, hb1⟩)
        go_ret2
        exact ⟨by rw [HV.out]; rfl, hb1⟩
      · have hkl : k < e.length := by omega
        obtain ⟨x, hx⟩ : ∃ x, e[k]? = some x := ⟨_, List.getElem?_eq_getElem hkl⟩
        have hbw : ∀ w1, Below w.heap.size w w1 → ∃ b o, A = some ⟨b, o, none⟩ ∧ NdAt w1 b (o + k * 4) x := fun w1 hb1 => by
          obtain ⟨b, o, h1, h2, h3⟩ := (hsl.below hb1).at_ hkl
          exact ⟨b, o, h1, h3 k x hx⟩
        have HB := Lib.hid hbw
        obtain ⟨b, o, hA, hb, hcs⟩ := hsl.at_ hkl
        subst hA
        obtain ⟨d0, d1, d2, d3⟩ := hcs k x hx
        by_cases h7 : x.op = 7
        · have HV : Hid (endV e k = (0, 2)) := by show _ = _; simp [endV, h0, hhi, hx, h7]
          have p7 : (x.op == 7) = true := by simp [h7]
          clear h0 hok hsl hcs hbw h7
          go_enter Tryd.func14, Tryd.ntmps14
          go_wp2_with (go_at_call 17; refine HCH.out.mono ?_; rintro r w1 ⟨rfl, hb1⟩; obtain ⟨hcc, hff⟩ := bcell hb1)
          go_ret2
          exact ⟨by rw [HV.out]; rfl, hb1⟩
        · obtain ⟨r, hr, hrl⟩ := tree_at h0 hx
          rw [show (x.op == 7) = false from by simp [h7]] at hr
          have HV : Hid (endV e k = ((r : Int), 0)) := by show _ = _; simp [endV, h0, hhi, hx, h7, hr, bVal]
          have p7 : (x.op == 7) = false := by simp [h7]
          have hpar : ∀ x ∈ e, 0 ≤ ndParts x ∧ ndParts x ≤ 200 := fun y hy => by
            obtain ⟨j, hj⟩ := List.getElem?_of_mem hy
            obtain ⟨s, hs, hsl⟩ := tree_at h0 hj
            obtain ⟨_, _, q1, q2⟩ := bGo_parts hs hj
            have := (tree_len h0).1
            omega
          have hsk : skP (e.drop k) 1 k = some r := by
            have := skP_bGo e _ _ _ _ hr 0 (by omega)
            simp only [Int.add_zero] at this
            rw [this, skP_done]
          have hskip : ∀ W, Below w.heap.size w W → Calls Tryd.prog 28 #[.slice (some ⟨b, o, none⟩) e.length c, .int .i64 k] W fun q w' => q = .returned (.int .i64 r) ∧ Below W.heap.size W w' := fun W hW =>
            tree_Skip e _ c k r W (tree_len h0).1 ((hsl.below hW).more hW.size) hpar hsk (by omega)
          have HSK := Lib.hid hskip
          clear h0 hok hsl hcs hbw h7 hpar hsk hskip
          go_enter Tryd.func14, Tryd.ntmps14
          go_wp2_with (first
            | (go_at_call 17; refine HCH.out.mono ?_; rintro r w1 ⟨rfl, hb1⟩; obtain ⟨hcc, hff⟩ := bcell hb1)
            | (go_at_call 28; refine (HSK.out _ hb1).mono ?_; rintro r w2 ⟨rfl, hb2⟩))
          go_ret2
          exact ⟨by rw [HV.out]; rfl, hb1.trans (hb2.mono hb1.size)⟩
  · have HV : Hid (endV e i = (0, treeErr e)) := by show _ = _; simp [endV, h0]
    have hne : (treeErr e != 0) = true := by simp [h0]
    clear h0 hok hsl
    go_enter Tryd.func14, Tryd.ntmps14
    go_wp2_with (go_at_call 17; refine HCH.out.mono ?_; rintro r w1 ⟨rfl, hb1⟩)
    go_ret2
    exact ⟨by rw [HV.out]; rfl, hb1⟩
end Go.Proofs.YtcghjnpllobdmaaDoor
