/-
  THE WALK of the law WordBack.
-/
import Derived.Test.YtbommoefpekalaaGreatDoorLawSpells
namespace Go.Proofs.YtbommoefpekalaaGreatDoor
open Go.RowKit

theorem fact_slot : speltP ⟨4, ⟨#[97]⟩, 0⟩ = ([63, 97], true) := by
  have e : (⟨#[97]⟩ : ByteArray).toList = [97] := by rw [ByteArray.toList_eq]
  have h : (speltP ⟨4, ⟨#[97]⟩, 0⟩).2 = true := by
    rw [speltP_slot rfl]
    show decide (nameErr (⟨#[97]⟩ : ByteArray).toList = 0) = true
    rw [e]; decide
  refine Prod.ext ?_ h
  rw [speltP_fst h, speltT, if_neg (by decide), if_pos rfl]
  show 63 :: (⟨#[97]⟩ : ByteArray).toList = _
  rw [e]
theorem fact_text : speltP ⟨3, ⟨#[98, 34]⟩, 0⟩ = ([34, 98, 92, 34, 34], true) := by
  have e : (⟨#[98, 34]⟩ : ByteArray).toList = [98, 34] := by rw [ByteArray.toList_eq]
  have h0 : textErr (⟨#[98, 34]⟩ : ByteArray).toList = 0 := by rw [e]; decide
  rw [speltP_text rfl, if_pos h0]
  show (quoteV (⟨#[98, 34]⟩ : ByteArray).toList, true) = _
  rw [quoteV, if_pos h0, e]; rfl
theorem fact_back : spellP [⟨4, ⟨#[97]⟩, 0⟩, ⟨3, ⟨#[98, 34]⟩, 0⟩] = ([63, 97, 32, 34, 98, 92, 34, 34], 0) := by
  unfold spellP
  rw [if_neg (by decide)]
  simp only [List.all_cons, List.all_nil, List.map_cons, List.map_nil, fact_slot, fact_text, joinP_cons, joinP_one]
  rfl
set_option maxRecDepth 100000 in
set_option maxHeartbeats 3200000 in
theorem law_bare (xs : List Tk) (A : Option Addr) (c : Nat) (w : World) (hs : TkSl w w.heap.size A xs) (hl : xs.length ≤ 300) :
    Calls Tryz.prog 12 #[.slice A xs.length c] w fun r w' => ∃ A' c', r = .returned (.slice A' (xs.map bareTk).length c') ∧ TkSl w' w'.heap.size A' (xs.map bareTk) ∧ Below w.heap.size w w' := by
  obtain ⟨i0, hi, hz0, hz1, hz2⟩ := info_parts tok_info
  have HS := Lib.hid hs
  clear hs
  go_enter Tryz.func12, Tryz.ntmps12
  go_wp2_with fail
  go_loopw [3, 4] (fun oo ii wr => ∃ (k : Nat) (A' : Option Addr) (c' : Nat), ii = .int .i64 k ∧ oo = .slice A' k c' ∧ k ≤ xs.length ∧
    Hid (wr.ownsRow w.heap.size 28 3 (.slice A' k c') k (flatG Tk.cells ((xs.map bareTk).take k))) ∧ Below w.heap.size w wr) (fun _ ii _ => xs.length - (intOf ii).toNat)
  case atStart => exact ⟨0, none, 0, rfl, rfl, by omega, World.ownsRow_nil _ _ _ _, Below.refl _ _⟩
  case round =>
    obtain ⟨k, A', c', rfl, rfl, hk, HO, hbr⟩ := hrel
    have hzr := hbr.size
    by_cases hlt : k < xs.length
    · obtain ⟨x, hx⟩ : ∃ x, xs[k]? = some x := ⟨_, List.getElem?_eq_getElem hlt⟩
      obtain ⟨b, o, rfl, hb, ⟨d0, d1, d2⟩⟩ := tkSl_at (HS.out.below hbr) hx
      have hbw : b < wr.heap.size := Nat.lt_of_lt_of_le hb hzr
      have HX := Lib.hid hx
      clear hx
      go_wp2_with (at_builtin; refine wpList_append_own _ rfl (.tmp 17) (.tmp 19) 22 rfl w.heap.size 28 i0 _ 3 32 Tryz.underlying22 hi hz0 hz1 hz2 rfl (by omega) (.slice A' k c') k (flatG Tk.cells ((xs.map bareTk).take k)) rfl ((HO.out.alloc _).alloc _) ⟨wr.heap.size + 1, 0, none⟩ 1 1 (flatG Tk.cells [bareTk x]) rfl rfl (new_flatG _ _ (bareTk x) _ rfl _ (by simp)) (flatG_cell tk_ok [bareTk x]) (by unfold maxLen; omega) (by omega) (by simp; omega) ?_)
      intro v1 w3 hown1 hgrow1 _
      rw [← flatG_append] at hown1
      have hmap : (xs.map bareTk).take k ++ [bareTk x] = (xs.map bareTk).take (k + 1) := by rw [List.take_add_one, List.getElem?_map, HX.out]; simp
      rw [hmap] at hown1
      obtain ⟨_, A2, c2, hv2, _⟩ := own_formG tk_ok hown1
      have hb3 : Below w.heap.size w w3 := ((hbr.alloc (by omega) _).alloc (by simp; omega) _).grown hgrow1 (by simp; omega) (fun g hg => (HO.out.lt g hg).1)
      rw [hv2] at hown1 ⊢
      have HO3 := Lib.hid hown1
      clear hown1 hgrow1 hv2 hmap
      go_wp2_with fail
      exact ⟨⟨k + 1, A2, c2, by go_num, rfl, by omega, HO3, hb3⟩, by simp [intOf]; omega⟩
    · have hks : k = xs.length := by omega
      subst hks
      go_wp2_with fail
      go_ret
      have hO := HO.out
      rw [List.take_of_length_le (by rw [List.length_map]; exact Nat.le_refl _)] at hO
      obtain ⟨_, A2, c2, hv2, _, _, hsl⟩ := own_formG tk_ok hO
      injection hv2 with e1 e2 e3
      subst e1
      exact ⟨A', c', by rw [List.length_map]; rfl, hsl, hbr⟩
theorem spelt_size {x : Tk} (h : (speltP x).2 = true) : x.s.size ≤ 900 := by
  have hf := speltP_fst h
  have hl := speltP_len x
  rw [← toList_len]
  by_cases h3 : x.kind = 3
  · rw [speltP_text h3] at h
    split at h
    · rename_i h0
      have := (plain_all h0).1
      omega
    · cases h
  · rw [hf] at hl
    unfold speltT at hl
    rw [if_neg h3] at hl
    split at hl
    · simp only [List.length_cons] at hl; omega
    · exact hl
/-- The second half: what is read can be spelt, and is read again. -/
theorem read_again (s : ByteArray) (us : List Tk) (a : Nat) (h : readP s = (us, a, 0)) : us.length ≤ 300 ∧ (∀ x ∈ us, x.s.size ≤ 140737488351232) ∧
    ((∃ l, spellP us = (l, 4) ∧ True) ∨ ∃ l vs b, spellP us = (l, 0) ∧ l.length ≤ 900 ∧ readP (bsOf l) = (vs, b, 0) ∧ vs.length ≤ 300 ∧ vs.map bareTk = us.map bareTk) := by
  have hlen := readP_len' s
  have hall := read_spelt s
  rw [h] at hlen hall
  have hlen : us.length ≤ 300 := hlen
  have hall : (us.all fun x => (speltP x).2) = true := hall
  refine ⟨hlen, fun x hx => ?_, ?_⟩
  · have := spelt_size (List.all_eq_true.1 hall x hx)
    omega
  · rcases spell_again h hlen with h4 | ⟨l, hl⟩
    · exact .inl ⟨_, h4, trivial⟩
    · obtain ⟨h9, vs, b, hr, hm⟩ := spell_read hl
      refine .inr ⟨l, vs, b, hl, h9, hr, ?_, hm⟩
      have := readP_len' (bsOf l)
      rwa [hr] at this
set_option maxRecDepth 100000 in
set_option maxHeartbeats 8000000 in
theorem law_back (xs : List Tk) (A : Option Addr) (c : Nat) (s : ByteArray) (w : World) (hg : ErrCell w) (hs : TkSl w w.heap.size A xs) (hl : xs.length ≤ 9223372036854775807) (hz : ∀ x ∈ xs, x.s.size ≤ 140737488351232) (hss : s.size ≤ 140737488351232) :
    Calls Tryz.prog 4 #[.slice A xs.length c, .string s] w fun r w' => r = .returned (.bool true) ∧ Below w.heap.size w w' := by
  have hlt := hg.lt
  have HG := Lib.hid hg
  have HS := Lib.hid hs
  have HF := Lib.hid (fun (W : World) (A : Option Addr) (c : Nat) h => word_Spell [⟨4, ⟨#[97]⟩, 0⟩, ⟨3, ⟨#[98, 34]⟩, 0⟩] A c W h (by decide) (by intro x hx; simp only [List.mem_cons, List.not_mem_nil, or_false] at hx; rcases hx with rfl | rfl <;> decide))
  rw [fact_back] at HF
  have HSP := Lib.hid (fun (W : World) h => word_Spell xs A c W h hl hz)
  have HRS := Lib.hid (fun W => word_Read s W hss)
  obtain ⟨us, ua, uk, hus⟩ : ∃ us a k, readP s = (us, a, k) := ⟨_, _, _, rfl⟩
  rw [hus] at HRS
  have HUS := Lib.hid hus
  obtain ⟨l, k, hx⟩ : ∃ l k, spellP xs = (l, k) := ⟨_, _, rfl⟩
  rw [hx] at HSP
  have HX := Lib.hid hx
  clear hg hs hz hx hus hss
  go_enter Tryz.func4, Tryz.ntmps4
  go_wp2_with fail
  refine Calls.mono (HF.out _ _ _ ((new_SlG tk_ok w _ [⟨4, ⟨#[97]⟩, 0⟩, ⟨3, ⟨#[98, 34]⟩, 0⟩] _ rfl).more (by simp))) ?_
  rintro r w1 ⟨rfl, hb1⟩
  have hw1 : Below w.heap.size w w1 := ((Below.refl _ w).alloc (Nat.le_refl _) _).trans (hb1.mono (by simp))
  clear hb1
  go_wp2_with fail
  refine Calls.mono (HSP.out _ (HS.out.later hw1)) ?_
  rintro r w2 ⟨rfl, hb2⟩
  have hw2 : Below w.heap.size w w2 := hw1.trans (hb2.mono hw1.size)
  clear hb2 hw1
  by_cases hk : k = 0
  · subst hk
    obtain ⟨h9, ys, ya, hry, hym⟩ := spell_read HX.out
    have hxl : xs.length ≤ 300 := by
      have := HX.out
      unfold spellP at this
      split at this
      · injection this with h1 h2; cases h2
      · omega
    have hyl : ys.length ≤ 300 := by have := readP_len' (bsOf l); rwa [hry] at this
    have HRL := Lib.hid (fun W => word_Read (bsOf l) W (by rw [bsOf_sz]; omega))
    rw [hry] at HRL
    have HYM := Lib.hid hym
    clear hry hym h9
    go_wp2_with fail
    rw [encStr_bs]
    refine Calls.mono (HRL.out _) ?_
    rintro r w3 ⟨A3, c3, rfl, _, _, hs3, hb3⟩
    have hw3 : Below w.heap.size w w3 := hw2.trans (hb3.mono hw2.size)
    have HS3 := Lib.hid hs3
    clear hb3 hs3
    go_wp2_with fail
    refine Calls.mono (law_bare ys A3 c3 w3 HS3.out hyl) ?_
    rintro r w3a ⟨A3a, c3a, rfl, hs3a, hb3a⟩
    have hw3a : Below w.heap.size w w3a := hw3.trans (hb3a.mono hw3.size)
    rw [HYM.out] at hs3a
    have HS3a := Lib.hid hs3a
    have hyxl : (ys.map bareTk).length = (xs.map bareTk).length := by rw [HYM.out]
    clear hb3a hs3a
    go_wp2_with fail
    refine Calls.mono (law_bare xs A c w3a (HS.out.later hw3a) hxl) ?_
    rintro r w3b ⟨A3b, c3b, rfl, hs3b, hb3b⟩
    have hw3b : Below w.heap.size w w3b := hw3a.trans (hb3b.mono hw3a.size)
    have HS3ab := Lib.hid (HS3a.out.later hb3b)
    have HS3b := Lib.hid hs3b
    clear hb3b hs3b
    go_wp2_with fail
    have HT := same_Tokens (xs.map bareTk) A3a A3b c3a c3b w3b HS3ab.out HS3b.out (by rw [List.length_map]; omega)
    rw [List.length_map] at HT
    refine Calls.mono HT ?_
    rintro r w4 ⟨rfl, hb4⟩
    have hw4 : Below w.heap.size w w4 := hw3b.trans (hb4.mono hw3b.size)
    clear hb4 hw3b hw3a hw3 HS3 HS3a HS3ab HS3b
    go_wp2_with fail
    refine Calls.mono (HRS.out _) ?_
    rintro r w5 ⟨A5, c5, rfl, _, _, hs5, hb5⟩
    have hw5 : Below w.heap.size w w5 := hw4.trans (hb5.mono hw4.size)
    have HS5 := Lib.hid hs5
    clear hs5 hb5
    by_cases huk : uk = 0
    · subst huk
      obtain ⟨hul, huz, h | ⟨l2, vs, vb, hsp, h92, hrv, hvl, hvm⟩⟩ := read_again s us ua HUS.out
      · obtain ⟨l4, h4, _⟩ := h
        have HU := Lib.hid (fun (W : World) h => word_Spell us A5 c5 W h (by omega) huz)
        rw [h4] at HU
        clear h4 huz
        go_wp2_with fail
        refine Calls.mono (HU.out _ HS5.out) ?_
        rintro r w6 ⟨rfl, hb6⟩
        have hw6 : Below w.heap.size w w6 := hw5.trans (hb6.mono hw5.size)
        clear hb6
        go_wp2_with fail
        refine Calls.mono (same_Error 4 w6 (HG.out.below hw6 hlt)) ?_
        rintro r w7 ⟨rfl, hb7⟩
        go_wp2_with fail
        go_ret
        exact ⟨rfl, hw6.trans (hb7.mono hw6.size)⟩
      · have HU := Lib.hid (fun (W : World) h => word_Spell us A5 c5 W h (by omega) huz)
        rw [hsp] at HU
        have HV := Lib.hid (fun W => word_Read (bsOf l2) W (by rw [bsOf_sz]; omega))
        rw [hrv] at HV
        have HVM := Lib.hid hvm
        clear hsp huz hrv hvm h92
        go_wp2_with fail
        refine Calls.mono (HU.out _ HS5.out) ?_
        rintro r w6 ⟨rfl, hb6⟩
        have hw6 : Below w.heap.size w w6 := hw5.trans (hb6.mono hw5.size)
        have HS6 := Lib.hid (HS5.out.later hb6)
        clear hb6
        go_wp2_with fail
        rw [encStr_bs]
        refine Calls.mono (HV.out _) ?_
        rintro r w7 ⟨A7, c7, rfl, _, _, hs7, hb7⟩
        have hw7 : Below w.heap.size w w7 := hw6.trans (hb7.mono hw6.size)
        have HS7 := Lib.hid hs7
        have HS67 := Lib.hid (HS6.out.later hb7)
        clear hb7 hs7
        go_wp2_with fail
        refine Calls.mono (law_bare vs A7 c7 w7 HS7.out hvl) ?_
        rintro r w8 ⟨A8, c8, rfl, hs8, hb8⟩
        have hw8 : Below w.heap.size w w8 := hw7.trans (hb8.mono hw7.size)
        have HS68 := Lib.hid (HS67.out.later hb8)
        rw [HVM.out] at hs8
        have HS8 := Lib.hid hs8
        have hvul : (vs.map bareTk).length = (us.map bareTk).length := by rw [HVM.out]
        clear hb8 hs8
        go_wp2_with fail
        refine Calls.mono (law_bare us A5 c5 w8 HS68.out hul) ?_
        rintro r w9 ⟨A9, c9, rfl, hs9, hb9⟩
        have hw9 : Below w.heap.size w w9 := hw8.trans (hb9.mono hw8.size)
        have HS89 := Lib.hid (HS8.out.later hb9)
        have HS9 := Lib.hid hs9
        clear hb9 hs9
        go_wp2_with fail
        have HT := same_Tokens (us.map bareTk) A8 A9 c8 c9 w9 HS89.out HS9.out (by rw [List.length_map]; omega)
        rw [List.length_map] at HT
        refine Calls.mono HT ?_
        rintro r w10 ⟨rfl, hb10⟩
        go_wp2_with fail
        go_ret
        exact ⟨rfl, hw9.trans (hb10.mono hw9.size)⟩
    · have hun : (uk != 0) = true := by simp [huk]
      clear huk
      go_wp2_with fail
      go_ret
      exact ⟨rfl, hw5⟩
  · have hkn : (k == 0) = false := by simp [hk]
    clear hk
    go_wp2_with fail
    refine Calls.mono (HRS.out _) ?_
    rintro r w5 ⟨A5, c5, rfl, _, _, hs5, hb5⟩
    have hw5 : Below w.heap.size w w5 := hw2.trans (hb5.mono hw2.size)
    have HS5 := Lib.hid hs5
    clear hs5 hb5
    by_cases huk : uk = 0
    · subst huk
      obtain ⟨hul, huz, h | ⟨l2, vs, vb, hsp, h92, hrv, hvl, hvm⟩⟩ := read_again s us ua HUS.out
      · obtain ⟨l4, h4, _⟩ := h
        have HU := Lib.hid (fun (W : World) h => word_Spell us A5 c5 W h (by omega) huz)
        rw [h4] at HU
        clear h4 huz
        go_wp2_with fail
        refine Calls.mono (HU.out _ HS5.out) ?_
        rintro r w6 ⟨rfl, hb6⟩
        have hw6 : Below w.heap.size w w6 := hw5.trans (hb6.mono hw5.size)
        clear hb6
        go_wp2_with fail
        refine Calls.mono (same_Error 4 w6 (HG.out.below hw6 hlt)) ?_
        rintro r w7 ⟨rfl, hb7⟩
        go_wp2_with fail
        go_ret
        exact ⟨rfl, hw6.trans (hb7.mono hw6.size)⟩
      · have HU := Lib.hid (fun (W : World) h => word_Spell us A5 c5 W h (by omega) huz)
        rw [hsp] at HU
        have HV := Lib.hid (fun W => word_Read (bsOf l2) W (by rw [bsOf_sz]; omega))
        rw [hrv] at HV
        have HVM := Lib.hid hvm
        clear hsp huz hrv hvm h92
        go_wp2_with fail
        refine Calls.mono (HU.out _ HS5.out) ?_
        rintro r w6 ⟨rfl, hb6⟩
        have hw6 : Below w.heap.size w w6 := hw5.trans (hb6.mono hw5.size)
        have HS6 := Lib.hid (HS5.out.later hb6)
        clear hb6
        go_wp2_with fail
        rw [encStr_bs]
        refine Calls.mono (HV.out _) ?_
        rintro r w7 ⟨A7, c7, rfl, _, _, hs7, hb7⟩
        have hw7 : Below w.heap.size w w7 := hw6.trans (hb7.mono hw6.size)
        have HS7 := Lib.hid hs7
        have HS67 := Lib.hid (HS6.out.later hb7)
        clear hb7 hs7
        go_wp2_with fail
        refine Calls.mono (law_bare vs A7 c7 w7 HS7.out hvl) ?_
        rintro r w8 ⟨A8, c8, rfl, hs8, hb8⟩
        have hw8 : Below w.heap.size w w8 := hw7.trans (hb8.mono hw7.size)
        have HS68 := Lib.hid (HS67.out.later hb8)
        rw [HVM.out] at hs8
        have HS8 := Lib.hid hs8
        have hvul : (vs.map bareTk).length = (us.map bareTk).length := by rw [HVM.out]
        clear hb8 hs8
        go_wp2_with fail
        refine Calls.mono (law_bare us A5 c5 w8 HS68.out hul) ?_
        rintro r w9 ⟨A9, c9, rfl, hs9, hb9⟩
        have hw9 : Below w.heap.size w w9 := hw8.trans (hb9.mono hw8.size)
        have HS89 := Lib.hid (HS8.out.later hb9)
        have HS9 := Lib.hid hs9
        clear hb9 hs9
        go_wp2_with fail
        have HT := same_Tokens (us.map bareTk) A8 A9 c8 c9 w9 HS89.out HS9.out (by rw [List.length_map]; omega)
        rw [List.length_map] at HT
        refine Calls.mono HT ?_
        rintro r w10 ⟨rfl, hb10⟩
        go_wp2_with fail
        go_ret
        exact ⟨rfl, hw9.trans (hb10.mono hw9.size)⟩
    · have hun : (uk != 0) = true := by simp [huk]
      clear huk
      go_wp2_with fail
      go_ret
      exact ⟨rfl, hw5⟩
end Go.Proofs.YtbommoefpekalaaGreatDoor
