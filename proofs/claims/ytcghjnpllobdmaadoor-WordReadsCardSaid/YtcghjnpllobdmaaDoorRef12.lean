/-
  THE WALKS of the reference: words: Words; the laws' comparison of tokens.
-/
import Derived.Test.YtcghjnpllobdmaaDoorRef11
namespace Go.Proofs.YtcghjnpllobdmaaDoor
open Go.RowKit

/-- Words, a place, a number that a call hands back. -/
def ToksNum (w : World) (r : Ending) (w' : World) (q : List Tk × Nat × Int) : Prop :=
  ∃ A c, r = .returned (.tuple #[.slice A q.1.length c, .int .i64 q.2.1, .int .i64 q.2.2]) ∧ q.1.length ≤ c ∧ c ≤ 9223372036854775807 ∧ TkSl w' w'.heap.size A q.1 ∧ Below w.heap.size w w'
theorem ToksNum.none {w w' : World} {i : Nat} {k : Int} (h : Below w.heap.size w w') : ToksNum w (.returned (.tuple #[.slice none 0 0, .int .i64 i, .int .i64 k])) w' ([], i, k) := ⟨Option.none, 0, rfl, Nat.le_refl _, by omega, SlG.nil _ _ _, h⟩

set_option maxRecDepth 100000 in
set_option maxHeartbeats 6400000 in
theorem r2_Words (s : ByteArray) (w : World) (hs : s.size ≤ 140737488351232) :
    Calls Tryd.prog 12 #[.string s] w fun r w' => ToksNum w r w' (readP s) := by
  obtain ⟨i0, hi, hz0, hz1, hz2⟩ := info_parts tok_info
  by_cases h : 900 < s.size
  · have hv : readP s = ([], 0, 4) := by simp [readP, h]
    rw [hv]
    have h9 : 900 < (s.size : Int) := by omega
    clear hv h
    go_enter Tryd.func12, Tryd.ntmps12
    go_wp2_with fail
    go_ret3
    exact ToksNum.none (k := 4) (Below.refl _ _)
  · obtain ⟨q, hq⟩ : ∃ q, readP s = q := ⟨_, rfl⟩
    rw [hq]
    rw [readP_R, if_neg h] at hq
    have HQ := Lib.hid hq
    clear hq
    have h9 : ¬ 900 < (s.size : Int) := by omega
    go_enter Tryd.func12, Tryd.ntmps12
    go_wp2_with fail
    go_loopw [5, 6] (fun oo ii wr => ∃ p : Nat, ∃ toks : List Tk, ∃ A c, oo = .slice A toks.length c ∧ ii = .int .i64 p ∧ p ≤ s.size ∧ toks.length ≤ 300 ∧ Hid (lineR (s.toList.drop p) p toks = q) ∧
      Hid (wr.ownsRow w.heap.size 28 3 (.slice A toks.length c) toks.length (flatG Tk.cells toks)) ∧ Below w.heap.size w wr) (fun _ ii _ => s.size - (intOf ii).toNat)
    case atStart => exact ⟨0, [], none, 0, rfl, rfl, by omega, by simp, HQ.out, World.ownsRow_nil _ _ _ _, Below.refl _ _⟩
    case round =>
      obtain ⟨p, toks, A, c, rfl, rfl, hp, htl, HP, HO, hbr⟩ := hrel
      have hzr := hbr.size
      by_cases hlt : p < s.size
      · have hsd := toList_drop s p hlt
        by_cases h32 : s[p] = 32
        · have t32 : ((s[p].toNat : Int) == 32) = true := beq_lit h32
          have HP2 : Hid (lineR (s.toList.drop (p + 1)) (p + 1) toks = q) := by
            show _ = _
            rw [← HP.out, hsd, h32, lineR_blank]
          clear h32 hsd HP
          go_wp2_with fail
          exact ⟨⟨p + 1, toks, A, c, rfl, by go_num, by omega, htl, HP2, HO, hbr⟩, by simp [intOf]; omega⟩
        · have t32 : ((s[p].toNat : Int) == 32) = false := bne_lit h32
          have HWW := Lib.hid (fun W => r2_Word s p W hs hlt)
          cases hw : wordP (s.toList.drop p) with
          | bad k =>
            have HR : Hid (q = ([], p, k)) := by
              show _ = _
              rw [← HP.out, hsd]
              rw [hsd] at hw
              exact lineR_bad h32 hw _ _
            have hk : ¬ k = 0 := fun e => wordP_ne0 (e ▸ hw)
            have hk1 : (k == 0) = false := by simp [hk]
            have hk2 : (k != 0) = true := by simp [hk]
            rw [hw] at HWW
            clear hw hk h32 hsd HP
            go_wp2_with fail
            refine Calls.mono (HWW.out _) ?_
            rintro r w2 ⟨he, hb2⟩
            have he : r = .returned (.tuple #[.agg #[.int .i64 0, .string ⟨#[]⟩, .int .i64 0], .int .i64 0, .int .i64 k]) := he
            subst he
            go_wp2_with fail
            go_ret3
            rw [HR.out]
            exact ToksNum.none ((hbr.trans (hb2.mono hzr)).alloc (by have := hb2.size; omega) _)
          | ok kind t n =>
            have hn := wordP_n hw
            rw [List.length_drop, toList_len] at hn
            have HR : Hid (q = if toks.length = 300 then ([], p, 4) else lineR (s.toList.drop (p + n)) (p + n) (toks ++ [⟨kind, bsOf t, p⟩])) := by
              show _ = _
              rw [← HP.out, hsd]
              rw [hsd] at hw
              rw [lineR_ok h32 hw, ← hsd, List.drop_drop]
            rw [hw] at HWW
            clear hw h32 hsd HP
            by_cases h300 : toks.length = 300
            · rw [if_pos h300] at HR
              have t3 : (300 : Int) ≤ (toks.length : Int) := by omega
              clear h300
              go_wp2_with fail
              refine Calls.mono (HWW.out _) ?_
              rintro r w2 ⟨he, hb2⟩
              have he : r = .returned (.tuple #[.agg #[.int .i64 kind, .string (bsOf t), .int .i64 p], .int .i64 ((p : Int) + n), .int .i64 0]) := he
              subst he
              go_wp2_with fail
              go_ret3
              rw [HR.out]
              exact ToksNum.none (k := 4) ((hbr.trans (hb2.mono hzr)).alloc (by have := hb2.size; omega) _)
            · rw [if_neg h300] at HR
              have t3 : ¬ (300 : Int) ≤ (toks.length : Int) := by omega
              have htl2 : toks.length < 300 := by omega
              clear h300
              go_wp2_with fail
              refine Calls.mono (HWW.out _) ?_
              rintro r w2 ⟨he, hb2⟩
              have he : r = .returned (.tuple #[.agg #[.int .i64 kind, .string (bsOf t), .int .i64 p], .int .i64 ((p : Int) + n), .int .i64 0]) := he
              subst he
              have hzw := hb2.size
              have HO2 := Lib.hid (own_keep HO.out hb2)
              have hw2 : Below w.heap.size w w2 := hbr.trans (hb2.mono hzr)
              clear hb2
              go_wp2_with (at_builtin; refine wpList_append_own _ rfl (.tmp 41) (.tmp 43) 22 rfl w.heap.size 28 i0 _ 3 32 Tryd.underlying22 hi hz0 hz1 hz2 rfl (by omega) (.slice A toks.length c) toks.length (flatG Tk.cells toks) rfl ((HO2.out.alloc _).alloc _) ⟨w2.heap.size + 1, 0, none⟩ 1 1 (flatG Tk.cells [⟨kind, bsOf t, p⟩]) rfl rfl (new_flatG _ _ (⟨kind, bsOf t, p⟩ : Tk) _ rfl _ (by simp)) (flatG_cell tk_ok [⟨kind, bsOf t, p⟩]) (by unfold maxLen; omega) (by omega) (by simp; omega) ?_)
              intro v1 w3 hown1 hgrow1 _
              rw [← flatG_append] at hown1
              obtain ⟨_, A2, c2, hv2, _⟩ := own_formG tk_ok hown1
              have hb3 : Below w.heap.size w w3 := ((hw2.alloc (by omega) _).alloc (by simp; omega) _).grown hgrow1 (by simp; omega) (fun g hg => (HO2.out.lt g hg).1)
              rw [hv2] at hown1 ⊢
              have HO3 := Lib.hid hown1
              clear hown1 hgrow1 hv2
              go_wp2_with fail
              exact ⟨⟨p + n, toks ++ [⟨kind, bsOf t, p⟩], A2, c2, by rw [List.length_append]; rfl, by go_num, by omega, by rw [List.length_append, List.length_singleton]; omega, Lib.hid HR.out.symm, by rw [List.length_append, List.length_singleton]; exact HO3, hb3⟩, by simp [intOf]; omega⟩
      · have HR : Hid (q = (toks, 0, 0)) := by show _ = _; rw [← HP.out, drop_noneW s p (by omega)]; rfl
        clear HP
        go_wp2_with fail
        go_ret3
        rw [HR.out]
        obtain ⟨q1, q2, q3⟩ := toks_end HO.out
        exact ⟨A, c, rfl, q1, q2, q3, hbr⟩

set_option maxHeartbeats 800000 in
theorem same_Tokens (xs : List Tk) (A1 A2 : Option Addr) (c1 c2 : Nat) (w : World) (h1 : TkSl w w.heap.size A1 xs) (h2 : TkSl w w.heap.size A2 xs) (l1 : xs.length ≤ 9223372036854775807) :
    Calls Tryd.prog 13 #[.slice A1 xs.length c1, .slice A2 xs.length c2] w fun r w' => r = .returned (.bool true) ∧ RowKit.Below w.heap.size w w' := by
  have H1 := Lib.hid h1
  have H2 := Lib.hid h2
  have hne : ((xs.length : Int) != (xs.length : Int)) = false := by simp
  clear h1 h2
  go_enter Tryd.func13, Tryd.ntmps13
  go_wp2_with fail
  go_loopw [5] (fun kk wr => ∃ k : Nat, kk = .int .i64 k ∧ k ≤ xs.length ∧ RowKit.Below w.heap.size w wr) (fun kk _ => xs.length - (intOf kk).toNat)
  case atStart => exact ⟨0, rfl, by omega, RowKit.Below.refl _ _⟩
  case round =>
    obtain ⟨k, rfl, hk, hbr⟩ := hrel
    by_cases hlt : k < xs.length
    · obtain ⟨x, hx⟩ : ∃ x, xs[k]? = some x := ⟨_, List.getElem?_eq_getElem hlt⟩
      obtain ⟨b, o, rfl, hb, ⟨d0, d1, d2⟩⟩ := tkSl_at (H1.out.below hbr) hx
      obtain ⟨b2, o2, rfl, hb2, ⟨f0, f1, f2⟩⟩ := tkSl_at (H2.out.below hbr) hx
      clear hx
      go_wp2_with fail
      go_quiet (fail)
      go_wp2_with fail
      exact ⟨⟨k + 1, by go_num, by omega, below_drewN hbr _⟩, by simp [intOf]; omega⟩
    · go_wp2_with fail
      go_ret
      exact ⟨rfl, hbr⟩
end Go.Proofs.YtcghjnpllobdmaaDoor
