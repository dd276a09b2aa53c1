/-
  THE WALKS of the reference: words: Word, signs; all cases.
-/
import Derived.Test.YtbommoefpekalaaGreatDoorRef10
namespace Go.Proofs.YtbommoefpekalaaGreatDoor
open Go.RowKit

/-- The signs' text: so many bytes from each third on. -/
theorem sgx (k : Nat) (hk : k < 19) : ∃ (x2 : ByteArray) (c : UInt8) (x : List UInt8), ByteArray.extract ⟨#[40, 32, 32, 41, 32, 32, 91, 32, 32, 93, 32, 32, 123, 32, 32, 125, 32, 32, 44, 32, 32, 58, 32, 32, 46, 32, 32, 58, 58, 32, 61, 61, 32, 60, 32, 32, 60, 61, 32, 38, 38, 32, 124, 124, 32, 33, 32, 32, 43, 32, 32, 45, 32, 32, 42, 32, 32]⟩ (3 * k) (3 * k + 2) = x2 ∧ x2.size = 2 ∧ x2.toList[1]? = some c ∧ sgR[k]? = some x ∧ (c = 32 → x2.extract 0 1 = bsOf x) ∧ (c ≠ 32 → x2 = bsOf x) := by
  have key : ∀ (a b : UInt8), (⟨#[a, b]⟩ : ByteArray).toList[1]? = some b := fun a b => by rw [ByteArray.toList_mk]; rfl
  match k, hk with
  | 0, _ => exact ⟨⟨#[40, 32]⟩, 32, [40], rfl, rfl, key _ _, rfl, fun _ => rfl, fun h => absurd rfl h⟩
  | 1, _ => exact ⟨⟨#[41, 32]⟩, 32, [41], rfl, rfl, key _ _, rfl, fun _ => rfl, fun h => absurd rfl h⟩
  | 2, _ => exact ⟨⟨#[91, 32]⟩, 32, [91], rfl, rfl, key _ _, rfl, fun _ => rfl, fun h => absurd rfl h⟩
  | 3, _ => exact ⟨⟨#[93, 32]⟩, 32, [93], rfl, rfl, key _ _, rfl, fun _ => rfl, fun h => absurd rfl h⟩
  | 4, _ => exact ⟨⟨#[123, 32]⟩, 32, [123], rfl, rfl, key _ _, rfl, fun _ => rfl, fun h => absurd rfl h⟩
  | 5, _ => exact ⟨⟨#[125, 32]⟩, 32, [125], rfl, rfl, key _ _, rfl, fun _ => rfl, fun h => absurd rfl h⟩
  | 6, _ => exact ⟨⟨#[44, 32]⟩, 32, [44], rfl, rfl, key _ _, rfl, fun _ => rfl, fun h => absurd rfl h⟩
  | 7, _ => exact ⟨⟨#[58, 32]⟩, 32, [58], rfl, rfl, key _ _, rfl, fun _ => rfl, fun h => absurd rfl h⟩
  | 8, _ => exact ⟨⟨#[46, 32]⟩, 32, [46], rfl, rfl, key _ _, rfl, fun _ => rfl, fun h => absurd rfl h⟩
  | 9, _ => exact ⟨⟨#[58, 58]⟩, 58, [58, 58], rfl, rfl, key _ _, rfl, fun h => absurd h (by decide), fun _ => rfl⟩
  | 10, _ => exact ⟨⟨#[61, 61]⟩, 61, [61, 61], rfl, rfl, key _ _, rfl, fun h => absurd h (by decide), fun _ => rfl⟩
  | 11, _ => exact ⟨⟨#[60, 32]⟩, 32, [60], rfl, rfl, key _ _, rfl, fun _ => rfl, fun h => absurd rfl h⟩
  | 12, _ => exact ⟨⟨#[60, 61]⟩, 61, [60, 61], rfl, rfl, key _ _, rfl, fun h => absurd h (by decide), fun _ => rfl⟩
  | 13, _ => exact ⟨⟨#[38, 38]⟩, 38, [38, 38], rfl, rfl, key _ _, rfl, fun h => absurd h (by decide), fun _ => rfl⟩
  | 14, _ => exact ⟨⟨#[124, 124]⟩, 124, [124, 124], rfl, rfl, key _ _, rfl, fun h => absurd h (by decide), fun _ => rfl⟩
  | 15, _ => exact ⟨⟨#[33, 32]⟩, 32, [33], rfl, rfl, key _ _, rfl, fun _ => rfl, fun h => absurd rfl h⟩
  | 16, _ => exact ⟨⟨#[43, 32]⟩, 32, [43], rfl, rfl, key _ _, rfl, fun _ => rfl, fun h => absurd rfl h⟩
  | 17, _ => exact ⟨⟨#[45, 32]⟩, 32, [45], rfl, rfl, key _ _, rfl, fun _ => rfl, fun h => absurd rfl h⟩
  | 18, _ => exact ⟨⟨#[42, 32]⟩, 32, [42], rfl, rfl, key _ _, rfl, fun _ => rfl, fun h => absurd rfl h⟩
  | k + 19, h => omega
def sgT : ByteArray := ⟨#[40, 32, 32, 41, 32, 32, 91, 32, 32, 93, 32, 32, 123, 32, 32, 125, 32, 32, 44, 32, 32, 58, 32, 32, 46, 32, 32, 58, 58, 32, 61, 61, 32, 60, 32, 32, 60, 61, 32, 38, 38, 32, 124, 124, 32, 33, 32, 32, 43, 32, 32, 45, 32, 32, 42, 32, 32]⟩

set_option maxRecDepth 100000 in
set_option maxHeartbeats 6400000 in
theorem r2_Word_sign (s : ByteArray) (i : Nat) (w : World) (hs : s.size ≤ 140737488351232) (hi : i < s.size) (hd : digitI (s[i].toNat : Int) = false) (hl : letterI (s[i].toNat : Int) = false) (h34' : ¬ s[i] = 34) (h63' : ¬ s[i] = 63) :
    Calls Tryz.prog 57 #[.string s, .int .i64 i] w (WdPost w i (wordP (s.toList.drop i))) := by
  have hq : wordP (s.toList.drop i) = if signP (s.toList.drop i) = [] then .bad 1 else .ok 5 (signP (s.toList.drop i)) (signP (s.toList.drop i)).length := by rw [toList_drop s i hi]; exact wordP_sign hd hl h34' h63'
  rw [hq]
  have h34 : ((s[i].toNat : Int) == 34) = false := bne_lit h34'
  have h63 : ((s[i].toNat : Int) == 63) = false := bne_lit h63'
  have HALL := Lib.hid (sgR_all (s.toList.drop i))
  have HBG := Lib.hid (fun x W (hx : x.size ≤ 140737488351232) => r2_begins s i x W hs (Nat.le_of_lt hi) hx)
  clear hq h34' h63'
  generalize s.toList.drop i = l at HALL HBG ⊢
  generalize signP l = L at HALL ⊢
  obtain ⟨q, hq⟩ : ∃ q, (if L = [] then Wd.bad 1 else .ok 5 L L.length) = q := ⟨_, rfl⟩
  rw [hq]
  have HQ := Lib.hid hq
  clear hq
  go_enter Tryz.func57, Tryz.ntmps57
  go_wp2_with (first | (go_at_call 79; refine (r2_isDigit _ _).mono ?_; rintro e w' ⟨rfl, rfl⟩) | (go_at_call 81; refine (r2_isLetter _ _).mono ?_; rintro e w' ⟨rfl, rfl⟩))
  go_loopw [15, 16] (fun ff ii wr => ∃ k j : Nat, ∃ fb : ByteArray, k ≤ 19 ∧ Hid (j = 3 * k) ∧ ii = .int .i64 j ∧ ff = .string fb ∧ fb.size ≤ 2 ∧ Hid (fb = bsOf ((sgR.take k).foldl (sgB l) [])) ∧ Hid (Blk wr w.heap.size 28 #[.int .i64 0, .string ⟨#[]⟩, .int .i64 0]) ∧ Below w.heap.size w wr) (fun _ ii _ => 60 - (intOf ii).toNat)
  case atStart => exact ⟨0, 0, ⟨#[]⟩, by omega, rfl, rfl, rfl, by decide, rfl, Blk.new w _ _, by (repeat (first | assumption | exact Below.refl _ _ | apply Below.drew | apply below_drewN | (refine Below.alloc ?_ (by first | exact Nat.le_refl _ | omega | (simp; done) | (simp; omega)) _)))⟩
  case round =>
    obtain ⟨k, j, fb, hk, HJ, rfl, rfl, hfb, HF, HT, hbr⟩ := hrel
    by_cases hlt : k < 19
    · obtain ⟨x2, c, x, hx2, hx2s, hc, hx, h32, hn32⟩ := sgx k hlt
      have hj57 : j + 3 ≤ 57 := by have := HJ.out; omega
      rw [← HJ.out] at hx2
      have HX := Lib.hid hx
      have HXL : Hid (x.length ≤ 2) := by
        have h1 : ∀ y ∈ sgR, y.length ≤ 2 := by decide
        exact h1 x (List.mem_of_getElem? hx)
      have hsl1 : ∀ W : World, (Instr.slice 9 (.string ⟨#[40, 32, 32, 41, 32, 32, 91, 32, 32, 93, 32, 32, 123, 32, 32, 125, 32, 32, 44, 32, 32, 58, 32, 32, 46, 32, 32, 58, 58, 32, 61, 61, 32, 60, 32, 32, 60, 61, 32, 38, 38, 32, 124, 124, 32, 33, 32, 32, 43, 32, 32, 45, 32, 32, 42, 32, 32]⟩) (some (.int .i64 (j : Int))) (some (.int .i64 ((j : Int) + 2))) none).run Tryz.prog W = .ok (.string x2) W := fun W => by
        rw [← hx2]
        have h57 : (⟨#[40, 32, 32, 41, 32, 32, 91, 32, 32, 93, 32, 32, 123, 32, 32, 125, 32, 32, 44, 32, 32, 58, 32, 32, 46, 32, 32, 58, 58, 32, 61, 61, 32, 60, 32, 32, 60, 61, 32, 38, 38, 32, 124, 124, 32, 33, 32, 32, 43, 32, 32, 45, 32, 32, 42, 32, 32]⟩ : ByteArray).size = 57 := rfl
        have e1 : (j : Int).toNat = j := rfl
        have e2 : ((j : Int) + 2).toNat = j + 2 := by omega
        rw [run_slice_string_if W 9 _ .i64 .i64 (j : Int) ((j : Int) + 2) Tryz.underlying9, if_pos (by omega), if_pos (by omega), e1, e2]
      have hix : ∀ W, (Instr.index 9 (.string x2) (.int .i64 1)).run Tryz.prog W = .ok (.int .u8 (c.toNat : Int)) W := fun W => by
        have h1 := run_index_str x2 1 (by omega) W
        have h2 := toList_get x2 1 (by omega)
        rw [hc] at h2
        injection h2 with h2
        rw [← h2] at h1
        exact h1
      have hsl2 : ∀ W : World, (Instr.slice 9 (.string x2) none (some (.int .i64 1)) none).run Tryz.prog W = .ok (.string (x2.extract 0 1)) W := fun W => by
        go_simp
      clear hx2 hx hc
      by_cases hc32 : c = 32
      · have t32 : ((c.toNat : Int) == 32) = true := beq_lit hc32
        have h32 := h32 hc32
        clear hc32 hn32
        obtain ⟨xb, hxb⟩ : ∃ xb, x2.extract 0 1 = xb := ⟨_, rfl⟩
        rw [hxb] at hsl2 h32
        clear hxb
        have hxl : Hid (xb.toList = x) := by show _ = _; rw [h32, ByteArray.toList_eq]; rfl
        clear h32 hx2s
        have hxs : xb.size = x.length := by rw [← toList_len, hxl.out]
        have hxz : xb.size ≤ 140737488351232 := by have := HXL.out; omega
        have HB := Lib.hid (fun W => HBG.out xb W hxz)
        rw [hxl.out] at HB
        have hstep := sgR_step HX.out l
        rw [← show fb.toList = (sgR.take k).foldl (sgB l) [] from by rw [HF.out, ByteArray.toList_eq]; rfl] at hstep
        unfold sgB at hstep
        rw [toList_len] at hstep
        by_cases hp : x.isPrefixOf l = true
        · rw [hp] at HB
          by_cases hlen : fb.size < x.length
          · rw [if_pos ⟨hp, hlen⟩] at hstep
            have hlen' : (fb.size : Int) < xb.size := by omega
            have HF2 : Hid (xb = bsOf ((sgR.take (k + 1)).foldl (sgB l) [])) := by show _ = _; unfold sgB; rw [hstep]; exact bs_eq hxl.out
            have hx2l : xb.size ≤ 2 := by have := HXL.out; omega
            clear hstep hp hlen hxs
            go_wp2_with fail
            refine Calls.mono (HB.out _) ?_
            rintro r w2 ⟨rfl, hb2⟩
            go_wp2_with fail
            exact ⟨⟨k + 1, j + 3, _, by omega, by have := HJ.out; show _ = _; omega, by go_num, rfl, hx2l, HF2, Lib.hid (HT.out.below hb2 HT.out.lt), hbr.trans (hb2.mono hbr.size)⟩, by simp [intOf]; omega⟩
          · rw [if_neg (fun h => hlen h.2)] at hstep
            have hlen' : ¬ (fb.size : Int) < xb.size := by omega
            have HF2 : Hid (fb = bsOf ((sgR.take (k + 1)).foldl (sgB l) [])) := by show _ = _; unfold sgB; rw [hstep]; exact bs_eq rfl
            clear hstep hp hlen hxs
            go_wp2_with fail
            refine Calls.mono (HB.out _) ?_
            rintro r w2 ⟨rfl, hb2⟩
            go_wp2_with fail
            exact ⟨⟨k + 1, j + 3, _, by omega, by have := HJ.out; show _ = _; omega, by go_num, rfl, hfb, HF2, Lib.hid (HT.out.below hb2 HT.out.lt), hbr.trans (hb2.mono hbr.size)⟩, by simp [intOf]; omega⟩
        · have hp0 : x.isPrefixOf l = false := Bool.eq_false_iff.2 hp
          rw [hp0] at HB
          rw [if_neg (fun h => hp h.1)] at hstep
          have HF2 : Hid (fb = bsOf ((sgR.take (k + 1)).foldl (sgB l) [])) := by show _ = _; unfold sgB; rw [hstep]; exact bs_eq rfl
          clear hstep hp hp0 hxs
          go_wp2_with fail
          refine Calls.mono (HB.out _) ?_
          rintro r w2 ⟨rfl, hb2⟩
          go_wp2_with fail
          exact ⟨⟨k + 1, j + 3, _, by omega, by have := HJ.out; show _ = _; omega, by go_num, rfl, hfb, HF2, Lib.hid (HT.out.below hb2 HT.out.lt), hbr.trans (hb2.mono hbr.size)⟩, by simp [intOf]; omega⟩
      · have t32 : ((c.toNat : Int) == 32) = false := bne_lit hc32
        have hn32 := hn32 hc32
        clear hc32 h32
        have hxl : Hid (x2.toList = x) := by show _ = _; rw [hn32, ByteArray.toList_eq]; rfl
        clear hn32 hx2s
        have hxs : x2.size = x.length := by rw [← toList_len, hxl.out]
        have hxz : x2.size ≤ 140737488351232 := by have := HXL.out; omega
        have HB := Lib.hid (fun W => HBG.out x2 W hxz)
        rw [hxl.out] at HB
        have hstep := sgR_step HX.out l
        rw [← show fb.toList = (sgR.take k).foldl (sgB l) [] from by rw [HF.out, ByteArray.toList_eq]; rfl] at hstep
        unfold sgB at hstep
        rw [toList_len] at hstep
        by_cases hp : x.isPrefixOf l = true
        · rw [hp] at HB
          by_cases hlen : fb.size < x.length
          · rw [if_pos ⟨hp, hlen⟩] at hstep
            have hlen' : (fb.size : Int) < x2.size := by omega
            have HF2 : Hid (x2 = bsOf ((sgR.take (k + 1)).foldl (sgB l) [])) := by show _ = _; unfold sgB; rw [hstep]; exact bs_eq hxl.out
            have hx2l : x2.size ≤ 2 := by have := HXL.out; omega
            clear hstep hp hlen hxs
            go_wp2_with fail
            refine Calls.mono (HB.out _) ?_
            rintro r w2 ⟨rfl, hb2⟩
            go_wp2_with fail
            exact ⟨⟨k + 1, j + 3, _, by omega, by have := HJ.out; show _ = _; omega, by go_num, rfl, hx2l, HF2, Lib.hid (HT.out.below hb2 HT.out.lt), hbr.trans (hb2.mono hbr.size)⟩, by simp [intOf]; omega⟩
          · rw [if_neg (fun h => hlen h.2)] at hstep
            have hlen' : ¬ (fb.size : Int) < x2.size := by omega
            have HF2 : Hid (fb = bsOf ((sgR.take (k + 1)).foldl (sgB l) [])) := by show _ = _; unfold sgB; rw [hstep]; exact bs_eq rfl
            clear hstep hp hlen hxs
            go_wp2_with fail
            refine Calls.mono (HB.out _) ?_
            rintro r w2 ⟨rfl, hb2⟩
            go_wp2_with fail
            exact ⟨⟨k + 1, j + 3, _, by omega, by have := HJ.out; show _ = _; omega, by go_num, rfl, hfb, HF2, Lib.hid (HT.out.below hb2 HT.out.lt), hbr.trans (hb2.mono hbr.size)⟩, by simp [intOf]; omega⟩
        · have hp0 : x.isPrefixOf l = false := Bool.eq_false_iff.2 hp
          rw [hp0] at HB
          rw [if_neg (fun h => hp h.1)] at hstep
          have HF2 : Hid (fb = bsOf ((sgR.take (k + 1)).foldl (sgB l) [])) := by show _ = _; unfold sgB; rw [hstep]; exact bs_eq rfl
          clear hstep hp hp0 hxs
          go_wp2_with fail
          refine Calls.mono (HB.out _) ?_
          rintro r w2 ⟨rfl, hb2⟩
          go_wp2_with fail
          exact ⟨⟨k + 1, j + 3, _, by omega, by have := HJ.out; show _ = _; omega, by go_num, rfl, hfb, HF2, Lib.hid (HT.out.below hb2 HT.out.lt), hbr.trans (hb2.mono hbr.size)⟩, by simp [intOf]; omega⟩
    · have hk19 : k = 19 := by omega
      subst hk19
      have hj : j = 57 := by have := HJ.out; omega
      have hjlt : ¬ (j : Int) < 57 := by omega
      have hFL : fb = bsOf L := by rw [HF.out, show sgR.take 19 = sgR from rfl, HALL.out]
      have hbs : fb.size = L.length := by rw [hFL]; rfl
      have hbt : fb.toList = L := by rw [hFL, ByteArray.toList_eq]; rfl
      have hk0 := HT.out.cell
      have hf0 := HT.out.frozen
      have hl0 := HT.out.lt
      by_cases he : L = []
      · have HR : Hid (q = .bad 1) := by show _ = _; rw [← HQ.out, if_pos he]
        have hem : fb.toList.isEmpty = true := by rw [hbt, he]; rfl
        clear hFL hbs hbt he hj
        go_wp2_with fail
        refine bodyPost_ret (v := wdV i (.bad 1)) (by simp [results, Tryz.results57, go_sem, wdV, hk0]) rfl (WdPost.mk (by rw [HR.out]) (((hbr.setCell (p := ⟨w.heap.size, 0, none⟩) (Nat.le_refl _) _).setCell (p := ⟨w.heap.size, 1, none⟩) (Nat.le_refl _) _).setCell (p := ⟨w.heap.size, 2, none⟩) (Nat.le_refl _) _))
      · have HR : Hid (q = .ok 5 L L.length) := by show _ = _; rw [← HQ.out, if_neg he]
        have hem : fb.toList.isEmpty = false := by rw [hbt]; cases L with | nil => exact absurd rfl he | cons => rfl
        have HV : Hid (Ending.returned (.tuple #[.agg #[.int .i64 5, .string fb, .int .i64 i], .int .i64 ((i : Int) + (fb.size : Int)), .int .i64 0]) = Ending.returned (wdV i q)) := by
          show _ = _
          rw [HR.out]
          have := wdV_ok (i := i) (j := i + fb.size) (k := 5) hFL (by rw [hbs])
          exact this
        clear hFL hbs hbt he hj
        go_wp2_with fail
        refine bodyPost_ret (v := .tuple #[.agg #[.int .i64 5, .string fb, .int .i64 i], .int .i64 ((i : Int) + (fb.size : Int)), .int .i64 0]) (by simp [results, Tryz.results57, go_sem, hk0]) rfl (WdPost.mk HV.out (((hbr.setCell (p := ⟨w.heap.size, 0, none⟩) (Nat.le_refl _) _).setCell (p := ⟨w.heap.size, 1, none⟩) (Nat.le_refl _) _).setCell (p := ⟨w.heap.size, 2, none⟩) (Nat.le_refl _) _))

theorem r2_Word (s : ByteArray) (i : Nat) (w : World) (hs : s.size ≤ 140737488351232) (hi : i < s.size) :
    Calls Tryz.prog 57 #[.string s, .int .i64 i] w (WdPost w i (wordP (s.toList.drop i))) := by
  by_cases hd : digitI (s[i].toNat : Int) = true
  · exact r2_Word_num s i w hs hi hd
  · have hd : digitI (s[i].toNat : Int) = false := by simpa using hd
    by_cases hl : letterI (s[i].toNat : Int) = true
    · exact r2_Word_name s i w hs hi hd hl
    · have hl : letterI (s[i].toNat : Int) = false := by simpa using hl
      by_cases h34 : s[i] = 34
      · exact r2_Word_quo s i w hs hi hd hl h34
      · by_cases h63 : s[i] = 63
        · exact r2_Word_slot s i w hs hi hd hl h34 h63
        · exact r2_Word_sign s i w hs hi hd hl h34 h63
end Go.Proofs.YtbommoefpekalaaGreatDoor
