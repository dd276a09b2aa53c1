/-
  THE WALKS: (*strings.Replacer).Replace of a fresh replacer; name.Quote.
-/
import Derived.Test.YtbommoefpekalaaGreatDoorQuote4
import Derived.Test.YtbommoefpekalaaGreatDoorOnce1
import Derived.Test.YtbommoefpekalaaGreatDoorSpPlain
namespace Go.Proofs.YtbommoefpekalaaGreatDoor
open Go.RowKit Go.Sort

set_option maxRecDepth 100000 in
set_option maxHeartbeats 1600000 in
theorem rep_Replace (r : Nat) (w : World) (s : ByteArray) (hr : RepNew w r) (hs : s.size ≤ 1000) :
    Calls Tryz.prog 76 #[.pointer (some ⟨r, 0, none⟩), .string s] w fun e w' => e = .returned (.string ⟨(escP s.toList).toArray⟩) ∧ Only w.heap.size r w w' := by
  obtain ⟨A, c, hb, hsl⟩ := hr
  have hlt := hb.lt
  have c0 : w.cell? ⟨r, 0, none⟩ = some (.int .u32 0) := hb.cell 0
  have c1 : w.cell? ⟨r, 1, none⟩ = some (.int .i32 0) := hb.cell 1
  have f1 := hb.frozen 1
  have hb1 : Blk (w.setCell ⟨r, 1, none⟩ (.int .i32 1)) r 169 #[.int .u32 0, .int .i32 1, .int .u32 0, .nilIface, .slice A 4 c] := hb.set 1 _
  have hB : Calls Tryz.prog 101 #[.pointer (some ⟨r, 0, none⟩)] (w.setCell ⟨r, 1, none⟩ (.int .i32 1)) fun e w' => e = .returned (.tuple #[]) ∧ (RepDone w' w.heap.size r (.int .u32 0) (.int .i32 1) (.int .u32 0) ∧ Only w.heap.size r w w') := by
    refine (rep_buildOnce r _ A c _ _ _ _ hb1 ?_).mono ?_
    · rw [World.size_setCell]
      exact (hsl.keep fun p hp => World.cell?_setCell_other w ⟨r, 1, none⟩ p _ (by rintro rfl; simp at hp)).more (Nat.le_of_lt hlt)
    · rintro e w' ⟨rfl, h1, h2⟩
      rw [World.size_setCell] at h1 h2
      exact ⟨rfl, h1, ((Only.refl _ _ _).setCell (p := ⟨r, 1, none⟩) (.inl rfl) _).trans h2⟩
  have hm : ∀ (a : Addr) (w : World), (method 396 213 (.pointer (some a)) "Replace").run Tryz.prog w = .ok (209, .pointer (some a)) w := fun _ _ => by kernel_rfl
  go_enter Tryz.func76, Tryz.ntmps76
  go_wp2_with fail
  refine (once_Do r _ #[.pointer (some ⟨r, 0, none⟩)] rfl w _ c0 c1 f1 hB ?_).mono ?_
  · rintro w' ⟨⟨g, hd, _⟩, _⟩
    exact ⟨hd.cell 0, hd.cell 1, hd.frozen 0, hd.frozen 1⟩
  rintro e w' ⟨rfl, w2, ⟨⟨g, hd, htab⟩, honly⟩, rfl⟩
  have hlt2 : r < w2.heap.size := hd.lt
  have hd4 : Blk ((w2.drew.setCell ⟨r, 0, none⟩ (.int .u32 1)).setCell ⟨r, 1, none⟩ (.int .i32 0)) r 169 #[.int .u32 1, .int .i32 0, .int .u32 0, .iface 213 (.pointer (some ⟨g, 0, none⟩)), .slice none 0 0] := (hd.drew.set 0 _).set 1 _
  have ht4 : RepTab ((w2.drew.setCell ⟨r, 0, none⟩ (.int .u32 1)).setCell ⟨r, 1, none⟩ (.int .i32 0)) w.heap.size ((w2.drew.setCell ⟨r, 0, none⟩ (.int .u32 1)).setCell ⟨r, 1, none⟩ (.int .i32 0)).heap.size g := by
    rw [World.size_setCell, World.size_setCell]
    exact htab.keep (by rw [World.size_setCell, World.size_setCell]; exact Nat.le_refl _) fun g i hg _ => (World.cell?_setCell_other _ ⟨r, 1, none⟩ ⟨g, i, none⟩ _ (by simp)).trans (World.cell?_setCell_other w2.drew ⟨r, 0, none⟩ ⟨g, i, none⟩ _ (by simp))
  have ho4 : Only w.heap.size r w ((w2.drew.setCell ⟨r, 0, none⟩ (.int .u32 1)).setCell ⟨r, 1, none⟩ (.int .i32 0)) := (honly.drew.setCell (p := ⟨r, 0, none⟩) (.inl rfl) _).setCell (p := ⟨r, 1, none⟩) (.inl rfl) _
  generalize hW : (w2.drew.setCell ⟨r, 0, none⟩ (.int .u32 1)).setCell ⟨r, 1, none⟩ (.int .i32 0) = W at hd4 ht4 ho4 ⊢
  clear hW hB hd htab honly hsl hb hb1 c0 c1 f1
  have c3 : W.cell? ⟨r, 3, none⟩ = some (.iface 213 (.pointer (some ⟨g, 0, none⟩))) := hd4.cell 3
  go_wp2_with fail
  refine (bsr_Replace g w.heap.size s W ht4 hs).mono ?_
  rintro e w' ⟨rfl, hbw⟩
  go_wp2_with fail
  go_ret
  exact ⟨rfl, ho4.trans (Only.of_below hbw (by have := ho4.size; exact this))⟩
set_option maxRecDepth 100000 in
set_option maxHeartbeats 1600000 in
theorem name_Quote (s : ByteArray) (w : World) (hs : s.size ≤ 140737488351232) :
    Calls Tryz.prog 51 #[.string s] w fun e w' => e = .returned (.tuple #[encStr (quoteV s.toList), errV (textErr s.toList)]) ∧ Below w.heap.size w w' := by
  by_cases he : textErr s.toList = 0
  · have h60 : s.size ≤ 1000 := by
      unfold textErr at he
      split at he
      · cases he
      · rename_i h; rw [toList_len] at h; omega
    have HE := Lib.hid he
    clear he
    have hP := name_Plain s
    rw [HE.out, errV_zero] at hP
    have HP := Lib.hid hP
    clear hP
    go_enter Tryz.func51, Tryz.ntmps51
    go_wp2_with fail
    refine (HP.out _ hs).mono ?_
    rintro e w1 ⟨rfl, hb1⟩
    go_wp2_with fail
    refine (rep_New w1.heap.size _ (by simp) ?_).mono ?_
    · intro i l hl
      rw [World.cell?_alloc_new]
      match i, hl with
      | 0, hl => cases hl; rfl
      | 1, hl => cases hl; rfl
      | 2, hl => cases hl; rfl
      | 3, hl => cases hl; rfl
    rintro e w2 ⟨r, rfl, hr, hrep, hb2⟩
    have hbel : Below w.heap.size w w2 := (hb1.alloc hb1.size _).trans (hb2.mono (by simp; have := hb1.size; omega))
    have hrw : w.heap.size ≤ r := by simp at hr; have := hb1.size; omega
    clear hb2 hr hb1
    go_wp2_with fail
    refine (rep_Replace r w2 s hrep h60).mono ?_
    rintro e w3 ⟨rfl, ho⟩
    have hqz : (⟨(escP s.toList).toArray⟩ : ByteArray).size ≤ 2000 := by
      show (escP s.toList).toArray.size ≤ 2000
      rw [List.size_toArray, escP_len]
      have := escN_le s.toList
      rw [toList_len] at this ⊢
      omega
    generalize hq : (⟨(escP s.toList).toArray⟩ : ByteArray) = qs at hqz ⊢
    have HQ := Lib.hid hq
    clear hq
    go_wp2_with fail
    go_ret2
    refine ⟨?_, hbel.trans (ho.below hbel.size hrw)⟩
    rw [quoteV, if_pos HE.out, HE.out, errV_zero, ← HQ.out]
    rfl
  · have hne : (textErr s.toList != 0) = true := by simp [he]
    have HE := Lib.hid he
    clear he
    go_enter Tryz.func51, Tryz.ntmps51
    go_wp2_with fail
    refine (name_Plain s _ hs).mono ?_
    rintro e w1 ⟨rfl, hb1⟩
    go_wp2_with fail
    go_ret2
    exact ⟨by rw [quoteV, if_neg HE.out]; rfl, hb1⟩
end Go.Proofs.YtbommoefpekalaaGreatDoor
