/-
  THE WALKS: package word: sign.
-/
import Derived.Test.YtbommoefpekalaaGreatDoorWord2
import Derived.Test.YtbommoefpekalaaGreatDoorShelf
import Derived.Test.YtbommoefpekalaaGreatDoorWPlain2
namespace Go.Proofs.YtbommoefpekalaaGreatDoor
open Go.RowKit Go.Sort

def sgL : List (List UInt8) := [[58, 58], [61, 61], [60, 61], [38, 38], [124, 124], [40], [41], [91], [93], [123], [125], [44], [58], [46], [60], [33], [43], [45], [42]]
def sgF (xs : List (List UInt8)) (l : List UInt8) : List UInt8 := (xs.find? fun x => x.isPrefixOf l).getD []
theorem pre1 (x : UInt8) (r : List UInt8) : List.isPrefixOf [x] r = (r.head? == some x) := by
  cases r with
  | nil => rfl
  | cons b r => simp only [List.isPrefixOf, List.head?_cons, Bool.and_true, Option.some_beq_some]; exact BEq.comm
theorem pre2 (x y a : UInt8) (r : List UInt8) : List.isPrefixOf [x, y] (a :: r) = (x == a && r.head? == some y) := by
  rw [List.isPrefixOf_cons_cons, pre1]
theorem head1 (a : UInt8) (r : List UInt8) (x : UInt8) : List.isPrefixOf [x] (a :: r) = (x == a) := by rw [pre1, List.head?_cons]; exact BEq.comm
theorem sgF_eq (l : List UInt8) : sgF sgL l = signP l := by
  cases l with
  | nil => rfl
  | cons a r =>
    rw [signP_cons]
    by_cases h1 : sign1 a = true
    · rw [if_pos h1]
      unfold sign1 at h1
      simp only [Bool.or_eq_true, beq_iff_eq, or_assoc] at h1
      rcases h1 with rfl | rfl | rfl | rfl | rfl | rfl | rfl | rfl | rfl | rfl | rfl | rfl <;> simp only [sgF, sgL, List.find?, head1, pre2] <;> simp
    · rw [if_neg h1]
      by_cases h2 : a = 58
      · subst h2
        rw [if_pos rfl]
        cases hb : (r.head? == some 58) <;> simp only [sgF, sgL, List.find?, head1, pre2, hb] <;> simp at hb <;> simp [hb]
      · rw [if_neg h2]
        by_cases h3 : a = 60
        · subst h3
          rw [if_pos rfl]
          cases hb : (r.head? == some 61) <;> simp only [sgF, sgL, List.find?, head1, pre2, hb] <;> simp at hb <;> simp [hb]
        · rw [if_neg h3]
          unfold sign1 at h1
          simp only [Bool.or_eq_true, beq_iff_eq, not_or] at h1
          obtain ⟨⟨⟨⟨⟨⟨⟨⟨⟨⟨⟨n1, n2⟩, n3⟩, n4⟩, n5⟩, n6⟩, n7⟩, n8⟩, n9⟩, n10⟩, n11⟩, n12⟩ := h1
          have e : ∀ x : UInt8, a ≠ x → (x == a) = false := fun x h => by simpa using Ne.symm h
          by_cases h4 : a = 61
          · subst h4; cases hb : (r.head? == some 61) <;> simp only [sgF, sgL, List.find?, head1, pre2, hb] <;> simp at hb <;> simp [hb]
          · by_cases h5 : a = 38
            · subst h5; cases hb : (r.head? == some 38) <;> simp only [sgF, sgL, List.find?, head1, pre2, hb] <;> simp at hb <;> simp [hb]
            · by_cases h6 : a = 124
              · subst h6; cases hb : (r.head? == some 124) <;> simp only [sgF, sgL, List.find?, head1, pre2, hb] <;> simp at hb <;> simp [hb]
              · rw [if_neg (by rintro ⟨h | h | h, _⟩; exact h4 h; exact h5 h; exact h6 h)]
                simp only [sgF, sgL, List.find?, head1, pre2] <;> simp [e _ n1, e _ n2, e _ n3, e _ n4, e _ n5, e _ n6, e _ n7, e _ n8, e _ n9, e _ n10, e _ n11, e _ n12, e _ h2, e _ h3, e _ h4, e _ h5, e _ h6]
theorem sgF_hit {k : Nat} {x l : List UInt8} (h : sgL[k]? = some x) (hp : x.isPrefixOf l = true) : sgF (sgL.drop k) l = x := by
  have hk := (List.getElem?_eq_some_iff.1 h).1
  rw [List.getElem?_eq_getElem hk] at h
  injection h with h
  unfold sgF
  rw [List.drop_eq_getElem_cons hk, h, List.find?_cons_of_pos (by simpa using hp)]; rfl
theorem sgF_miss {k : Nat} {x l : List UInt8} (h : sgL[k]? = some x) (hp : x.isPrefixOf l = false) : sgF (sgL.drop k) l = sgF (sgL.drop (k + 1)) l := by
  have hk := (List.getElem?_eq_some_iff.1 h).1
  rw [List.getElem?_eq_getElem hk] at h
  injection h with h
  unfold sgF
  rw [List.drop_eq_getElem_cons hk, h, List.find?_cons_of_neg (by simp [hp])]
theorem encStr_bs (x : List UInt8) : encStr x = .string (bsOf x) := rfl
theorem new_strsW (W : World) (t : TypeId) (ss : List (List UInt8)) (cs : Array Value) (h : cs = (ss.map encStr).toArray) : StrSl (W.alloc (.cells cs t)) (W.heap.size + 1) (some ⟨W.heap.size, 0, none⟩) ss := fun _ =>
  ⟨W.heap.size, 0, rfl, Nat.lt_succ_self _, fun i l hl => by
    rw [World.cell?_alloc_new, h, Nat.zero_add, List.getElem?_toArray, List.getElem?_map, hl]; rfl⟩

set_option maxRecDepth 100000 in
set_option maxHeartbeats 1600000 in
theorem word_sign (s : ByteArray) (w : World) :
    Calls Tryz.prog 64 #[.string s] w fun e w' => e = .returned (.string (bsOf (signP s.toList))) ∧ RowKit.Below w.heap.size w w' := by
  have hsl : ∀ (i : Nat) (l : List UInt8), sgL[i]? = some l → (w.alloc (.cells #[.string ⟨#[58, 58]⟩, .string ⟨#[61, 61]⟩, .string ⟨#[60, 61]⟩, .string ⟨#[38, 38]⟩, .string ⟨#[124, 124]⟩, .string ⟨#[40]⟩, .string ⟨#[41]⟩, .string ⟨#[91]⟩, .string ⟨#[93]⟩, .string ⟨#[123]⟩, .string ⟨#[125]⟩, .string ⟨#[44]⟩, .string ⟨#[58]⟩, .string ⟨#[46]⟩, .string ⟨#[60]⟩, .string ⟨#[33]⟩, .string ⟨#[43]⟩, .string ⟨#[45]⟩, .string ⟨#[42]⟩] 9)).cell? ⟨w.heap.size, i, none⟩ = some (.string (bsOf l)) := fun i l hl => by
    have hh : (#[.string ⟨#[58, 58]⟩, .string ⟨#[61, 61]⟩, .string ⟨#[60, 61]⟩, .string ⟨#[38, 38]⟩, .string ⟨#[124, 124]⟩, .string ⟨#[40]⟩, .string ⟨#[41]⟩, .string ⟨#[91]⟩, .string ⟨#[93]⟩, .string ⟨#[123]⟩, .string ⟨#[125]⟩, .string ⟨#[44]⟩, .string ⟨#[58]⟩, .string ⟨#[46]⟩, .string ⟨#[60]⟩, .string ⟨#[33]⟩, .string ⟨#[43]⟩, .string ⟨#[45]⟩, .string ⟨#[42]⟩] : Array Value) = (sgL.map encStr).toArray := rfl
    rw [World.cell?_alloc_new, hh, List.getElem?_toArray, List.getElem?_map, hl]; rfl
  have hb1 : RowKit.Below w.heap.size w (w.alloc (.cells #[.string ⟨#[58, 58]⟩, .string ⟨#[61, 61]⟩, .string ⟨#[60, 61]⟩, .string ⟨#[38, 38]⟩, .string ⟨#[124, 124]⟩, .string ⟨#[40]⟩, .string ⟨#[41]⟩, .string ⟨#[91]⟩, .string ⟨#[93]⟩, .string ⟨#[123]⟩, .string ⟨#[125]⟩, .string ⟨#[44]⟩, .string ⟨#[58]⟩, .string ⟨#[46]⟩, .string ⟨#[60]⟩, .string ⟨#[33]⟩, .string ⟨#[43]⟩, .string ⟨#[45]⟩, .string ⟨#[42]⟩] 9)) := by (repeat (first | assumption | exact Below.refl _ _ | apply Below.drew | apply below_drewN | (refine Below.alloc ?_ (by first | exact Nat.le_refl _ | omega | (simp; done) | (simp; omega)) _)))
  have HS := Lib.hid hsl
  clear hsl
  go_enter Tryz.func64, Tryz.ntmps64
  go_wp2_with fail
  generalize (w.alloc (.cells #[.string ⟨#[58, 58]⟩, .string ⟨#[61, 61]⟩, .string ⟨#[60, 61]⟩, .string ⟨#[38, 38]⟩, .string ⟨#[124, 124]⟩, .string ⟨#[40]⟩, .string ⟨#[41]⟩, .string ⟨#[91]⟩, .string ⟨#[93]⟩, .string ⟨#[123]⟩, .string ⟨#[125]⟩, .string ⟨#[44]⟩, .string ⟨#[58]⟩, .string ⟨#[46]⟩, .string ⟨#[60]⟩, .string ⟨#[33]⟩, .string ⟨#[43]⟩, .string ⟨#[45]⟩, .string ⟨#[42]⟩] 9)) = w1 at HS hb1 ⊢
  go_loop [7] (fun t => ∃ k : Nat, k ≤ 19 ∧ t = .int .i64 k ∧ Hid (sgF (sgL.drop k) s.toList = signP s.toList)) (fun t => 19 - (intOf t).toNat)
  case atStart => exact ⟨0, by omega, rfl, sgF_eq _⟩
  case round =>
    obtain ⟨k, hk, rfl, HK⟩ := hrel
    by_cases hlt : k < 19
    · obtain ⟨x, hx⟩ : ∃ x, sgL[k]? = some x := ⟨_, List.getElem?_eq_getElem (show k < sgL.length from hlt)⟩
      have c0 := HS.out k x hx
      have HX := Lib.hid hx
      have hpx : Lib.hasPrefix s.data.toList (bsOf x).data.toList = x.isPrefixOf s.toList := by rw [← ByteArray.toList_eq]; rfl
      have HP := Lib.hid (fun W => Tryz.strings_HasPrefix s (bsOf x) W)
      rw [hpx] at HP
      clear hx hpx
      by_cases hp : x.isPrefixOf s.toList = true
      · have HR : Hid (signP s.toList = x) := by show _ = _; rw [← HK.out]; exact sgF_hit HX.out hp
        rw [hp] at HP
        clear hp
        go_wp2_with fail
        refine Calls.mono (HP.out _) ?_
        rintro r w2 ⟨rfl, rfl⟩
        go_wp2_with fail
        go_ret
        rw [HR.out]
        exact ⟨rfl, hb1⟩
      · have hp : x.isPrefixOf s.toList = false := Bool.eq_false_iff.2 hp
        have HK2 : Hid (sgF (sgL.drop (k + 1)) s.toList = signP s.toList) := by show _ = _; rw [← HK.out]; exact (sgF_miss HX.out hp).symm
        rw [hp] at HP
        clear hp
        go_wp2_with fail
        refine Calls.mono (HP.out _) ?_
        rintro r w2 ⟨rfl, rfl⟩
        go_wp2_with fail
        go_round
        case rel => exact ⟨k + 1, by omega, by go_num, HK2⟩
        case measure => simp [intOf]; omega
    · have hk19 : k = 19 := by omega
      have HR : Hid (signP s.toList = []) := by show _ = _; rw [← HK.out, hk19]; rfl
      go_wp2_with fail
      go_ret
      rw [HR.out]
      exact ⟨rfl, hb1⟩
end Go.Proofs.YtbommoefpekalaaGreatDoor
