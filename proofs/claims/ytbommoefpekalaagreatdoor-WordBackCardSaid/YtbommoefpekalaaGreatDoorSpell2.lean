/-
  THE WALKS: word.Spell.
-/
import Derived.Test.YtbommoefpekalaaGreatDoorSpell1
namespace Go.Proofs.YtbommoefpekalaaGreatDoor
open Go.RowKit Go.Sort

theorem all_snoc (p : Tk → Bool) (xs : List Tk) (k : Nat) (x : Tk) (h : (xs.take k).all p = true) (hx : xs[k]? = some x) (hp : p x = true) : (xs.take (k + 1)).all p = true := by
  rw [List.take_add_one, hx, List.all_append, h]; simp [hp]
theorem map_snoc {β : Type} (f : Tk → β) (xs : List Tk) (k : Nat) (x : Tk) (hx : xs[k]? = some x) : (xs.take (k + 1)).map f = (xs.take k).map f ++ [f x] := by
  rw [List.take_add_one, hx]; simp
/-- The text of each. -/
def sp1 (x : Tk) : List UInt8 := (speltP x).1
/-- The texts of the first k, as cells. -/
def lineC (xs : List Tk) (k : Nat) : List Value := ((xs.take k).map sp1).map encStr
theorem lineC_succ (xs : List Tk) (k : Nat) (x : Tk) (hx : xs[k]? = some x) : lineC xs (k + 1) = lineC xs k ++ [encStr (sp1 x)] := by
  unfold lineC; rw [map_snoc sp1 xs k x hx, List.map_append]; rfl
theorem own_form1 {w : World} {B : Nat} {e : TypeId} {v : Value} {k : Nat} {cs : List Value} (h : w.ownsRow B e 1 v (k + 1) cs) : ∃ g c, v = .slice (some ⟨g, 0, none⟩) (k + 1) c := by
  rcases h.2 with ⟨_, h0⟩ | ⟨g, c, _, hv, _⟩
  · cases h0
  · exact ⟨g, c, hv⟩
set_option maxRecDepth 100000 in
set_option maxHeartbeats 3200000 in
theorem word_Spell (xs : List Tk) (A : Option Addr) (c : Nat) (w : World) (hs : TkSl w w.heap.size A xs) (hl : xs.length ≤ 9223372036854775807) (hz : ∀ x ∈ xs, x.s.size ≤ 140737488351232) :
    Calls Tryz.prog 7 #[.slice A xs.length c] w fun e w' => e = .returned (.tuple #[encStr (spellP xs).1, errV (spellP xs).2]) ∧ Below w.heap.size w w' := by
  obtain ⟨q, hq⟩ : ∃ q, spellP xs = q := ⟨_, rfl⟩
  rw [hq]
  have HS := Lib.hid hs
  have HZ := Lib.hid hz
  clear hs hz
  by_cases h3 : 300 < xs.length
  · have HQ : Hid (q = ([], 4)) := by show _ = _; rw [← hq, spellP, if_pos h3]
    clear hq
    go_enter Tryz.func7, Tryz.ntmps7
    go_wp2_with fail
    go_ret2
    rw [HQ.out]
    exact ⟨rfl, Below.refl _ _⟩
  · obtain ⟨i0, hi, hz0, hz1, hz2⟩ := info_parts string_infoQ
    go_enter Tryz.func7, Tryz.ntmps7
    have HQ := Lib.hid hq
    clear hq
    go_wp2_with fail
    go_loopw [4, 16] (fun vv ii wr => ∃ (k : Nat) (A2 : Option Addr) (c2 : Nat), ii = .int .i64 k ∧ vv = .slice A2 k c2 ∧ k ≤ xs.length ∧ Hid (wr.ownsRow w.heap.size 9 1 (.slice A2 k c2) k (lineC xs k)) ∧ Hid ((xs.take k).all (fun x => (speltP x).2) = true) ∧ Below w.heap.size w wr) (fun _ ii _ => xs.length - (intOf ii).toNat)
    case atStart => exact ⟨0, none, 0, rfl, rfl, by omega, World.ownsRow_nil _ _ _ _, by simp [Hid], Below.refl _ _⟩
    case round =>
      obtain ⟨k, A2, c2, rfl, rfl, hk, HO, HA, hb⟩ := hrel
      by_cases hlt : k < xs.length
      · obtain ⟨x, hx⟩ : ∃ x, xs[k]? = some x := ⟨_, List.getElem?_eq_getElem hlt⟩
        obtain ⟨b, o, rfl, hbb, ⟨d0, d1, d2⟩⟩ := tkSl_at (HS.out.below hb) hx
        have hsz := hb.size
        have hxz := HZ.out x (List.mem_of_getElem? hx)
        have HX := Lib.hid hx
        clear hx
        obtain ⟨r, hr⟩ : ∃ r, speltP x = r := ⟨_, rfl⟩
        have HP := Lib.hid (fun W => word_spelt x W hxz)
        rw [hr] at HP
        obtain ⟨tx, is⟩ := r
        have HR := Lib.hid hr
        clear hr
        cases is with
        | false =>
          go_wp2_with fail
          refine (HP.out _).mono ?_
          rintro e w1 ⟨rfl, hb1⟩
          go_wp2_with fail
          go_ret2
          have hq : q = ([], 1) := by
            rw [← HQ.out, spellP, if_neg h3, if_pos]
            rw [← Bool.not_eq_true, List.all_eq_true]
            intro h
            have := h x (List.mem_of_getElem? HX.out)
            rw [HR.out] at this
            cases this
          rw [hq]
          exact ⟨rfl, (hb.alloc hsz _).trans (hb1.mono (by simp; omega))⟩
        | true =>
          go_wp2_with fail
          refine (HP.out _).mono ?_
          rintro e w1 ⟨rfl, hb1⟩
          have hbw1 : Below w.heap.size w w1 := (hb.alloc hsz _).trans (hb1.mono (by simp; omega))
          have HO1 : Hid (w1.ownsRow w.heap.size 9 1 (.slice A2 k c2) k (lineC xs k)) := own_keep (HO.out.alloc _) hb1
          have hsz1 := hbw1.size
          clear hb1
          go_wp2_with (at_builtin; refine wpList_append_own _ rfl (.tmp 28) (.tmp 30) 46 rfl w.heap.size 9 i0 _ 1 16 Tryz.underlying46 hi hz0 hz1 hz2 rfl (by omega) (.slice A2 k c2) k (lineC xs k) rfl (HO1.out.alloc _) ⟨w1.heap.size, 0, none⟩ 1 1 [encStr tx] rfl rfl (new_one _ _ _ _ (by simp)) (by intro u hu; simp at hu; subst hu; rfl) (by unfold maxLen; omega) (by omega) (by simp; omega) ?_)
          intro v1 w2 hown2 hgrow2 _
          have hown3 : w2.ownsRow w.heap.size 9 1 v1 (k + 1) (lineC xs (k + 1)) := by
            rw [lineC_succ xs k x HX.out]
            have e : sp1 x = tx := by unfold sp1; rw [HR.out]
            rw [e]; exact hown2
          obtain ⟨g3, c3, rfl⟩ := own_form1 hown2
          have hb2 : Below w.heap.size w w2 := (hbw1.alloc hsz1 _).grown hgrow2 (by simp; omega) (fun g hg => (HO1.out.lt g hg).1)
          clear hown2 hgrow2
          have HO3 := Lib.hid hown3
          clear hown3
          go_wp2_with fail
          exact ⟨⟨k + 1, some ⟨g3, 0, none⟩, c3, by go_num, rfl, by omega, HO3, all_snoc _ _ _ _ HA.out HX.out (by rw [HR.out]), hb2⟩, by simp [intOf]; omega⟩
      · have hks : k = xs.length := by omega
        subst hks
        have hall : xs.all (fun x => (speltP x).2) = true := by have := HA.out; rwa [List.take_of_length_le (Nat.le_refl _)] at this
        obtain ⟨J, hJ⟩ : ∃ J, joinP (xs.map sp1) = J := ⟨_, rfl⟩
        have hJl : J.length ≤ 300 * 901 := by
          rw [← hJ]
          have h := joinP_len 900 (xs.map sp1) (fun l hl => by obtain ⟨x, _, rfl⟩ := List.mem_map.1 hl; exact speltP_len x)
          rw [List.length_map] at h
          exact Nat.le_trans h (Nat.mul_le_mul_right _ (by omega))
        have hqv : q = if 900 < J.length then ([], 4) else (J, 0) := by
          rw [← HQ.out, spellP, if_neg h3, if_neg (by rw [hall]; simp), ← hJ]; rfl
        have hC : Calls Tryz.prog 25 #[.slice A2 xs.length c2, .string ⟨#[32]⟩] wr fun e w' => e = .returned (.string (bsOf J)) ∧ Below wr.heap.size wr w' := by
          by_cases h0 : xs.length = 0
          · have hn : xs = [] := List.eq_nil_of_length_eq_zero h0
            subst hn
            refine (Tryz.strings_Join_none A2 c2 ⟨#[32]⟩ wr).mono ?_
            rintro e w' ⟨rfl, rfl⟩
            rw [← hJ]
            exact ⟨rfl, Below.refl _ _⟩
          · rcases HO.out.2 with ⟨_, h⟩ | ⟨g, cap, cur, hv, hg1, hg2, hg3, hg4, hg5, hg6⟩
            · exact absurd h h0
            · injection hv with e1 e2 e3
              subst e1 e3
              have hcl := HO.out.cells (g := g) rfl
              have hln : ((xs.map sp1).map bsOf).length = xs.length := by simp
              have hjj : (Lib.join (((xs.map sp1).map bsOf).map (·.data.toList)) (⟨#[32]⟩ : ByteArray).data.toList) = J := by
                rw [← hJ, List.map_map]
                have : ((fun x : ByteArray => x.data.toList) ∘ bsOf) = id := by funext l; rfl
                rw [this, List.map_id]; rfl
              have h := Tryz.strings_Join g 0 c2 ((xs.map sp1).map bsOf) ⟨#[32]⟩ wr (fun j x hx => by
                have := hcl j (.string x) (by
                  unfold lineC
                  rw [List.take_of_length_le (Nat.le_refl _), List.getElem?_map, List.getElem?_map]
                  rw [List.getElem?_map, List.getElem?_map] at hx
                  cases hxj : xs[j]? with
                  | none => rw [hxj] at hx; cases hx
                  | some y => rw [hxj] at hx; simp only [Option.map_some, Option.some.injEq] at hx ⊢; rw [← hx]; rfl)
                rw [add_none] at this
                exact this) (Array.getElem?_eq_some_iff.1 hg2).1 (by rw [hln]; omega) (by rw [hln]; exact hg3) (by rw [hjj]; omega)
              rw [hjj, hln] at h
              exact h
        have HC := Lib.hid hC
        have HQV := Lib.hid hqv
        have hJz : (bsOf J).size ≤ 300 * 901 := by rw [bsOf_size]; exact hJl
        have HJ2 : Hid ((bsOf J).size = J.length) := bsOf_size J
        clear hC hqv hJ hall HO
        by_cases h9 : 900 < (bsOf J).size
        · go_wp2_with fail
          refine (HC.out).mono ?_
          rintro e w' ⟨rfl, hb9⟩
          go_wp2_with fail
          go_ret2
          rw [HQV.out, if_pos (by rw [← HJ2.out]; exact h9)]
          exact ⟨rfl, hb.trans (hb9.mono hb.size)⟩
        · go_wp2_with fail
          refine (HC.out).mono ?_
          rintro e w' ⟨rfl, hb9⟩
          go_wp2_with fail
          go_ret2
          rw [HQV.out, if_neg (by rw [← HJ2.out]; exact h9)]
          exact ⟨rfl, hb.trans (hb9.mono hb.size)⟩
end Go.Proofs.YtbommoefpekalaaGreatDoor
