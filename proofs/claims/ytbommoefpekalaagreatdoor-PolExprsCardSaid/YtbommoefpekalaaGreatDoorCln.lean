/-
  THE WALKS: slices.Clone of nodes, and of conditions.
-/
import Derived.Test.YtbommoefpekalaaGreatDoorPol2
import Derived.Test.YtbommoefpekalaaGreatDoorP
import Derived.Lib.SliceRun
import Derived.Laws.OwnMore
namespace Go.Proofs.YtbommoefpekalaaGreatDoor
open Go.RowKit

/-- A slice of nodes below block B, in none of some blocks. -/
def NdOff (g : Nat → Prop) (w : World) (B : Nat) (A : Option Addr) (xs : List Nd) : Prop :=
  xs ≠ [] → ∃ b o, A = some ⟨b, o, none⟩ ∧ b < B ∧ ¬ g b ∧ ∀ i x, xs[i]? = some x → NdAt w b (o + i * 4) x
theorem NdOff.sl {g : Nat → Prop} {w : World} {B : Nat} {A : Option Addr} {xs : List Nd} (h : NdOff g w B A xs) : NdSl w B A xs := fun hne => by
  obtain ⟨b, o, e, h1, _, h3⟩ := h hne
  exact ⟨b, o, e, h1, h3⟩
theorem NdSl.off {g : Nat → Prop} {w : World} {B B' : Nat} {A : Option Addr} {xs : List Nd} (h : NdSl w B A xs) (hB : ∀ b, g b → B ≤ b) (hB' : B ≤ B') : NdOff g w B' A xs := fun hne => by
  obtain ⟨b, o, e, h1, h3⟩ := h hne
  exact ⟨b, o, e, by omega, fun hg => by have := hB b hg; omega, h3⟩
theorem NdOff.keep {g : Nat → Prop} {w w' : World} {B B' : Nat} {A : Option Addr} {xs : List Nd} (h : NdOff g w B A xs) (hk : ∀ p : Addr, p.block < B → ¬ g p.block → w'.cell? p = w.cell? p) (hB : B ≤ B') : NdOff g w' B' A xs := fun hne => by
  obtain ⟨b, o, e, h1, h2, h3⟩ := h hne
  exact ⟨b, o, e, by omega, h2, fun i x hx => by
    obtain ⟨q0, q1, q2, q3⟩ := h3 i x hx
    exact ⟨(hk _ h1 h2).trans q0, (hk _ h1 h2).trans q1, (hk _ h1 h2).trans q2, (hk _ h1 h2).trans q3⟩⟩
theorem nd_info : (Tryz.prog.info? 92).map (fun i => (i.zero, i.size, i.bytes)) = some (some (.agg #[.int .i64 0, .int .i64 0, .string ⟨#[]⟩, .string ⟨#[]⟩]), 4, 48) := by kernel_rfl
theorem cd_info : (Tryz.prog.info? 83).map (fun i => (i.zero, i.size, i.bytes)) = some (some (.agg #[.bool false, .slice none 0 0]), 2, 32) := by kernel_rfl
set_option maxRecDepth 100000 in
set_option maxHeartbeats 3200000 in
theorem clone_nodes (e : List Nd) (A : Option Addr) (c : Nat) (w : World) (hsl : NdSl w w.heap.size A e) (hl : e.length ≤ 200) :
    Calls Tryz.prog 42 #[.slice A e.length c] w fun r w' => ∃ A' c', r = .returned (.slice A' e.length c') ∧ e.length ≤ c' ∧ c' ≤ 9223372036854775807 ∧ (∀ g : Nat → Prop, (∀ b, g b → b < w.heap.size) → NdOff g w' w'.heap.size A' e) ∧ Below w.heap.size w w' := by
  have q : ∀ (w : World) (a : Option Addr) (n c n' c' : Nat), (binOp .eql 58 (.slice a n c) (.slice none n' c')).run Tryz.prog w = .ok (.bool a.isNone) w := fun w a n c n' c' => Lib.run_eql_slice_nil w _ _ a n c n' c' Tryz.underlying58
  obtain ⟨i0, hi, hz0, hz1, hz2⟩ := info_parts nd_info
  cases A with
  | none =>
    have he : e = [] := by
      cases e with
      | nil => rfl
      | cons x r => obtain ⟨b, o, h, _⟩ := hsl (List.cons_ne_nil _ _); cases h
    subst he
    go_enter Tryz.func42, Tryz.ntmps42
    go_wp2_with fail
    go_ret
    exact ⟨none, 0, rfl, Nat.le_refl _, by omega, fun g _ h => absurd rfl h, Below.refl _ _⟩
  | some a =>
    have hcells : ∀ j u, (flat e)[j]? = some u → (w.alloc (.cells #[] 92)).cell? (a.add j) = some u := by
      intro j u hu
      have hne : e ≠ [] := by rintro rfl; simp [flat] at hu
      obtain ⟨b, o, h1, h2, _⟩ := hsl hne
      injection h1 with h1
      subst h1
      exact NdSl.flat_alloc hsl h2 _ j u hu
    have HC := Lib.hid hcells
    clear hcells hsl
    go_enter Tryz.func42, Tryz.ntmps42
    go_wp2_with (at_builtin; refine wpList_append_own _ rfl (.tmp 5) (.tmp 6) 58 rfl w.heap.size 92 i0 _ 4 48 Tryz.underlying58 hi hz0 hz1 hz2 rfl (by omega) _ _ _ rfl (World.ownsRow_made w #[] 0 (Nat.le_refl _) (Nat.zero_le _) (by simp)) a e.length c (flat e) rfl (flat_len e) HC.out (flat_one_cell e) (by unfold maxLen; omega) (by omega) (by simp) ?_)
    intro v' w1 hown hgrow hnil
    go_wp2_with fail
    go_ret
    have hown : w1.ownsRow w.heap.size 92 4 v' e.length (flat e) := by simpa using hown
    have hbel : Below w.heap.size w w1 := ((Below.refl _ w).alloc (Nat.le_refl _) _).grown hgrow (by simp) (by intro k hk; simp [Value.ownBlock] at hk; omega)
    rcases hown.2 with ⟨hv, h0⟩ | ⟨g, cap, cur, hv, hb, hg, hnc, hcm, hcs, htk⟩
    · have : e = [] := List.eq_nil_of_length_eq_zero h0
      subst this
      exact ⟨none, 0, by rw [hv]; rfl, Nat.le_refl _, by omega, fun g _ h => absurd rfl h, hbel⟩
    · unfold maxLen at hcm
      refine ⟨some ⟨g, 0, none⟩, cap, by rw [hv]; rfl, hnc, hcm, fun g' hg' => ?_, hbel⟩
      have hs : NdSl w1 w1.heap.size (some ⟨g, 0, none⟩) e := NdSl.of_flat (Array.getElem?_eq_some_iff.1 hg).1 fun j u hu => by
        have hj : j < e.length * 4 := by have := (List.getElem?_eq_some_iff.1 hu).1; rw [flat_len] at this; omega
        subst hv
        exact (hown.cellAt j hj).trans hu
      intro hne
      obtain ⟨b, o, h1, h2, h3⟩ := hs hne
      injection h1 with h1
      injection h1 with h4 h5
      subst h4 h5
      exact ⟨g, 0, rfl, h2, fun hg => by have := hg' g hg; omega, h3⟩
/-- A row of conditions in a block of its own. -/
structure CdBlk (w : World) (g : Nat) (V : Array Value) (ds : List CdM) : Prop where
  blk : Blk w g 83 V
  at0 : ∀ i x, ds[i]? = some x → V[i * 2]? = some (.bool x.u)
  at1 : ∀ i x, ds[i]? = some x → V[i * 2 + 1]? = some (.slice x.A x.e.length x.c)
set_option maxRecDepth 100000 in
set_option maxHeartbeats 3200000 in
theorem clone_conds (cs : List CdM) (A : Option Addr) (c : Nat) (w : World) (hsl : CdSl w w.heap.size A cs) (hl : cs.length ≤ 4) :
    Calls Tryz.prog 41 #[.slice A cs.length c] w fun r w' => ∃ A' c', r = .returned (.slice A' cs.length c') ∧ cs.length ≤ c' ∧ c' ≤ 9223372036854775807 ∧ (cs = [] ∨ ∃ g V, A' = some ⟨g, 0, none⟩ ∧ w.heap.size ≤ g ∧ CdBlk w' g V cs) ∧ Below w.heap.size w w' := by
  have q : ∀ (w : World) (a : Option Addr) (n c n' c' : Nat), (binOp .eql 43 (.slice a n c) (.slice none n' c')).run Tryz.prog w = .ok (.bool a.isNone) w := fun w a n c n' c' => Lib.run_eql_slice_nil w _ _ a n c n' c' Tryz.underlying43
  obtain ⟨i0, hi, hz0, hz1, hz2⟩ := info_parts cd_info
  cases A with
  | none =>
    have he : cs = [] := by
      cases cs with
      | nil => rfl
      | cons x r => obtain ⟨b, o, h, _⟩ := hsl (List.cons_ne_nil _ _); cases h
    subst he
    go_enter Tryz.func41, Tryz.ntmps41
    go_wp2_with fail
    go_ret
    exact ⟨none, 0, rfl, Nat.le_refl _, by omega, by simp, Below.refl _ _⟩
  | some a =>
    have hcells : ∀ j u, (flatG CdM.cells cs)[j]? = some u → (w.alloc (.cells #[] 83)).cell? (a.add j) = some u := by
      intro j u hu
      have hne : cs ≠ [] := by rintro rfl; simp [flatG] at hu
      obtain ⟨b, o, h1, h2, _⟩ := hsl hne
      injection h1 with h1
      subst h1
      exact SlG.flat_alloc cd_ok hsl h2 _ j u hu
    have HC := Lib.hid hcells
    clear hcells hsl
    go_enter Tryz.func41, Tryz.ntmps41
    go_wp2_with (at_builtin; refine wpList_append_own _ rfl (.tmp 5) (.tmp 6) 43 rfl w.heap.size 83 i0 _ 2 32 Tryz.underlying43 hi hz0 hz1 hz2 rfl (by omega) _ _ _ rfl (World.ownsRow_made w #[] 0 (Nat.le_refl _) (Nat.zero_le _) (by simp)) a cs.length c (flatG CdM.cells cs) rfl (flatG_len cd_ok cs) HC.out (flatG_cell cd_ok cs) (by unfold maxLen; omega) (by omega) (by simp) ?_)
    intro v' w1 hown hgrow hnil
    go_wp2_with fail
    go_ret
    have hown : w1.ownsRow w.heap.size 83 2 v' cs.length (flatG CdM.cells cs) := by simpa using hown
    have hbel : Below w.heap.size w w1 := ((Below.refl _ w).alloc (Nat.le_refl _) _).grown hgrow (by simp) (by intro k hk; simp [Value.ownBlock] at hk; omega)
    rcases hown.2 with ⟨hv, h0⟩ | ⟨g, cap, cur, hv, hb, hg, hnc, hcm, hcs, htk⟩
    · have : cs = [] := List.eq_nil_of_length_eq_zero h0
      subst this
      exact ⟨none, 0, by rw [hv]; rfl, Nat.le_refl _, by omega, by simp, hbel⟩
    · unfold maxLen at hcm
      have hget : ∀ (j : Nat) (u : Value), (flatG CdM.cells cs)[j]? = some u → cur[j]? = some u := by
        intro j u hu
        rw [← htk, List.getElem?_take] at hu
        split at hu
        · rw [← Array.getElem?_toList]; exact hu
        · cases hu
      refine ⟨some ⟨g, 0, none⟩, cap, by rw [hv]; rfl, hnc, hcm, .inr ⟨g, cur, rfl, hb, ⟨hg, fun i x hx => hget _ _ ?_, fun i x hx => hget _ _ ?_⟩⟩, hbel⟩
      · have := flatG_get cd_ok cs i 0 (by omega)
        rw [Nat.add_zero] at this
        rw [this, hx]; rfl
      · rw [flatG_get cd_ok cs i 1 (by omega), hx]; rfl
end Go.Proofs.YtbommoefpekalaaGreatDoor
