/-
  PLAIN LAWS: brackets about all of it; from the left.
-/
import Derived.Test.YtbggbcnfkcadjaaGreatDoorPc05
import Derived.Test.YtbggbcnfkcadjaaGreatDoorPc12
namespace Go.Proofs.YtbggbcnfkcadjaaGreatDoor
open Go.RowKit
theorem parse_ok {ts : List Tk} {e : List Nd} {a : Nat} (h : parseP ts = (e, a, 0)) : ts.length ≤ 300 ∧ (∀ t ∈ ts, SpT t) ∧ Ps .whole ts e [] ∧ e.length ≤ 200 ∧ a = 0 := by
 unfold parseP at h
 split at h
 · cases h
 rename_i hl
 split at h
 · cases h
 rename_i hf
 rw [List.findIdx?_eq_none_iff] at hf
 have hs : ∀ t ∈ ts, SpT t := fun t ht => by show (speltP t).2 = true; simpa using hf t ht
 have hnb := pa_en (16 * ts.length + 12) ts.length .whole (by have := rank_le .whole; omega) ts (Nat.le_refl _)
 cases hp : pa (16 * ts.length + 12) .whole ts with
 | bad k r =>
   rw [hp] at h
   simp only [Prod.mk.injEq] at h
   exact absurd hp (by rw [h.2.2]; exact hnb r)
 | ok e2 r =>
   rw [hp] at h
   cases r with
   | cons t r => simp at h
   | nil =>
     simp only at h
     split at h
     · simp at h
     · rename_i h2
       simp only [Prod.mk.injEq] at h
       obtain ⟨rfl, rfl, -⟩ := h
       exact ⟨by omega, hs, ⟨_, hp⟩, by omega, rfl⟩
theorem parse_of {ts : List Tk} {e : List Nd} (hl : ts.length ≤ 300) (hs : ∀ t ∈ ts, SpT t) (h : Ps .whole ts e []) (he : e.length ≤ 200) : parseP ts = (e, 0, 0) := by
 obtain ⟨f, h⟩ := h
 have hnb := pa_en (16 * ts.length + 12) ts.length .whole (by have := rank_le .whole; omega) ts (Nat.le_refl _)
 have h1 := pa_more (Nat.le_max_left f (16 * ts.length + 12)) (t := .whole) (ts := ts) (by rw [h]; intro r hr; cases hr)
 have h2 := pa_more (Nat.le_max_right f (16 * ts.length + 12)) (t := .whole) (ts := ts) hnb
 rw [h1, h] at h2
 unfold parseP
 have hf : ts.findIdx? (fun t => !(speltP t).2) = none := by
   rw [List.findIdx?_eq_none_iff]
   intro t ht
   have : (speltP t).2 = true := hs t ht
   simp [this]
 rw [if_neg (by omega), hf]
 simp only
 rw [← h2]
 simp only
 rw [if_neg (by omega)]
theorem round_bk {ts : List Tk} {e : List Nd} (h : Ps .whole ts e []) : Bk (tSg [40] :: (ts ++ [tSg [41]])) e 9 := by
 refine Bk.of8 (by simp) (fun r => ?_) (fun r => ⟨?_, ?_⟩) fun r hr => ?_
 · intro h; exact absurd (show isN wIf (tSg [40]) = true from h) (by rw [isN_Sg]; simp)
 · show isS [33] (tSg [40]) = false
   rw [isS_Sg]; decide
 · intro h; exact absurd (show isS [45] (tSg [40]) = true from h) (by rw [isS_Sg]; decide)
 · have h0 : Ps .whole (ts ++ tSg [41] :: r) e (tSg [41] :: r) := by
     obtain ⟨f, hf⟩ := h
     have hw := (pa_wf f .whole).run ts
     rw [hf] at hw
     obtain ⟨pre, hp, hr⟩ := hw
     rw [List.append_nil] at hp
     subst hp
     exact ⟨f, hr _ (.inr (.inr ⟨_, _, rfl, rfl, bsOf_list _⟩))⟩
   have := Ps.round (t := tSg [40]) (by rw [isS_Sg]; decide) h0 (by rw [isS_Sg]; decide)
   simpa using this
theorem brackets_plain {ts : List Tk} {e : List Nd} {a : Nat} (h : parseP ts = (e, a, 0)) (hl : ts.length + 2 ≤ 300) : parseP (tSg [40] :: (ts ++ [tSg [41]])) = (e, 0, 0) := by
 obtain ⟨-, hs, hp, he, -⟩ := parse_ok h
 refine parse_of (by simp; omega) ?_ ?_ he
 · exact all_cons (sp_sg (by decide)) (all_app hs (all_cons (sp_sg (by decide)) all_nil))
 · have := (round_bk hp).c0 [] (Fl.nil 0)
   rwa [List.append_nil] at this
theorem parse_gd {ts : List Tk} {e : List Nd} {a : Nat} {k : Int} (h : parseP ts = (e, a, k)) : (∀ y ∈ e, NdG y) ∧ e.length ≤ 200 := by
 by_cases hk : k = 0
 · subst hk
   obtain ⟨hl, hs, ⟨f, hp⟩, he, -⟩ := parse_ok h
   exact ⟨(pa_gd f 300 .whole (by omega) trivial ts (fun t ht => tkS_of (hs t ht)) hl e [] hp).gd, he⟩
 · have : e = [] := by
     unfold parseP at h
     split at h
     · simp at h; exact h.1
     split at h
     · simp at h; exact h.1
     split at h
     · split at h
       · simp at h; exact h.1
       · simp at h; exact absurd h.2.2.symm hk
     · simp at h; exact h.1
     · simp at h; exact h.1
   subst this
   exact ⟨(fun y hy => by cases hy), by simp⟩
end Go.Proofs.YtbggbcnfkcadjaaGreatDoor
