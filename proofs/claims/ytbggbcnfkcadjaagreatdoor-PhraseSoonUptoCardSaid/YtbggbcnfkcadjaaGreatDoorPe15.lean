/-
  PLAIN LAWS: as soon as can be: where a word cannot stand.
-/
import Derived.Test.YtbggbcnfkcadjaaGreatDoorPe14
namespace Go.Proofs.YtbggbcnfkcadjaaGreatDoor
open Go.RowKit
theorem find_none {ts : List Tk} (h : ∀ t ∈ ts, SpT t) : ts.findIdx? (fun t => !(speltP t).2) = none := by
 rw [List.findIdx?_eq_none_iff]
 intro t ht
 have : (speltP t).2 = true := h t ht
 simp [this]
def outP (n : Nat) : Pr → List Nd × Nat × Int
 | .ok e [] => if 200 < e.length then ([], 0, 4) else (e, 0, 0)
 | .ok _ (t :: r) => ([], n - (t :: r).length, 1)
 | .bad k r => ([], n - r.length, k)
theorem parse_pa {ts : List Tk} (hl : ts.length ≤ 300) (hs : ∀ t ∈ ts, SpT t) {f : Nat} {x : Pr} (h : pa f .whole ts = x) (hx : ∀ r, x ≠ .bad 0 r) : parseP ts = outP ts.length x := by
 have hnb := pa_en (16 * ts.length + 12) ts.length .whole (by have := rank_le .whole; omega) ts (Nat.le_refl _)
 have h1 := pa_more (Nat.le_max_left f (16 * ts.length + 12)) (t := .whole) (ts := ts) (by rw [h]; exact hx)
 have h2 := pa_more (Nat.le_max_right f (16 * ts.length + 12)) (t := .whole) (ts := ts) hnb
 rw [h1, h] at h2
 unfold parseP
 rw [if_neg (by omega), find_none hs]
 simp only
 rw [← h2]
 cases x with
 | bad k r => rfl
 | ok e r => cases r <;> rfl
theorem soon_plain {ts more : List Tk} {e : List Nd} {a : Nat} {k : Int} (h : parseP ts = (e, a, k)) (hk : k ≠ 0) (hk4 : k ≠ 4) (ha : a < ts.length) (hl : (ts ++ more).length ≤ 300) (hs : ∀ t ∈ ts ++ more, SpT t) :
   parseP (ts ++ more) = ([], a, k) ∧ ∃ e2 a2 k2, parseP (ts.take a) = (e2, a2, k2) ∧ (k2 = 0 ∨ k2 = 4 ∨ k2 = 1 ∧ a2 = a) := by
 have hlen : ts.length ≤ 300 := by rw [List.length_append] at hl; omega
 have hst : ∀ t ∈ ts, SpT t := fun t ht => hs t (List.mem_append_left _ ht)
 have hnb := pa_en (16 * ts.length + 12) ts.length .whole (by have := rank_le .whole; omega) ts (Nat.le_refl _)
 have hpp := (pa_wf (16 * ts.length + 12) .whole).run ts
 obtain ⟨x, hx⟩ : ∃ x, pa (16 * ts.length + 12) .whole ts = x := ⟨_, rfl⟩
 rw [hx] at hnb hpp
 have h0 := parse_pa hlen hst hx hnb
 rw [h] at h0
 have ahead : ∀ pre r, ts = pre ++ r → pre.length = a → AtEnd (pa (16 * ts.length + 12) .whole pre) → ∃ e2 a2 k2, parseP (ts.take a) = (e2, a2, k2) ∧ (k2 = 0 ∨ k2 = 4 ∨ k2 = 1 ∧ a2 = a) := by
   intro pre r hr hp he
   have hpl : pre.length ≤ ts.length := by rw [hr, List.length_append]; omega
   have hps : ∀ t ∈ pre, SpT t := fun t ht => hst t (by rw [hr]; exact List.mem_append_left _ ht)
   have hnb2 := pa_en (16 * ts.length + 12) ts.length .whole (by have := rank_le .whole; omega) pre hpl
   have htk : ts.take a = pre := by rw [hr, ← hp, List.take_left]
   rw [htk]
   rcases he with ⟨e2, he⟩ | he | ⟨q, he⟩
   · have h5 := parse_pa (by omega) hps he (by intro r hr; cases hr)
     by_cases h200 : 200 < e2.length
     · exact ⟨[], 0, 4, by rw [h5, outP, if_pos h200], .inr (.inl rfl)⟩
     · exact ⟨e2, 0, 0, by rw [h5, outP, if_neg h200], .inl rfl⟩
   · have h5 := parse_pa (by omega) hps he (by intro r hr; cases hr)
     exact ⟨[], pre.length, 1, by rw [h5]; rfl, .inr (.inr ⟨rfl, hp⟩)⟩
   · exact absurd he (hnb2 q)
 cases x with
 | ok e1 r =>
   obtain ⟨pre, hts, hh⟩ := hpp
   cases r with
   | nil =>
     exfalso
     by_cases h200 : 200 < e1.length
     · rw [outP, if_pos h200] at h0; simp only [Prod.mk.injEq] at h0; exact hk4 h0.2.2
     · rw [outP, if_neg h200] at h0; simp only [Prod.mk.injEq] at h0; exact hk h0.2.2
   | cons t r =>
     have h0 : (e, a, k) = ([], ts.length - (t :: r).length, 1) := h0
     simp only [Prod.mk.injEq] at h0
     have hap : pre.length = a := by have h9 := congrArg List.length hts; rw [List.length_append] at h9; omega
     have hus : ts ++ more = pre ++ (t :: (r ++ more)) := by rw [hts]; simp
     refine ⟨?_, ahead pre (t :: r) hts hap (.inl ⟨e1, by have := hh [] (.inl rfl); rwa [List.append_nil] at this⟩)⟩
     have h6 := hh (t :: (r ++ more)) (.inr (.inl rfl))
     rw [← hus] at h6
     rw [parse_pa hl hs h6 (by intro r hr; cases hr)]
     show (([] : List Nd), (ts ++ more).length - (t :: (r ++ more)).length, (1 : Int)) = _
     rw [hus, List.length_append, Nat.add_sub_cancel, hap, h0.2.2]
 | bad k1 r =>
   have h0 : (e, a, k) = ([], ts.length - r.length, k1) := h0
   simp only [Prod.mk.injEq] at h0
   have hk1 : k1 ≠ 0 := by rw [← h0.2.2]; exact hk
   have hr0 : r ≠ [] := by rintro rfl; simp only [List.length_nil] at h0; omega
   obtain ⟨pre, hts, hh, he⟩ := hpp hk1 hr0
   have hap : pre.length = a := by have h9 := congrArg List.length hts; rw [List.length_append] at h9; omega
   have hus : ts ++ more = pre ++ (r ++ more) := by rw [hts]; simp
   refine ⟨?_, ahead pre r hts hap he⟩
   have h6 := hh (r ++ more) (by cases r with | nil => exact absurd rfl hr0 | cons t r => rfl)
   rw [← hus] at h6
   rw [parse_pa hl hs h6 (by intro r hr; injection hr with h7 h8; exact hk1 h7)]
   show (([] : List Nd), (ts ++ more).length - (r ++ more).length, k1) = _
   rw [hus, List.length_append, Nat.add_sub_cancel, hap, h0.2.2]
theorem fact_so : parseP [⟨2, bsOf [53], 0⟩, tSg [41]] = ([], 1, 1) := by
 have hb : ∀ t ∈ numT 5, SpT t := sp_leaf (num_shape 5) (.inr (.inl rfl)) (fun _ => ⟨by decide, by decide⟩)
 rw [five] at hb
 obtain ⟨f, hf⟩ := num_read (n := 5) ⟨by decide, by decide⟩
 rw [five] at hf
 have hw := (pa_wf f .whole).run [⟨2, bsOf [53], 0⟩]
 rw [hf] at hw
 obtain ⟨pre, hp, hr⟩ := hw
 rw [List.append_nil] at hp
 subst hp
 have h1 := hr [tSg [41]] (.inr (.inr ⟨_, _, rfl, rfl, bsOf_list _⟩))
 exact parse_pa (by decide) (all_app hb (all_cons (sp_sg (by decide)) all_nil)) h1 (by intro r hr; cases hr)
theorem read_so : (readP ⟨#[53, 32, 41]⟩).1.map bareTk = [⟨2, bsOf [53], 0⟩, tSg [41]] ∧ (readP ⟨#[53, 32, 41]⟩).1.length ≤ 300 := by
 have e : (⟨#[53, 32, 41]⟩ : ByteArray).toList = [53, 32, 41] := bsOf_list _
 have h : readP ⟨#[53, 32, 41]⟩ = ([⟨2, bsOf [53], 0⟩, ⟨5, bsOf [41], 2⟩], 0, 0) := by
   unfold readP
   rw [e, if_neg (by decide)]
   rfl
 rw [h]
 exact ⟨rfl, by simp⟩
end Go.Proofs.YtbggbcnfkcadjaaGreatDoor
