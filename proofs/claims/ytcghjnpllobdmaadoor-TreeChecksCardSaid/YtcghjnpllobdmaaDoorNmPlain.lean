/-
  PLAIN LAWS: the names of an expression, each time the least that is greater than the last one.
-/
import Derived.Test.YtcghjnpllobdmaaDoorVarsP
import Derived.Test.YtcghjnpllobdmaaDoorExPlain
namespace Go.Proofs.YtcghjnpllobdmaaDoor
open Go.RowKit Go.Sort

theorem cmp_neg : ∀ a b : List UInt8, Lib.compareBytes a b < 0 ↔ a < b
  | [], [] => by simp [Lib.compareBytes]
  | [], _ :: _ => by simp [Lib.compareBytes]
  | _ :: _, [] => by simp [Lib.compareBytes]
  | a :: l, b :: l2 => by
    rw [Lib.compareBytes, List.cons_lt_cons_iff, ← cmp_neg l l2]
    by_cases h1 : a < b
    · simp [h1]
    · rw [if_neg h1]
      by_cases h2 : b < a
      · rw [if_pos h2]
        have : ¬ a = b := fun e => by subst e; exact h1 h2
        simp [h1, this]
      · have : a = b := UInt8.le_antisymm (UInt8.not_lt.1 h2) (UInt8.not_lt.1 h1)
        simp [this]
theorem cmp_pos : ∀ a b : List UInt8, 0 < Lib.compareBytes a b ↔ b < a
  | [], [] => by simp [Lib.compareBytes]
  | [], _ :: _ => by simp [Lib.compareBytes]
  | _ :: _, [] => by simp [Lib.compareBytes]
  | a :: l, b :: l2 => by
    rw [Lib.compareBytes, List.cons_lt_cons_iff, ← cmp_pos l l2]
    by_cases h1 : a < b
    · have h2 : ¬ b < a := fun h => UInt8.lt_irrefl a (UInt8.lt_trans h1 h)
      have : ¬ b = a := fun e => by subst e; exact UInt8.lt_irrefl b h1
      simp [h1, h2, this]
    · rw [if_neg h1]
      by_cases h2 : b < a
      · simp [h2]
      · have : b = a := UInt8.le_antisymm (UInt8.not_lt.1 h1) (UInt8.not_lt.1 h2)
        simp [this]

theorem get_compactUpTo (d : Array (List UInt8)) (m : Nat) : ∀ j, j < m → d[j]! ∈ Lib.compactUpTo d m := by
  induction m with
  | zero => intro j hj; omega
  | succ m ih =>
    intro j hj
    rw [Lib.compactUpTo_succ, List.mem_append]
    by_cases hjm : j < m
    · exact .inl (ih j hjm)
    · obtain rfl : j = m := by omega
      by_cases hk : Lib.keeps d j = true
      · right; rw [if_pos hk]; exact List.mem_singleton.2 rfl
      · left
        unfold Lib.keeps at hk
        have h2 : j ≠ 0 ∧ d[j]! = d[j - 1]! := by simpa using hk
        rw [h2.2]
        exact ih _ (by omega)
theorem mem_compact (zs : List (List UInt8)) (t : List UInt8) : t ∈ Lib.compact zs ↔ t ∈ zs := by
  unfold Lib.compact
  constructor
  · intro h
    unfold Lib.compactUpTo at h
    obtain ⟨j, hj, rfl⟩ := List.mem_map.1 h
    have hj := (List.mem_range.1 (List.mem_filter.1 hj).1)
    rw [getElem!_pos _ _ (by simpa using hj)]
    simp
  · intro h
    obtain ⟨j, hj, rfl⟩ := List.getElem_of_mem h
    have := get_compactUpTo zs.toArray zs.length j hj
    rwa [getElem!_pos _ _ (by simpa using hj)] at this
theorem mem_varsL (e : List Nd) (t : List UInt8) : t ∈ varsL e ↔ t ∈ varNames e := by
  unfold varsL
  rw [mem_compact]
  unfold sorted
  rw [List.mem_mergeSort]
/-- The least of some that is greater than a last one; empty: there is none. -/
def nxt (last nx x : List UInt8) : List UInt8 := if 0 < Lib.compareBytes x last ∧ (nx = [] ∨ Lib.compareBytes x nx < 0) then x else nx
def nextOf (ns : List (List UInt8)) (last : List UInt8) : List UInt8 := ns.foldl (nxt last) []
theorem nextOf_step {ns : List (List UInt8)} {k : Nat} {x : List UInt8} (hx : ns[k]? = some x) (last : List UInt8) : nextOf (ns.take (k + 1)) last = nxt last (nextOf (ns.take k) last) x := by
  unfold nextOf
  rw [List.take_add_one, hx, List.foldl_append]; rfl
theorem le_cases {a b : List UInt8} (h : a ≤ b) : a < b ∨ a = b := by
  by_cases hl : a < b
  · exact .inl hl
  · exact .inr (List.le_antisymm h (List.not_lt.1 hl))
theorem not_nil_of_lt {a b : List UInt8} (h : a < b) : b ≠ [] := by rintro rfl; exact List.not_lt_nil _ h
theorem fold_spec (last : List UInt8) : ∀ (ns : List (List UInt8)) (nx : List UInt8), (nx = [] ∨ last < nx) →
    (ns.foldl (nxt last) nx = [] ∧ nx = [] ∧ ∀ x ∈ ns, ¬ last < x) ∨
    (last < ns.foldl (nxt last) nx ∧ (ns.foldl (nxt last) nx = nx ∨ ns.foldl (nxt last) nx ∈ ns) ∧ (nx = [] ∨ ¬ nx < ns.foldl (nxt last) nx) ∧ ∀ x ∈ ns, last < x → ¬ x < ns.foldl (nxt last) nx) := by
  intro ns
  induction ns with
  | nil =>
    intro nx h
    rcases h with rfl | h
    · exact .inl ⟨rfl, rfl, fun x hx => by cases hx⟩
    · exact .inr ⟨h, .inl rfl, .inr (List.lt_irrefl _), fun x hx => by cases hx⟩
  | cons y ns ih =>
    intro nx h
    rw [List.foldl_cons]
    by_cases hc : 0 < Lib.compareBytes y last ∧ (nx = [] ∨ Lib.compareBytes y nx < 0)
    · have hn : nxt last nx y = y := by rw [nxt, if_pos hc]
      rw [hn]
      have hly : last < y := (cmp_pos _ _).1 hc.1
      rcases ih y (.inr hly) with ⟨_, h2, _⟩ | ⟨h1, h2, h3, h4⟩
      · exact absurd h2 (not_nil_of_lt hly)
      · have h3 : ¬ y < ns.foldl (nxt last) y := by
          rcases h3 with h | h
          · exact absurd h (not_nil_of_lt hly)
          · exact h
        refine .inr ⟨h1, .inr ?_, ?_, fun x hx hlx => ?_⟩
        · rcases h2 with h | h
          · rw [h]; exact List.mem_cons_self
          · exact List.mem_cons_of_mem _ h
        · rcases hc.2 with h | h
          · exact .inl h
          · right
            intro hh
            exact h3 (List.lt_trans ((cmp_neg _ _).1 h) hh)
        · rcases List.mem_cons.1 hx with rfl | hx
          · exact h3
          · exact h4 x hx hlx
    · have hn : nxt last nx y = nx := by rw [nxt, if_neg hc]
      rw [hn]
      rcases ih nx h with ⟨h1, h2, h3⟩ | ⟨h1, h2, h3, h4⟩
      · refine .inl ⟨h1, h2, fun x hx => ?_⟩
        rcases List.mem_cons.1 hx with rfl | hx
        · intro hl; exact hc ⟨(cmp_pos _ _).2 hl, .inl h2⟩
        · exact h3 x hx
      · refine .inr ⟨h1, ?_, h3, fun x hx hlx => ?_⟩
        · rcases h2 with h | h
          · exact .inl h
          · exact .inr (List.mem_cons_of_mem _ h)
        · rcases List.mem_cons.1 hx with rfl | hx
          · intro hh
            have hne : ¬ nx = [] := fun e => hc ⟨(cmp_pos _ _).2 hlx, .inl e⟩
            rcases h3 with h | h
            · exact hne h
            · have h5 : ¬ x < nx := fun e => hc ⟨(cmp_pos _ _).2 hlx, .inr ((cmp_neg _ _).2 e)⟩
              rcases List.le_total nx x with h6 | h6
              · exact h (List.lt_of_le_of_lt h6 hh)
              · rcases le_cases h6 with h7 | h7
                · exact h5 h7
                · subst h7; exact h hh
          · exact h4 x hx hlx
theorem nextOf_spec (ns : List (List UInt8)) (last : List UInt8) :
    (nextOf ns last = [] ∧ ∀ x ∈ ns, ¬ last < x) ∨ (last < nextOf ns last ∧ nextOf ns last ∈ ns ∧ ∀ x ∈ ns, last < x → ¬ x < nextOf ns last) := by
  rcases fold_spec last ns [] (.inl rfl) with ⟨h1, _, h3⟩ | ⟨h1, h2, _, h4⟩
  · exact .inl ⟨h1, h3⟩
  · refine .inr ⟨h1, ?_, h4⟩
    rcases h2 with h | h
    · exact absurd h (not_nil_of_lt h1)
    · exact h

theorem sorted_pw (ss : List (List UInt8)) : (sorted ss).Pairwise (· ≤ ·) := by
  unfold sorted
  refine (List.pairwise_mergeSort (le := fun x y => decide (x ≤ y)) (fun a b c h1 h2 => by simpa using List.le_trans (by simpa using h1) (by simpa using h2)) (fun a b => by simpa using List.le_total a b) ss).imp fun h => by simpa using h
/-- What is kept of a rising list rises without a pause. -/
theorem compact_pw (zs : List (List UInt8)) (h : zs.Pairwise (· ≤ ·)) : (Lib.compact zs).Pairwise (· < ·) := by
  unfold Lib.compact
  have hget : ∀ j, j < zs.length → zs.toArray[j]! = zs[j]! := fun j hj => by simp [hj]
  have hle : ∀ i j, i ≤ j → j < zs.length → zs[i]! ≤ zs[j]! := fun i j hij hj => by
    rw [getElem!_pos zs i (by omega), getElem!_pos zs j hj]
    rcases Nat.lt_or_eq_of_le hij with h1 | h1
    · exact List.pairwise_iff_getElem.1 h i j (by omega) hj h1
    · subst h1; exact List.le_refl _
  have key : ∀ m, m ≤ zs.length → (Lib.compactUpTo zs.toArray m).Pairwise (· < ·) ∧ ∀ x ∈ Lib.compactUpTo zs.toArray m, 0 < m → x ≤ zs[m - 1]! := by
    intro m
    induction m with
    | zero => intro _; exact ⟨by simp [Lib.compactUpTo], fun x hx => by simp [Lib.compactUpTo] at hx⟩
    | succ m ih =>
      intro hm
      obtain ⟨h1, h2⟩ := ih (by omega)
      rw [Lib.compactUpTo_succ]
      have hmid : ∀ x ∈ Lib.compactUpTo zs.toArray m, x ≤ zs[m]! := fun x hx => by
        rcases Nat.eq_zero_or_pos m with h0 | h0
        · subst h0; simp [Lib.compactUpTo] at hx
        · exact List.le_trans (h2 x hx h0) (hle _ _ (by omega) (by omega))
      by_cases hk : Lib.keeps zs.toArray m = true
      · rw [if_pos hk, hget m (by omega)]
        refine ⟨List.pairwise_append.2 ⟨h1, List.pairwise_singleton _ _, fun x hx y hy => ?_⟩, fun x hx _ => ?_⟩
        · rw [List.mem_singleton] at hy; subst hy
          have hm0 : 0 < m := by
            rcases Nat.eq_zero_or_pos m with h0 | h0
            · subst h0; simp [Lib.compactUpTo] at hx
            · exact h0
          have hne : zs[m - 1]! ≠ zs[m]! := by
            unfold Lib.keeps at hk
            have : m = 0 ∨ zs.toArray[m]! ≠ zs.toArray[m - 1]! := by simpa using hk
            rcases this with h | h
            · omega
            · rw [hget m (by omega), hget (m - 1) (by omega)] at h; exact Ne.symm h
          have hlt : zs[m - 1]! < zs[m]! := by
            rcases le_cases (hle (m - 1) m (by omega) (by omega)) with h | h
            · exact h
            · exact absurd h hne
          exact List.lt_of_le_of_lt (h2 x hx hm0) hlt
        · rcases List.mem_append.1 hx with hx | hx
          · exact hmid x hx
          · rw [List.mem_singleton] at hx; subst hx; exact List.le_refl _
      · rw [if_neg hk, List.append_nil]
        exact ⟨h1, fun x hx _ => hmid x hx⟩
  exact (key zs.length (Nat.le_refl _)).1
theorem varsL_pw (e : List Nd) : (varsL e).Pairwise (· < ·) := compact_pw _ (sorted_pw _)
theorem varsL_len (e : List Nd) : (varsL e).length ≤ e.length := by
  unfold varsL
  exact Nat.le_trans (Lib.compact_length_le _) (by rw [sorted_len]; exact varNames_len e)
/-- The next one is the next. -/
theorem next_vars {e : List Nd} (hne : ([] : List UInt8) ∉ varNames e) {k : Nat} {last : List UInt8} (hl : last = if k = 0 then [] else (varsL e)[k - 1]?.getD []) (hk : k ≤ (varsL e).length) :
    nextOf (varNames e) last = (varsL e)[k]?.getD [] := by
  have hpw := List.pairwise_iff_getElem.1 (varsL_pw e)
  have hmem := mem_varsL e
  have hlast : ∀ j (hj : j < (varsL e).length), k ≤ j → last < (varsL e)[j] := fun j hj hkj => by
    by_cases h0 : k = 0
    · rw [if_pos h0] at hl; subst hl
      have : (varsL e)[j] ≠ [] := fun h => hne ((hmem _).1 (h ▸ List.getElem_mem hj))
      cases hv : (varsL e)[j] with
      | nil => exact absurd hv this
      | cons a l => exact List.nil_lt_cons _ _
    · rw [if_neg h0, List.getElem?_eq_getElem (by omega)] at hl
      subst hl
      exact hpw (k - 1) j (by omega) hj (by omega)
  have hbelow : ∀ j (hj : j < (varsL e).length), last < (varsL e)[j] → k ≤ j := fun j hj hlj => by
    by_cases h0 : k = 0
    · omega
    · rw [if_neg h0, List.getElem?_eq_getElem (by omega)] at hl
      subst hl
      rcases Nat.lt_or_ge j k with h | h
      · exfalso
        rcases Nat.lt_or_ge j (k - 1) with h2 | h2
        · exact List.lt_irrefl _ (List.lt_trans (hpw j (k - 1) hj (by omega) h2) hlj)
        · have : j = k - 1 := by omega
          subst this
          exact List.lt_irrefl _ hlj
      · exact h
  rcases nextOf_spec (varNames e) last with ⟨h1, h2⟩ | ⟨h1, h2, h3⟩
  · rw [h1]
    rcases Nat.lt_or_ge k (varsL e).length with h | h
    · exact absurd (hlast k h (Nat.le_refl _)) (h2 _ ((hmem _).1 (List.getElem_mem h)))
    · rw [List.getElem?_eq_none h]; rfl
  · obtain ⟨j, hj, hje⟩ := List.getElem_of_mem ((hmem _).2 h2)
    have hkj := hbelow j hj (by rw [hje]; exact h1)
    have hkl : k < (varsL e).length := by omega
    rw [List.getElem?_eq_getElem hkl]
    show _ = (varsL e)[k]
    rcases Nat.lt_or_ge k j with h | h
    · exfalso
      have h4 := hpw k j hkl hj h
      rw [hje] at h4
      exact h3 _ ((hmem _).1 (List.getElem_mem hkl)) (hlast k hkl (Nat.le_refl _)) h4
    · have : j = k := by omega
      subst this; exact hje.symm
theorem ex_vars {t : BTag} {xs : List Nd} (h : Ex t xs) : ([] : List UInt8) ∉ varNames xs := by
  induction h with
  | one n body fld hs h7 hb ih =>
    rw [varNames_cons, List.mem_append]
    rintro (h | h)
    · split at h
      · rename_i h8
        have h8 : n.op = 8 := by simpa using h8
        have hn : n.s.toList = [] := by simpa using (List.mem_singleton.1 h).symm
        rw [shapedT, if_neg (by omega), if_neg (by omega), if_pos h8, hn] at hs
        simp [variableB, nameErr] at hs
      · cases h
    · exact ih h
  | nil r l => simp [varNames]
  | cons c r l m xs ys hl hx hy ih1 ih2 =>
    rw [varNames_append, List.mem_append]
    rintro (h | h)
    · exact ih1 h
    · exact ih2 h
theorem varNames_ne {e : List Nd} (h : treeErr e = 0) : ([] : List UInt8) ∉ varNames e := ex_vars ((tree_iff e).1 h).2
end Go.Proofs.YtcghjnpllobdmaaDoor
