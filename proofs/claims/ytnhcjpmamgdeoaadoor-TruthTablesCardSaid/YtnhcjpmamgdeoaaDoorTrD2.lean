/-
  PLAIN LAWS for TruthWays, TruthOne: the diagram's last cell is its top; down the diagram one comes to what the table tells.
-/
import Derived.Test.YtnhcjpmamgdeoaaDoorTrD
namespace Go.Proofs.YtnhcjpmamgdeoaaDoor
open Go.RowKit

theorem dOf_last {N : Int} : ∀ (k : Nat) {cs : List Ce} (_ : CeOk N cs) (t : List Bool) (a : Int), t.length = 2 ^ k → 0 ≤ a → a + k = N →
    ∃ r, (dOf k cs t a).1 = cs ++ r ∧ (∀ c ∈ r, a ≤ c.atom) ∧ (r = [] ∨ (dOf k cs t a).2 + 1 = (cs ++ r).length)
  | 0, cs, h, t, a, ht, h0, hN => ⟨[], by simp [dOf], by simp, .inl rfl⟩
  | k + 1, cs, h, t, a, ht, h0, hN => by
    rw [Nat.pow_succ] at ht
    have l1 : (t.take (2 ^ k)).length = 2 ^ k := by rw [List.length_take]; omega
    have l2 : (t.drop (2 ^ k)).length = 2 ^ k := by rw [List.length_drop]; omega
    obtain ⟨r1, e1, o1, p1, -⟩ := dOf_ok k h (t.take (2 ^ k)) (a + 1) l1 (by omega) (by omega)
    obtain ⟨r1', e1', a1, q1⟩ := dOf_last k h (t.take (2 ^ k)) (a + 1) l1 (by omega) (by omega)
    obtain rfl : r1 = r1' := List.append_cancel_left (e1.symm.trans e1')
    rw [dOf, e1]
    obtain ⟨r2, e2, o2, p2, -⟩ := dOf_ok k o1 (t.drop (2 ^ k)) (a + 1) l2 (by omega) (by omega)
    obtain ⟨r2', e2', a2, q2⟩ := dOf_last k o1 (t.drop (2 ^ k)) (a + 1) l2 (by omega) (by omega)
    obtain rfl : r2 = r2' := List.append_cancel_left (e2.symm.trans e2')
    rw [e2]
    generalize (dOf k cs (t.take (2 ^ k)) (a + 1)).2 = lo at *
    generalize (dOf k (cs ++ r1) (t.drop (2 ^ k)) (a + 1)).2 = hi at *
    have ha : ∀ c ∈ r1 ++ r2, a ≤ c.atom := by
      intro c hc
      rcases List.mem_append.1 hc with hc | hc
      · have := a1 c hc; omega
      · have := a2 c hc; omega
    have h2 := o2.len
    unfold cellP
    by_cases hlu : lo = hi
    · rw [if_pos hlu]
      refine ⟨r1 ++ r2, by simp, ha, ?_⟩
      simp only
      rcases q2 with rfl | q2
      · rcases q1 with rfl | q1
        · exact .inl rfl
        · exact .inr (by rw [List.append_nil]; exact q1)
      · exact .inr (by rw [hlu, q2]; simp)
    · rw [if_neg hlu]
      split
      · rename_i hk
        have hx := idx_drop hk
        generalize ((cs ++ r1 ++ r2).drop 2).idxOf (⟨a, lo, hi⟩ : Ce) + 2 = j at hx
        refine ⟨r1 ++ r2, by simp, ha, .inl ?_⟩
        have hj : j < cs.length := by
          rcases Nat.lt_or_ge j cs.length with h | h
          · exact h
          · exfalso
            rw [List.append_assoc, List.getElem?_append_right h] at hx
            have hm := List.mem_of_getElem? hx
            rcases List.mem_append.1 hm with hm | hm
            · have := a1 _ hm; simp only at this; omega
            · have := a2 _ hm; simp only at this; omega
        have hj2 : 2 ≤ j ∨ j < 2 := by omega
        rcases hj2 with hj2 | hj2
        · rw [List.append_assoc, List.getElem?_append_left hj] at hx
          have hl := h.low j _ hx hj2
          simp only at hl
          have n1 : r1 = [] := by
            rcases q1 with q1 | q1
            · exact q1
            · exfalso; rw [List.length_append] at q1; omega
          have n2 : r2 = [] := by
            rcases q2 with q2 | q2
            · exact q2
            · exfalso; rw [List.length_append, List.length_append] at q2; omega
          rw [n1, n2]; rfl
        · exfalso
          obtain ⟨r, hr⟩ := h.two
          rw [List.append_assoc, List.getElem?_append_left hj, hr, List.getElem?_append_left (by simp [ceBase]; omega)] at hx
          match j, hj2, hx with
          | 0, _, hx => simp [ceBase] at hx; omega
          | 1, _, hx => simp [ceBase] at hx; omega
      · refine ⟨r1 ++ r2 ++ [⟨a, lo, hi⟩], by simp, ?_, .inr (by simp; omega)⟩
        intro c hc
        rcases List.mem_append.1 hc with hc | hc
        · exact ha c hc
        · simp at hc; subst hc; exact Int.le_refl _

/-- On the way down: what is told at this place, at the row. -/
def WayAt (t : List Bool) (d : List Ce) (N : Nat) (row : Nat) (at_ : Nat) (last : Int) : Prop :=
  (d.length = 3 ∧ at_ = 2 ∧ last = -1 ∧ ∃ b, b < 2 ∧ d[2]? = some ⟨-1, b, b⟩ ∧ t = List.replicate (2 ^ N) (b == 1)) ∨
  (∃ k : Nat, last + 1 + k = N ∧ 0 ≤ last + 1 ∧ CeOk N d ∧ PlOk d (last + 1) at_ ∧ t[row]? = (tabC d k at_ (last + 1))[row % 2 ^ k]?) ∨
  (∃ b, b < 2 ∧ at_ = b ∧ t = List.replicate (2 ^ N) (b == 1))
theorem dia_cases (N : Nat) {t : List Bool} (ht : t.length = 2 ^ N) :
    (∃ b, b < 2 ∧ diaP N t = ceBase ++ [⟨-1, b, b⟩] ∧ t = List.replicate (2 ^ N) (b == 1)) ∨
    (CeOk N (diaP N t) ∧ 3 ≤ (diaP N t).length ∧ PlOk (diaP N t) 0 ((diaP N t).length - 1) ∧ tabC (diaP N t) N ((diaP N t).length - 1) 0 = t) := by
  obtain ⟨r, e, o, p, tt⟩ := dOf_ok (N := N) N (ceBase_ok N) t 0 ht (by omega) (by omega)
  obtain ⟨r', e', -, q⟩ := dOf_last (N := N) N (ceBase_ok N) t 0 ht (by omega) (by omega)
  obtain rfl : r = r' := List.append_cancel_left (e.symm.trans e')
  unfold diaP
  rw [e]
  generalize (dOf N ceBase t 0).2 = i at *
  by_cases hi : i < 2
  · rw [if_pos hi]
    left
    have hr : r = [] := by
      rcases q with q | q
      · exact q
      · simp [ceBase] at q
        exact List.eq_nil_of_length_eq_zero (by omega)
    subst hr
    rw [tabC_low _ hi] at tt
    exact ⟨i, hi, by simp, tt.symm⟩
  · rw [if_neg hi]
    right
    have hl := p.1
    have hq : i + 1 = (ceBase ++ r).length := by
      rcases q with rfl | q
      · simp [ceBase] at hl; omega
      · exact q
    have hi' : (ceBase ++ r).length - 1 = i := by omega
    rw [hi']
    exact ⟨o, by omega, p, tt⟩
theorem way_start (N : Nat) {t : List Bool} (ht : t.length = 2 ^ N) (row : Nat) (hr : row < 2 ^ N) : WayAt t (diaP N t) N row ((diaP N t).length - 1) (-1) := by
  rcases dia_cases N ht with ⟨b, hb, hd, h⟩ | ⟨h1, h2, h3, h4⟩
  · left; rw [hd]; exact ⟨rfl, rfl, rfl, b, hb, rfl, h⟩
  · right; left
    exact ⟨N, by omega, by omega, h1, h3, by rw [show (-1 : Int) + 1 = 0 from rfl, h4, Nat.mod_eq_of_lt hr]⟩
/-- A fixed formula: on to what it is. -/
theorem way_fixed {t : List Bool} {d : List Ce} {N row at_ : Nat} {last : Int} (h : WayAt t d N row at_ last) {c : Ce} (hc : d[at_]? = some c) (h2 : 2 ≤ at_) (ha : c.atom < 0) : WayAt t d N row c.low last ∧ c.low < at_ := by
  rcases h with ⟨h3, rfl, rfl, b, hb, hd, ht⟩ | ⟨k, _, _, o, _, _⟩ | ⟨b, hb, rfl, _⟩
  · rw [hd] at hc; injection hc with hc; subst hc
    exact ⟨.inr (.inr ⟨b, hb, rfl, ht⟩), hb⟩
  · have := (o.low _ _ hc h2).2.2.2; omega
  · omega
theorem tabC_skips {cs : List Ce} {i : Nat} {c : Ce} (hc : cs[i]? = some c) (j : Nat) : ∀ (k : Nat) (a : Int) (r : Nat), c.atom = a + j → (tabC cs (k + j) i a)[r % 2 ^ (k + j)]? = (tabC cs k i c.atom)[r % 2 ^ k]? := by
  induction j with
  | zero => intro k a r h; rw [h]; simp
  | succ j ih =>
    intro k a r h
    have hlt : i < cs.length := (List.getElem?_eq_some_iff.1 hc).1
    have hsk : tabC cs (k + j + 1) i a = tabC cs (k + j) i (a + 1) ++ tabC cs (k + j) i (a + 1) := tabC_skip ⟨hlt, fun d _ hd => by rw [hc] at hd; injection hd with hd; subst hd; omega⟩
    rw [← Nat.add_assoc, hsk, ← ih k (a + 1) r (by omega)]
    have hl := tabC_len cs (k + j) i (a + 1)
    have hpos : 0 < 2 ^ (k + j) := Nat.two_pow_pos _
    have hm : r % 2 ^ (k + j + 1) < 2 ^ (k + j) * 2 := by rw [← Nat.pow_succ]; exact Nat.mod_lt _ (Nat.two_pow_pos _)
    have hmm : r % 2 ^ (k + j + 1) % 2 ^ (k + j) = r % 2 ^ (k + j) := Nat.mod_mod_of_dvd _ (Nat.pow_dvd_pow 2 (by omega))
    by_cases hlt2 : r % 2 ^ (k + j + 1) < 2 ^ (k + j)
    · rw [List.getElem?_append_left (by omega), ← hmm, Nat.mod_eq_of_lt hlt2]
    · rw [List.getElem?_append_right (by omega), hl, ← hmm]
      generalize r % 2 ^ (k + j + 1) = y at *
      generalize 2 ^ (k + j) = p at *
      rw [Nat.mod_eq_sub_mod (by omega), Nat.mod_eq_of_lt (by omega)]
theorem bit_split (r k : Nat) : (r / 2 ^ k % 2 = 1 ↔ 2 ^ k ≤ r % 2 ^ (k + 1)) ∧ (2 ^ k ≤ r % 2 ^ (k + 1) → r % 2 ^ (k + 1) - 2 ^ k = r % 2 ^ k) ∧ (r % 2 ^ (k + 1) < 2 ^ k → r % 2 ^ (k + 1) = r % 2 ^ k) := by
  have hp : 0 < 2 ^ k := Nat.two_pow_pos k
  have h1 : r % 2 ^ (k + 1) = r % 2 ^ k + 2 ^ k * (r / 2 ^ k % 2) := by rw [Nat.pow_succ, Nat.mod_mul]
  have h2 : r % 2 ^ k < 2 ^ k := Nat.mod_lt _ hp
  have h3 : r / 2 ^ k % 2 < 2 := Nat.mod_lt _ (by omega)
  generalize r % 2 ^ k = x at *
  generalize r % 2 ^ (k + 1) = y at *
  generalize r / 2 ^ k % 2 = z at *
  generalize 2 ^ k = p at *
  have hz : z = 0 ∨ z = 1 := by omega
  rcases hz with rfl | rfl
  · simp at h1; refine ⟨⟨by omega, by omega⟩, by omega, by omega⟩
  · simp at h1; refine ⟨⟨by omega, by omega⟩, by omega, by omega⟩
/-- On to what the atom says. -/
theorem way_step {t : List Bool} {d : List Ce} {N row at_ : Nat} {last : Int} (h : WayAt t d N row at_ last) {c : Ce} (hc : d[at_]? = some c) (h2 : 2 ≤ at_) (ha : 0 ≤ c.atom) :
    last < c.atom ∧ c.atom < N ∧ ∀ k : Nat, c.atom + 1 + k = N → WayAt t d N row (if row / 2 ^ k % 2 = 1 then c.high else c.low) c.atom ∧ c.low < at_ ∧ c.high < at_ := by
  rcases h with ⟨h3, rfl, rfl, b, hb, hd, ht⟩ | ⟨m, hm, h0, o, p, ht⟩ | ⟨b, hb, rfl, _⟩
  · rw [hd] at hc; injection hc with hc; subst hc; simp at ha
  · have hl := o.low _ _ hc h2
    have hp := p.2 _ h2 hc
    refine ⟨by omega, hl.2.2.2.2, fun k hk => ?_⟩
    have hj : ∃ j : Nat, c.atom = last + 1 + j := ⟨(c.atom - (last + 1)).toNat, by omega⟩
    obtain ⟨j, hj⟩ := hj
    obtain rfl : m = k + 1 + j := by omega
    rw [tabC_skips hc j (k + 1) (last + 1) row hj, tabC_cell hc h2 rfl] at ht
    have hb := bit_split row k
    have hlen := tabC_len d k c.low (c.atom + 1)
    refine ⟨.inr (.inl ⟨k, hk, by omega, o, ?_, ?_⟩), hl.1, hl.2.1⟩
    · split
      · exact ⟨by have := p.1; omega, fun e he hd => by have := o.up _ _ hc h2 _ e (.inr rfl) he hd; omega⟩
      · exact ⟨by have := p.1; omega, fun e he hd => by have := o.up _ _ hc h2 _ e (.inl rfl) he hd; omega⟩
    · rw [ht]
      split
      · rename_i h1
        have h1' := hb.1.1 h1
        rw [List.getElem?_append_right (by omega), hlen, hb.2.1 h1']
      · rename_i h1
        have h1' : row % 2 ^ (k + 1) < 2 ^ k := by
          rcases Nat.lt_or_ge (row % 2 ^ (k + 1)) (2 ^ k) with h | h
          · exact h
          · exact absurd (hb.1.2 h) h1
        rw [List.getElem?_append_left (by omega), hb.2.2 h1']
  · omega
/-- At its end. -/
theorem way_end {t : List Bool} {d : List Ce} {N row at_ : Nat} {last : Int} (h : WayAt t d N row at_ last) (h2 : at_ < 2) (hr : row < 2 ^ N) : t[row]? = some (at_ == 1) := by
  rcases h with ⟨h3, rfl, _⟩ | ⟨m, hm, h0, o, p, ht⟩ | ⟨b, hb, rfl, rfl⟩
  · omega
  · rw [ht, tabC_low _ h2, List.getElem?_replicate, if_pos (Nat.mod_lt _ (Nat.two_pow_pos _))]
  · rw [List.getElem?_replicate, if_pos hr]
/-- What the law asks of the cells. -/
theorem dia_low (N : Nat) {t : List Bool} (ht : t.length = 2 ^ N) : 3 ≤ (diaP N t).length ∧ (∀ i c, (diaP N t)[i]? = some c → 2 ≤ i → c.low < i ∧ c.high < i ∧
    ((c.atom = -1 ∧ (diaP N t).length = 3 ∧ c.low = c.high) ∨ (0 ≤ c.atom ∧ c.atom < (N : Int) ∧ c.low ≠ c.high))) ∧
    (∀ i j c d, 2 ≤ j → j < i → (diaP N t)[i]? = some c → (diaP N t)[j]? = some d → d ≠ c) := by
  rcases dia_cases N ht with ⟨b, hb, hd, h⟩ | ⟨h1, h2, h3, h4⟩
  · rw [hd]
    refine ⟨by simp [ceBase], fun i c hc hi => ?_, fun i j c d hj hji hc hd => ?_⟩
    · have hi2 : i = 2 := by have := (List.getElem?_eq_some_iff.1 hc).1; simp [ceBase] at this; omega
      subst hi2
      simp [ceBase] at hc
      subst hc
      exact ⟨hb, hb, .inl ⟨rfl, by simp [ceBase], rfl⟩⟩
    · have := (List.getElem?_eq_some_iff.1 hc).1; simp [ceBase] at this; omega
  · refine ⟨h2, fun i c hc hi => ?_, fun i j c d hj hji hc hd => ?_⟩
    · have := h1.low i c hc hi
      exact ⟨this.1, this.2.1, .inr ⟨this.2.2.2.1, this.2.2.2.2, this.2.2.1⟩⟩
    · rintro rfl
      have hn := h1.once
      have e1 : ((diaP N t).drop 2)[i - 2]? = some d := by rw [List.getElem?_drop, show 2 + (i - 2) = i from by omega]; exact hc
      have e2 : ((diaP N t).drop 2)[j - 2]? = some d := by rw [List.getElem?_drop, show 2 + (j - 2) = j from by omega]; exact hd
      have hlt : i - 2 < ((diaP N t).drop 2).length := (List.getElem?_eq_some_iff.1 e1).1
      have := (List.getElem?_inj hlt hn).1 (e1.trans e2.symm)
      omega
/-- One diagram: as the tables. -/
theorem dia_inj (N : Nat) {t u : List Bool} (ht : t.length = 2 ^ N) (hu : u.length = 2 ^ N) (h : diaP N t = diaP N u) : t = u := by
  rcases dia_cases N ht with ⟨b, hb, hd, e⟩ | ⟨h1, h2, h3, h4⟩
  · rcases dia_cases N hu with ⟨b', hb', hd', e'⟩ | ⟨k1, k2, k3, k4⟩
    · rw [hd, hd'] at h
      have := List.append_cancel_left h
      simp at this
      rw [e, e', this]
    · exfalso
      rw [← h, hd] at k1
      have := k1.low 2 ⟨-1, b, b⟩ rfl (Nat.le_refl _)
      exact this.2.2.1 rfl
  · rcases dia_cases N hu with ⟨b', hb', hd', e'⟩ | ⟨k1, k2, k3, k4⟩
    · exfalso
      rw [h, hd'] at h1
      have := h1.low 2 ⟨-1, b', b'⟩ rfl (Nat.le_refl _)
      exact this.2.2.1 rfl
    · rw [← h4, ← k4, h]
end Go.Proofs.YtnhcjpmamgdeoaaDoor
