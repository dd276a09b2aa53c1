/-
  PLAIN WORDS: values, piece by piece; a value and what the reader of values says.
-/
import Derived.Test.YtnhcjpmamgdeoaaVxP
namespace Go.Proofs.Ytnhcjpmamgdeoaa
open Go.RowKit Go.Sort

def ChainV : Option (List Nd) → List (List Nd) → Prop
  | _, [] => True
  | l, p :: ps => vLate l p = false ∧ ChainV (some p) ps
def RiseF : ByteArray → List (List Nd) → Prop
  | _, [] => True
  | l, p :: ps => sLate l (headS p) = false ∧ RiseF (headS p) ps
/-- A value. -/
inductive Vx : List Nd → Prop where
  | leaf (n : Nd) : shapedV n = true → ¬ n.op = 5 → ¬ n.op = 6 → ¬ n.op = 7 → Vx [n]
  | set (n : Nd) (ps : List (List Nd)) : shapedV n = true → n.op = 5 → n.n = ps.length → (∀ p ∈ ps, Vx p) → ChainV none ps → Vx (n :: ps.flatten)
  | rcd (n : Nd) (ps : List (List Nd)) : shapedV n = true → n.op = 6 → n.n = ps.length → (∀ p ∈ ps, ∃ f v, p = f :: v) → (∀ f v, f :: v ∈ ps → f.op = 7 ∧ shapedV f = true) → (∀ f v, f :: v ∈ ps → Vx v) → RiseF ⟨#[]⟩ ps → Vx (n :: ps.flatten)
/-- A field of a record, and its value. -/
def Fx (p : List Nd) : Prop := ∃ f v, p = f :: v ∧ f.op = 7 ∧ shapedV f = true ∧ Vx v
theorem Vx.ne {xs : List Nd} (h : Vx xs) : ∃ x r, xs = x :: r ∧ shapedV x = true ∧ ¬ x.op = 7 := by
  cases h with
  | leaf n h h5 h6 h7 => exact ⟨n, [], rfl, h, h7⟩
  | set n ps h h5 => exact ⟨n, _, rfl, h, by omega⟩
  | rcd n ps h h6 => exact ⟨n, _, rfl, h, by omega⟩
theorem Vx.rcd' {n : Nd} {ps : List (List Nd)} (h : shapedV n = true) (h6 : n.op = 6) (hn : n.n = ps.length) (hp : ∀ p ∈ ps, Fx p) (hr : RiseF ⟨#[]⟩ ps) : Vx (n :: ps.flatten) :=
  .rcd n ps h h6 hn (fun p hp' => by obtain ⟨f, v, e, _⟩ := hp p hp'; exact ⟨f, v, e⟩)
    (fun f v hm => by obtain ⟨f', v', e, a, b, _⟩ := hp _ hm; injection e with e1 e2; subst e1; exact ⟨a, b⟩)
    (fun f v hm => by obtain ⟨f', v', e, a, b, c⟩ := hp _ hm; injection e with e1 e2; subst e2; exact c) hr
theorem vx_of_vGo (e : List Nd) : ∀ (f : Nat) (t : VTag) (i j : Nat), vGo e f t i = some j →
    match t with
    | .one => Vx (piece e i j)
    | .set c l => ∃ ps : List (List Nd), ps.length = c ∧ piece e i j = ps.flatten ∧ (∀ p ∈ ps, Vx p) ∧ ChainV l ps
    | .flds c l => ∃ ps : List (List Nd), ps.length = c ∧ piece e i j = ps.flatten ∧ (∀ p ∈ ps, Fx p) ∧ RiseF l ps := by
  intro f
  induction f with
  | zero =>
    intro t i j h
    cases t with
    | one => simp [vGo] at h
    | set c l => simp only [vGo] at h; split at h <;> simp at h; subst h; rename_i hc; subst hc; exact ⟨[], rfl, by rw [piece_self]; rfl, by simp, trivial⟩
    | flds c l => simp only [vGo] at h; split at h <;> simp at h; subst h; rename_i hc; subst hc; exact ⟨[], rfl, by rw [piece_self]; rfl, by simp, trivial⟩
  | succ f ih =>
    intro t i j h
    have hb := vGo_bound e _ _ _ _ h
    cases t with
    | one =>
      have hij := hb.2.2 rfl
      rw [vGo] at h
      split at h
      · cases h
      · rename_i n hn
        split at h
        · cases h
        · rename_i hsh
          have hsh : shapedV n = true := by simpa using hsh
          show Vx (piece e i j)
          rw [piece_cons hn hij]
          split at h
          · rename_i h5
            obtain ⟨ps, h1, h2, h3, h4⟩ := ih _ _ _ h
            rw [h2]
            have h0 : 0 ≤ n.n := by simp [shapedV, h5] at hsh; omega
            exact .set n ps hsh h5 (by omega) h3 h4
          · rename_i h5
            split at h
            · rename_i h6
              obtain ⟨ps, h1, h2, h3, h4⟩ := ih _ _ _ h
              rw [h2]
              have h0 : 0 ≤ n.n := by simp [shapedV, h6] at hsh; omega
              exact .rcd' hsh h6 (by omega) h3 h4
            · rename_i h6
              split at h
              · cases h
              · rename_i h7
                injection h with h
                subst h
                rw [piece_self]
                exact .leaf n hsh h5 h6 h7
    | set c l =>
      cases c with
      | zero => simp only [vGo, Option.some.injEq] at h; subst h; exact ⟨[], rfl, by rw [piece_self]; rfl, by simp, trivial⟩
      | succ c =>
        simp only [vGo] at h
        split at h
        · cases h
        · rename_i k hk
          split at h
          · cases h
          · rename_i hl
            have b1 := vGo_bound e _ _ _ _ hk
            have b2 := vGo_bound e _ _ _ _ h
            have a1 : Vx (piece e i k) := ih _ _ _ hk
            obtain ⟨ps, h1, h2, h3, h4⟩ := ih _ _ _ h
            refine ⟨piece e i k :: ps, by simp [h1], by rw [piece_split e b1.2.1 b2.2.1, h2]; rfl, ?_, by simpa using hl, h4⟩
            intro p hp
            rcases List.mem_cons.1 hp with rfl | hp
            · exact a1
            · exact h3 p hp
    | flds c l =>
      cases c with
      | zero => simp only [vGo, Option.some.injEq] at h; subst h; exact ⟨[], rfl, by rw [piece_self]; rfl, by simp, trivial⟩
      | succ c =>
        simp only [vGo] at h
        split at h
        · cases h
        · rename_i m hm
          split at h
          · cases h
          · rename_i hl
            split at h
            · cases h
            · rename_i k hk
              have b1 := vGo_bound e _ _ _ _ hk
              have b2 := vGo_bound e _ _ _ _ h
              have a1 : Vx (piece e (i + 1) k) := ih _ _ _ hk
              obtain ⟨ps, h1, h2, h3, h4⟩ := ih _ _ _ h
              have hik : i < k := by have := b1.2.2 rfl; omega
              simp only [not_or, Decidable.not_not, Bool.not_eq_true] at hl
              have hl2 : shapedV m = true := by simpa using hl.2.1
              have hp0 : piece e i k = m :: piece e (i + 1) k := piece_cons hm hik
              refine ⟨(m :: piece e (i + 1) k) :: ps, by simp [h1], by rw [piece_split e (Nat.le_of_lt hik) b2.2.1, h2, hp0]; rfl, ?_, hl.2.2, h4⟩
              intro p hp
              rcases List.mem_cons.1 hp with rfl | hp
              · exact ⟨m, _, rfl, hl.1, hl2, a1⟩
              · exact h3 p hp
theorem piece_mid (a p b : List Nd) : piece (a ++ p ++ b) a.length (a.length + p.length) = p := by
  unfold piece
  rw [List.append_assoc, List.drop_left]
  simp
/-- The reader reads it, wherever it stands. -/
def Rd (p : List Nd) : Prop := ∀ (a b : List Nd) (f : Nat), 2 * p.length ≤ f → vGo (a ++ p ++ b) f .one a.length = some (a.length + p.length)
theorem set_rd : ∀ (ps : List (List Nd)) (l : Option (List Nd)), (∀ p ∈ ps, Rd p ∧ 0 < p.length) → ChainV l ps → ∀ (a b : List Nd) (f : Nat), 2 * ps.flatten.length + 1 ≤ f →
    vGo (a ++ ps.flatten ++ b) f (.set ps.length l) a.length = some (a.length + ps.flatten.length)
  | [], l, _, _, a, b, f, hf => by
    match f, hf with
    | f + 1, _ => simp [vGo]
  | p :: ps, l, hp, hc, a, b, f, hf => by
    have h1 := hp p (by simp)
    rw [List.flatten_cons, List.length_append] at hf
    match f, hf with
    | f + 1, hf =>
      have r1 := h1.1 a (ps.flatten ++ b) f (by omega)
      have e1 : a ++ p ++ (ps.flatten ++ b) = a ++ (p :: ps).flatten ++ b := by simp
      rw [e1] at r1
      have e2 : piece (a ++ (p :: ps).flatten ++ b) a.length (a.length + p.length) = p := by rw [← e1]; exact piece_mid a p _
      have r2 := set_rd ps (some p) (fun q hq => hp q (by simp [hq])) hc.2 (a ++ p) b f (by omega)
      have e3 : a ++ p ++ ps.flatten ++ b = a ++ (p :: ps).flatten ++ b := by simp
      rw [e3, List.length_append] at r2
      simp only [List.length_cons, vGo, r1, e2]
      rw [if_neg (by rw [hc.1]; simp), r2, List.flatten_cons, List.length_append]
      congr 1
      omega
theorem fld_rd : ∀ (ps : List (List Nd)) (l : ByteArray), (∀ p ∈ ps, ∃ f v, p = f :: v ∧ f.op = 7 ∧ shapedV f = true ∧ Rd v ∧ 0 < v.length) → RiseF l ps → ∀ (a b : List Nd) (f : Nat), 2 * ps.flatten.length + 1 ≤ f →
    vGo (a ++ ps.flatten ++ b) f (.flds ps.length l) a.length = some (a.length + ps.flatten.length)
  | [], l, _, _, a, b, f, hf => by
    match f, hf with
    | f + 1, _ => simp [vGo]
  | p :: ps, l, hp, hc, a, b, f, hf => by
    obtain ⟨m, v, rfl, h7, hs, hr, hv0⟩ := hp p (by simp)
    rw [List.flatten_cons, List.length_append, List.length_cons] at hf
    match f, hf with
    | f + 1, hf =>
      have r1 := hr (a ++ [m]) (ps.flatten ++ b) f (by omega)
      have e1 : a ++ [m] ++ v ++ (ps.flatten ++ b) = a ++ ((m :: v) :: ps).flatten ++ b := by simp
      rw [e1, List.length_append, List.length_singleton] at r1
      have r2 := fld_rd ps m.s (fun q hq => hp q (by simp [hq])) hc.2 (a ++ m :: v) b f (by omega)
      have e3 : a ++ m :: v ++ ps.flatten ++ b = a ++ ((m :: v) :: ps).flatten ++ b := by simp
      rw [e3, List.length_append, List.length_cons] at r2
      have hm : (a ++ ((m :: v) :: ps).flatten ++ b)[a.length]? = some m := by simp
      have hl : sLate l m.s = false := hc.1
      simp only [List.length_cons, vGo, hm]
      rw [if_neg (by simp [h7, hs, hl]), r1]
      simp only
      rw [show a.length + 1 + v.length = a.length + (v.length + 1) from by omega, r2, List.flatten_cons, List.length_append, List.length_cons]
      congr 1
      omega
theorem rd_vx {xs : List Nd} (h : Vx xs) : Rd xs := by
  induction h with
  | leaf n hs h5 h6 h7 =>
    intro a b f hf
    match f, hf with
    | f + 1, _ => simp [vGo, hs, h5, h6, h7]
  | set n ps hs h5 hn hv hc ih =>
    intro a b f hf
    match f, hf with
    | f + 1, hf =>
      rw [List.length_cons] at hf
      have r := set_rd ps none (fun p hp => ⟨ih p hp, by obtain ⟨x, r, e, _⟩ := (hv p hp).ne; rw [e]; simp⟩) hc (a ++ [n]) b f (by omega)
      have e1 : a ++ [n] ++ ps.flatten ++ b = a ++ (n :: ps.flatten) ++ b := by simp
      rw [e1, List.length_append, List.length_singleton] at r
      have hm : (a ++ (n :: ps.flatten) ++ b)[a.length]? = some n := by simp
      simp only [vGo, hm, hs, h5]
      simp only [Bool.true_eq_false, if_false, if_true]
      rw [show n.n.toNat = ps.length from by omega, r, List.length_cons]
      congr 1
      omega
  | rcd n ps hs h6 hn h1 h2 h3 hc ih =>
    intro a b f hf
    match f, hf with
    | f + 1, hf =>
      rw [List.length_cons] at hf
      have r := fld_rd ps ⟨#[]⟩ (fun p hp => by
        obtain ⟨m, v, rfl⟩ := h1 p hp
        obtain ⟨a1, a2⟩ := h2 m v hp
        exact ⟨m, v, rfl, a1, a2, ih m v hp, by obtain ⟨x, r, e, _⟩ := (h3 m v hp).ne; rw [e]; simp⟩) hc (a ++ [n]) b f (by omega)
      have e1 : a ++ [n] ++ ps.flatten ++ b = a ++ (n :: ps.flatten) ++ b := by simp
      rw [e1, List.length_append, List.length_singleton] at r
      have hm : (a ++ (n :: ps.flatten) ++ b)[a.length]? = some n := by simp
      have h5 : ¬ n.op = 5 := by omega
      simp only [vGo, hm, hs, h6]
      simp only [Bool.true_eq_false, if_false, if_true]
      rw [if_neg (by omega), show n.n.toNat = ps.length from by omega, r, List.length_cons]
      congr 1
      omega
/-- A value, to the reader. -/
theorem val_iff (e : List Nd) : valErr e = 0 ↔ e.length ≤ 200 ∧ Vx e := by
  unfold valErr
  constructor
  · intro h
    split at h
    · cases h
    · split at h
      · rename_i h1 h2
        have := vx_of_vGo e _ _ _ _ h2
        have h3 : Vx (piece e 0 e.length) := this
        rw [show piece e 0 e.length = e from by simp [piece]] at h3
        exact ⟨by omega, h3⟩
      · cases h
  · rintro ⟨h1, h2⟩
    have r := rd_vx h2 [] [] (2 * e.length) (Nat.le_refl _)
    simp only [List.nil_append, List.append_nil, List.length_nil, Nat.zero_add] at r
    rw [if_neg (by omega), if_pos r]
theorem shaped_tv {n : Nd} (h : shapedV n = true) : shapedT n = true := by
  by_cases h5 : n.op = 5 ∨ n.op = 6
  · unfold shapedT
    rw [if_neg (by omega), if_pos h5]
    unfold shapedV at h
    rw [if_neg (by omega), if_neg (by omega), if_neg (by omega), if_neg (by omega), if_pos h5] at h
    exact h
  · by_cases h7 : n.op = 7
    · unfold shapedT
      rw [if_neg (by omega), if_neg (by omega), if_neg (by omega), if_pos (by omega)]
      unfold shapedV at h
      rw [if_neg (by omega), if_neg (by omega), if_neg (by omega), if_neg (by omega), if_neg (by omega), if_pos h7] at h
      exact h
    · have h1 : n.op = 1 ∨ n.op = 2 ∨ n.op = 3 ∨ n.op = 4 := by
        unfold shapedV at h
        by_cases a1 : n.op = 1
        · omega
        · by_cases a2 : n.op = 2
          · omega
          · by_cases a3 : n.op = 3
            · omega
            · by_cases a4 : n.op = 4
              · omega
              · rw [if_neg a1, if_neg a2, if_neg a3, if_neg a4, if_neg h5, if_neg h7] at h; cases h
      unfold shapedT
      rw [if_pos h1, (val_iff [n]).2 ⟨by simp, .leaf n h (by omega) (by omega) h7⟩]
      rfl
theorem ex_one {p : List Nd} {b : Bool} (h : Ex (.one b) p) (r : Bool) (hr : r = b) (hb : r = false) : Ex (.more 1 r ⟨#[]⟩) p := by
  subst hr; subst hb
  obtain ⟨x, xs, rfl, _, _⟩ := ex_ne h
  have := Ex.cons 0 false ⟨#[]⟩ x xs [] (by simp) h (.nil _ _)
  simpa using this
theorem fx_ex {f : Nd} {v : List Nd} (h7 : f.op = 7) (hs : shapedV f = true) (hv : Ex (.one false) v) : Ex (.one true) (f :: v) := by
  refine .one f v true (shaped_tv hs) (by simp [h7]) ?_
  have : ndParts f = 1 := by simp [ndParts, h7]
  rw [this, show (f.op == 6) = false from by simp [h7]]
  exact ex_one hv false rfl rfl
theorem rise_exk : ∀ {ps : List (List Nd)} {l : ByteArray}, (∀ p ∈ ps, Ex (.one true) p) → RiseF l ps → ExK true l ps
  | [], _, _, _ => trivial
  | p :: ps, l, h, hr => ⟨h p (by simp), fun _ => hr.1, rise_exk (fun q hq => h q (by simp [hq])) hr.2⟩
theorem exk_rise : ∀ {ps : List (List Nd)} {l : ByteArray}, ExK true l ps → RiseF l ps
  | [], _, _ => trivial
  | p :: ps, l, h => ⟨h.2.1 rfl, exk_rise h.2.2⟩
theorem vx_ex {xs : List Nd} (h : Vx xs) : Ex (.one false) xs := by
  induction h with
  | leaf n hs h5 h6 h7 =>
    refine .one n [] false (shaped_tv hs) (by simp [h7]) ?_
    have h1 : n.op = 1 ∨ n.op = 2 ∨ n.op = 3 ∨ n.op = 4 := by
      unfold shapedV at hs
      by_cases a1 : n.op = 1
      · omega
      · by_cases a2 : n.op = 2
        · omega
        · by_cases a3 : n.op = 3
          · omega
          · by_cases a4 : n.op = 4
            · omega
            · rw [if_neg a1, if_neg a2, if_neg a3, if_neg a4, if_neg (by omega), if_neg h7] at hs; cases hs
    have : ndParts n = 0 := by rcases h1 with h | h | h | h <;> simp [ndParts, h]
    rw [this]
    exact .nil _ _
  | set n ps hs h5 hn hv hc ih =>
    refine .one n _ false (shaped_tv hs) (by simp [h5]) ?_
    have : ndParts n = ps.length := by simp [ndParts, h5, hn]
    rw [this, show (n.op == 6) = false from by simp [h5], Int.toNat_natCast]
    exact exk_more ps false _ (exk_false ih)
  | rcd n ps hs h6 hn h1 h2 h3 hc ih =>
    refine .one n _ false (shaped_tv hs) (by simp [h6]) ?_
    have : ndParts n = ps.length := by simp [ndParts, h6, hn]
    rw [this, show (n.op == 6) = true from by simp [h6], Int.toNat_natCast]
    refine exk_more ps true _ (rise_exk (fun p hp => ?_) hc)
    obtain ⟨f, v, rfl⟩ := h1 p hp
    obtain ⟨a1, a2⟩ := h2 f v hp
    exact fx_ex a1 a2 (ih f v hp)
theorem chain_pw : ∀ {ps : List (List Nd)} {l : Option (List Nd)}, ChainV l ps → ps.Pairwise LtN ∧ ∀ a, l = some a → ∀ p ∈ ps, LtN a p
  | [], l, _ => by simp
  | p :: ps, l, h => by
    have ih := chain_pw h.2
    refine ⟨List.pairwise_cons.2 ⟨ih.2 p rfl, ih.1⟩, ?_⟩
    rintro a rfl q hq
    have h1 : LtN a p := by
      have := h.1
      simp only [vLate, decide_eq_false_iff_not] at this
      unfold LtN; omega
    rcases List.mem_cons.1 hq with rfl | hq
    · exact h1
    · exact ltN_trans _ _ _ h1 (ih.2 p rfl q hq)
theorem chain_of : ∀ {ps : List (List Nd)} {l : Option (List Nd)}, ps.Pairwise LtN → (∀ a, l = some a → ∀ p ∈ ps, LtN a p) → ChainV l ps
  | [], _, _, _ => trivial
  | p :: ps, l, h, hl => by
    have h' := List.pairwise_cons.1 h
    refine ⟨?_, chain_of h'.2 (by rintro a ⟨rfl⟩ q hq; exact h'.1 q hq)⟩
    cases l with
    | none => rfl
    | some a => have := hl a rfl p (by simp); unfold LtN at this; simp only [vLate, decide_eq_false_iff_not]; omega
end Go.Proofs.Ytnhcjpmamgdeoaa
