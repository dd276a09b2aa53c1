/-
  PLAIN WORDS: the pieces of an expression; other names. PLAIN LAW for MoveApart.
-/
import Derived.Test.YtnhcjpmamgdeoaaP
import Derived.Sort.Walk0
namespace Go.Proofs.Ytnhcjpmamgdeoaa
open Go.RowKit

def headS (p : List Nd) : ByteArray := (p.head?.map Nd.s).getD ⟨#[]⟩
/-- A list of nodes, piece by piece. -/
def kidsGo : Nat → List Nd → List (List Nd)
  | 0, _ => []
  | _ + 1, [] => []
  | k + 1, x :: l =>
    match skP (x :: l) 1 0 with
    | some j => (x :: l).take j :: kidsGo k ((x :: l).drop j)
    | none => []
/-- So many expressions, one behind the other; of a Rec's, the names rise. -/
def ExK : Bool → ByteArray → List (List Nd) → Prop
  | _, _, [] => True
  | r, l, p :: ps => Ex (.one r) p ∧ (r = true → sLate l (headS p) = false) ∧ ExK r (if r = true then headS p else l) ps
theorem ex_ne {b : Bool} {p : List Nd} (h : Ex (.one b) p) : ∃ x xs, p = x :: xs ∧ shapedT x = true ∧ (x.op == 7) = b := by
  cases h with
  | one n body fld hs h7 hb => exact ⟨n, body, rfl, hs, h7⟩
theorem ex_pieces {t : BTag} {xs : List Nd} (h : Ex t xs) : match t with
    | .one _ => True
    | .more c r l => ∃ ps : List (List Nd), ps.length = c ∧ xs = ps.flatten ∧ ExK r l ps := by
  induction h with
  | one n body fld hs h7 hb ih => trivial
  | nil r l => exact ⟨[], rfl, rfl, trivial⟩
  | cons c r l m xs ys hl hx hy ih1 ih2 =>
    obtain ⟨ps, h1, h2, h3⟩ := ih2
    exact ⟨(m :: xs) :: ps, by simp [h1], by rw [List.flatten_cons, ← h2], hx, hl, h3⟩
theorem exk_more : ∀ (ps : List (List Nd)) (r : Bool) (l : ByteArray), ExK r l ps → Ex (.more ps.length r l) ps.flatten
  | [], r, l, _ => .nil r l
  | p :: ps, r, l, h => by
    obtain ⟨x, xs, rfl, _, _⟩ := ex_ne h.1
    exact .cons _ r l x xs _ h.2.1 h.1 (exk_more ps r _ h.2.2)
theorem skP_one {b : Bool} {p : List Nd} (h : Ex (.one b) p) (rest : List Nd) : skP (p ++ rest) 1 0 = some p.length := by
  have hb := bGo_of_ex h [] rest (2 * p.length) (by simp)
  simp only [List.nil_append, List.length_nil, Nat.zero_add] at hb
  have := skP_bGo (p ++ rest) _ _ _ _ hb 0 (Int.le_refl _)
  simp only [List.drop_zero, Int.add_zero] at this
  rw [this, skP_done]
theorem kids_flat : ∀ (ps : List (List Nd)) (r : Bool) (l : ByteArray), ExK r l ps → ∀ k, ps.flatten.length ≤ k → kidsGo k ps.flatten = ps
  | [], r, l, _, k, _ => by cases k <;> rfl
  | p :: ps, r, l, h, k, hk => by
    obtain ⟨x, xs, rfl, _, _⟩ := ex_ne h.1
    rw [List.flatten_cons, List.length_append, List.length_cons] at hk
    match k, hk with
    | 0, hk => omega
    | k + 1, hk =>
      have hs := skP_one h.1 ps.flatten
      rw [List.flatten_cons]
      rw [List.cons_append] at hs ⊢
      rw [kidsGo, hs]
      simp only
      rw [← List.cons_append, List.take_left, List.drop_left, kids_flat ps r _ h.2.2 k (by omega)]
theorem exk_all : ∀ {ps : List (List Nd)} {r : Bool} {l : ByteArray}, ExK r l ps → ∀ p ∈ ps, Ex (.one r) p
  | p :: ps, r, l, h, q, hq => by
    rcases List.mem_cons.1 hq with rfl | hq
    · exact h.1
    · exact exk_all h.2.2 q hq
theorem exk_false : ∀ {ps : List (List Nd)} {l : ByteArray}, (∀ p ∈ ps, Ex (.one false) p) → ExK false l ps
  | [], _, _ => trivial
  | p :: ps, l, h => ⟨h p (by simp), by simp, exk_false fun q hq => h q (by simp [hq])⟩
theorem late_lt (l s : ByteArray) : sLate l s = false ↔ l.toList < s.toList := by
  unfold sLate
  rw [bytesLess_eq]
  constructor
  · intro h
    simp only [Bool.or_eq_false_iff, decide_eq_false_iff_not, beq_eq_false_iff_ne] at h
    by_cases h1 : l.toList < s.toList
    · exact h1
    · rcases le_cases (List.not_lt.1 h1) with h2 | h2
      · exact absurd h2 h.1
      · exact absurd h2 h.2
  · intro h
    simp only [Bool.or_eq_false_iff, decide_eq_false_iff_not, beq_eq_false_iff_ne]
    exact ⟨List.lt_asymm h, fun e => List.lt_irrefl _ (e ▸ h)⟩
def namesOf (ps : List (List Nd)) : List (List UInt8) := ps.map fun p => (headS p).toList
theorem exk_pw : ∀ {ps : List (List Nd)} {l : ByteArray}, ExK true l ps → (namesOf ps).Pairwise (· < ·) ∧ ∀ s ∈ namesOf ps, l.toList < s
  | [], l, _ => ⟨List.Pairwise.nil, by simp [namesOf]⟩
  | p :: ps, l, h => by
    have h2 := (late_lt _ _).1 (h.2.1 rfl)
    have ih := exk_pw (l := headS p) (by simpa using h.2.2)
    refine ⟨List.Pairwise.cons ih.2 ih.1, ?_⟩
    intro s hs
    rcases List.mem_cons.1 hs with rfl | hs
    · exact h2
    · exact List.lt_trans h2 (ih.2 s hs)
theorem exk_of_pw : ∀ {ps : List (List Nd)} {l : ByteArray}, (∀ p ∈ ps, Ex (.one true) p) → (namesOf ps).Pairwise (· < ·) → (∀ s ∈ namesOf ps, l.toList < s) → ExK true l ps
  | [], _, _, _, _ => trivial
  | p :: ps, l, h, hp, hl => by
    have hp' := List.pairwise_cons.1 hp
    exact ⟨h p (by simp), fun _ => (late_lt _ _).2 (hl _ (by simp [namesOf])), exk_of_pw (fun q hq => h q (by simp [hq])) hp'.2 hp'.1⟩
/-- The pieces, by their names. -/
def sortN (ps : List (List Nd)) : List (List Nd) := ps.mergeSort fun a b => decide ((headS a).toList ≤ (headS b).toList)
theorem sortN_perm (ps : List (List Nd)) : (sortN ps).Perm ps := List.mergeSort_perm _ _
theorem sortN_pw {ps : List (List Nd)} (h : (namesOf ps).Nodup) : (namesOf (sortN ps)).Pairwise (· < ·) := by
  have h1 : (sortN ps).Pairwise fun a b => decide ((headS a).toList ≤ (headS b).toList) = true := List.pairwise_mergeSort
    (by intro a b c h1 h2; simp only [decide_eq_true_eq] at h1 h2 ⊢; exact List.le_trans h1 h2)
    (by intro a b; simp only [Bool.or_eq_true, decide_eq_true_eq]; exact List.le_total _ _) _
  have h2 : (namesOf (sortN ps)).Nodup := ((sortN_perm ps).map _).nodup_iff.2 h
  unfold namesOf at h2 ⊢
  rw [List.pairwise_map]
  rw [List.Nodup, List.pairwise_map] at h2
  refine (h1.and h2).imp ?_
  rintro a b ⟨h3, h4⟩
  simp only [decide_eq_true_eq] at h3
  rcases le_cases h3 with h | h
  · exact h
  · exact absurd h h4
/-- What rises by its names is told by what it has. -/
theorem rise_eq : ∀ {ps qs : List (List Nd)}, (namesOf ps).Pairwise (· < ·) → (namesOf qs).Pairwise (· < ·) → ps.Perm qs → ps = qs
  | [], qs, _, _, h => (List.Perm.nil_eq h)
  | p :: ps, [], _, _, h => absurd h.symm (fun h => by have := List.Perm.nil_eq h; cases this)
  | p :: ps, q :: qs, hp, hq, h => by
    have hp' := List.pairwise_cons.1 hp
    have hq' := List.pairwise_cons.1 hq
    have e : p = q := by
      rcases List.mem_cons.1 (h.mem_iff.1 (List.mem_cons_self)) with e | h1
      · exact e
      · rcases List.mem_cons.1 (h.mem_iff.2 (List.mem_cons_self (a := q))) with e | h2
        · exact e.symm
        · have a1 := hp'.1 _ (List.mem_map_of_mem (f := fun p => (headS p).toList) h2)
          have a2 := hq'.1 _ (List.mem_map_of_mem (f := fun p => (headS p).toList) h1)
          exact absurd (List.lt_trans a1 a2) (List.lt_irrefl _)
    subst e
    rw [rise_eq hp'.2 hq'.2 (List.Perm.cons_inv h)]
theorem sortN_eq {ps qs : List (List Nd)} (h : ps.Perm qs) (hn : (namesOf ps).Nodup) : sortN ps = sortN qs :=
  rise_eq (sortN_pw hn) (sortN_pw ((h.map _).nodup_iff.1 hn)) ((sortN_perm ps).trans (h.trans (sortN_perm qs).symm))

/-! Other names. -/
structure Mv where
  what : Int
  fr : ByteArray
  to_ : ByteArray
def mvErr (m : Mv) : Int := if m.what ≠ 1 ∧ m.what ≠ 2 then 1 else if nameErr m.fr.toList ≠ 0 then nameErr m.fr.toList else nameErr m.to_.toList
def looksB (m : Mv) (x : Nd) : Bool := if x.op = 7 ∨ x.op = 21 ∨ x.op = 22 then m.what == 1 else if x.op = 4 ∨ x.op = 24 then m.what == 2 else false
def ren (m : Mv) (x : Nd) : Nd := if looksB m x = true ∧ x.s.toList = m.fr.toList then ⟨x.op, x.n, m.to_, x.t⟩ else x
theorem ren_op (m : Mv) (x : Nd) : (ren m x).op = x.op ∧ (ren m x).n = x.n ∧ (ren m x).t = x.t := by unfold ren; split <;> exact ⟨rfl, rfl, rfl⟩
theorem looks_ren (m n : Mv) (x : Nd) : looksB n (ren m x) = looksB n x := by unfold looksB; rw [(ren_op m x).1]
theorem ren_s (m : Mv) (x : Nd) : (ren m x).s = if looksB m x = true ∧ x.s.toList = m.fr.toList then m.to_ else x.s := by unfold ren; split <;> rfl
theorem mv_ok {m : Mv} (h : mvErr m = 0) : (m.what = 1 ∨ m.what = 2) ∧ nameErr m.fr.toList = 0 ∧ nameErr m.to_.toList = 0 := by
  unfold mvErr at h
  split at h
  · cases h
  · rename_i h1
    split at h
    · rename_i h2; exact absurd h h2
    · rename_i h2
      exact ⟨by omega, by simpa using h2, h⟩
theorem val_ent {x : Nd} (h : x.op = 4) : (valErr [x] == 0) = shapedV x := by
  unfold valErr
  rw [if_neg (by simp)]
  cases hs : shapedV x
  · simp [vGo, hs]
  · simp [vGo, hs, h]
theorem ren_parts (m : Mv) (x : Nd) : ndParts (ren m x) = ndParts x := by unfold ndParts; rw [(ren_op m x).1, (ren_op m x).2.1]
theorem ren_shaped {m : Mv} (hm : mvErr m = 0) {x : Nd} (h : shapedT x = true) : shapedT (ren m x) = true := by
  unfold ren
  split
  · rename_i hc
    have hl := hc.1
    have ht := (mv_ok hm).2.2
    unfold looksB at hl
    split at hl
    · rename_i ho
      unfold shapedT at h ⊢
      have e1 : ¬ (x.op = 1 ∨ x.op = 2 ∨ x.op = 3 ∨ x.op = 4) := by omega
      have e2 : ¬ (x.op = 5 ∨ x.op = 6) := by omega
      have e3 : ¬ x.op = 8 := by omega
      have e4 : x.op = 7 ∨ x.op = 21 ∨ x.op = 22 ∨ x.op = 24 := by omega
      rw [if_neg e1, if_neg e2, if_neg e3, if_pos e4] at h ⊢
      simp only [Bool.and_eq_true] at h ⊢
      exact ⟨h.1, by rw [ht]; rfl⟩
    · split at hl
      · rename_i ho
        rcases ho with ho | ho
        · unfold shapedT at h ⊢
          have e1 : x.op = 1 ∨ x.op = 2 ∨ x.op = 3 ∨ x.op = 4 := by omega
          rw [if_pos e1] at h ⊢
          rw [val_ent ho] at h
          rw [val_ent (by exact ho)]
          unfold shapedV at h ⊢
          simp only [ho] at h ⊢
          simp at h ⊢
          exact ⟨⟨h.1.1, ht⟩, h.2⟩
        · unfold shapedT at h ⊢
          have e1 : ¬ (x.op = 1 ∨ x.op = 2 ∨ x.op = 3 ∨ x.op = 4) := by omega
          have e2 : ¬ (x.op = 5 ∨ x.op = 6) := by omega
          have e3 : ¬ x.op = 8 := by omega
          have e4 : x.op = 7 ∨ x.op = 21 ∨ x.op = 22 ∨ x.op = 24 := by omega
          rw [if_neg e1, if_neg e2, if_neg e3, if_pos e4] at h ⊢
          simp only [Bool.and_eq_true] at h ⊢
          exact ⟨h.1, by rw [ht]; rfl⟩
      · cases hl
  · exact h
/-- The new name is nowhere. -/
def freshB (m : Mv) (e : List Nd) : Bool := !e.any fun x => looksB m x && x.s.toList == m.to_.toList
theorem fresh_iff {m : Mv} {e : List Nd} : freshB m e = true ↔ ∀ x ∈ e, looksB m x = true → x.s.toList ≠ m.to_.toList := by
  unfold freshB
  simp [List.any_eq_false]

def allSome {α : Type} : List (Option α) → Option (List α)
  | [] => some []
  | none :: _ => none
  | some a :: r => match allSome r with | none => none | some l => some (a :: l)
theorem allSome_map {α : Type} : ∀ (l : List α), allSome (l.map some) = some l
  | [] => rfl
  | a :: r => by rw [List.map_cons, allSome, allSome_map r]
def ndsLe (a b : List Nd) : Bool := decide (ndsCmp a b ≤ 0)
def dedupA : List Nd → List (List Nd) → List (List Nd)
  | _, [] => []
  | a, b :: r => if ndsCmp a b = 0 then dedupA a r else b :: dedupA b r
def dedupP : List (List Nd) → List (List Nd)
  | [] => []
  | a :: r => a :: dedupA a r
/-- The values of a set, in order, each once. -/
def setParts (ps : List (List Nd)) : List (List Nd) := dedupP (ps.mergeSort ndsLe)
def setNodes (ps : List (List Nd)) : List Nd := ⟨5, (setParts ps).length, ⟨#[]⟩, ⟨#[]⟩⟩ :: (setParts ps).flatten
def valsErr : List (List Nd) → Int
  | [] => 0
  | v :: r => if valErr v ≠ 0 then valErr v else valsErr r
def setOfP (ps : List (List Nd)) : List Nd × Int := if valsErr ps ≠ 0 then ([], valsErr ps) else if 200 < (setNodes ps).length then ([], 4) else (setNodes ps, 0)
/-- An expression, or a value, with other names; none: a name twice. -/
def movGo (m : Mv) (vals : Bool) : Nat → List Nd → Option (List Nd)
  | 0, _ => none
  | _ + 1, [] => none
  | k + 1, x :: body =>
    match allSome ((kidsGo body.length body).map (movGo m vals k)) with
    | none => none
    | some ps => if x.op = 6 then (if (namesOf ps).Nodup then some (ren m x :: (sortN ps).flatten) else none)
      else if x.op = 5 ∧ vals = true then some (setOfP ps).1 else some (ren m x :: ps.flatten)
theorem movGo_step (m : Mv) (vals : Bool) (k : Nat) (x : Nd) {r : Bool} {l : ByteArray} {ps : List (List Nd)} (h : ExK r l ps) : movGo m vals (k + 1) (x :: ps.flatten) =
    match allSome (ps.map (movGo m vals k)) with
    | none => none
    | some qs => if x.op = 6 then (if (namesOf qs).Nodup then some (ren m x :: (sortN qs).flatten) else none)
      else if x.op = 5 ∧ vals = true then some (setOfP qs).1 else some (ren m x :: qs.flatten) := by
  rw [movGo, kids_flat ps r l h _ (Nat.le_refl _)]
theorem headS_cons (x : Nd) (l : List Nd) : headS (x :: l) = x.s := rfl
/-- Names in their place, renamed: each once still. -/
theorem ren_nodup {m : Mv} {ps qs : List (List Nd)} (h1 : qs.map List.head? = ps.map fun p => p.head?.map (ren m)) (hp : ∀ p ∈ ps, ∃ x xs, p = x :: xs ∧ x.op = 7) (hf : ∀ p ∈ ps, ∀ x ∈ p, looksB m x = true → x.s.toList ≠ m.to_.toList)
    (hn : (namesOf ps).Nodup) : (namesOf qs).Nodup := by
  have e : namesOf qs = ps.map fun p => if m.what = 1 ∧ (headS p).toList = m.fr.toList then m.to_.toList else (headS p).toList := by
    have e1 : namesOf qs = (qs.map List.head?).map fun h => ((h.map Nd.s).getD ⟨#[]⟩).toList := by unfold namesOf headS; rw [List.map_map]; rfl
    rw [e1, h1, List.map_map]
    refine List.map_congr_left fun p hp' => ?_
    obtain ⟨x, xs, rfl, h7⟩ := hp p hp'
    show (ren m x).s.toList = _
    rw [ren_s, headS_cons]
    have hl : looksB m x = (m.what == 1) := by unfold looksB; rw [if_pos (.inl h7)]
    rw [hl]
    by_cases hw : m.what = 1
    · by_cases hs : x.s.toList = m.fr.toList
      · rw [if_pos ⟨by simp [hw], hs⟩, if_pos ⟨hw, hs⟩]
      · rw [if_neg (fun h => hs h.2), if_neg (fun h => hs h.2)]
    · rw [if_neg (by simp [hw]), if_neg (fun h => hw h.1)]
  rw [e]
  unfold namesOf at hn
  rw [List.Nodup, List.pairwise_map] at hn ⊢
  refine List.Pairwise.imp_of_mem ?_ hn
  intro a b ha hb hab
  have hto : ∀ p ∈ ps, m.what = 1 → (headS p).toList ≠ m.to_.toList := by
    intro p hp' hw
    obtain ⟨x, xs, rfl, h7⟩ := hp p hp'
    exact hf _ hp' x (by simp) (by unfold looksB; rw [if_pos (.inl h7)]; simp [hw])
  split
  · rename_i h3
    split
    · rename_i h4; exact absurd (h3.2.trans h4.2.symm) hab
    · exact fun e => hto b hb h3.1 e.symm
  · split
    · rename_i h4; exact hto a ha h4.1
    · exact hab
theorem nm_ne {s : List UInt8} (h : nameErr s = 0) : ([] : List UInt8) < s := by
  cases s with
  | nil => simp [nameErr] at h
  | cons a l => exact List.nil_lt_cons a l
theorem fld_name {x : Nd} (h : shapedT x = true) (h7 : x.op = 7) : nameErr x.s.toList = 0 := by
  unfold shapedT at h
  rw [if_neg (by omega), if_neg (by omega), if_neg (by omega), if_pos (by omega)] at h
  simp only [Bool.and_eq_true, beq_iff_eq] at h
  exact h.2
/-- Renamed, an expression in which the new name is nowhere is one. -/
theorem mov_ex {m : Mv} (hm : mvErr m = 0) {t : BTag} {xs : List Nd} (h : Ex t xs) (hf : ∀ x ∈ xs, looksB m x = true → x.s.toList ≠ m.to_.toList) :
    match t with
    | .one fld => ∀ k, xs.length ≤ k → ∃ ys, movGo m false k xs = some ys ∧ Ex (.one fld) ys ∧ ys.head? = xs.head?.map (ren m) ∧ ys.Perm (xs.map (ren m))
    | .more c r l => ∃ ps : List (List Nd), ps.length = c ∧ xs = ps.flatten ∧ ExK r l ps ∧ ∀ k, xs.length ≤ k → ∃ qs, allSome (ps.map (movGo m false k)) = some qs ∧ qs.length = c ∧ (∀ q ∈ qs, Ex (.one r) q) ∧
        (qs.map List.head? = ps.map fun p => p.head?.map (ren m)) ∧ qs.flatten.Perm (xs.map (ren m)) := by
  induction h with
  | one n body fld hs h7 hb ih =>
    obtain ⟨ps, hc, rfl, hk, hq⟩ := ih (fun x hx => hf x (by simp [hx]))
    intro k hk'
    match k, hk' with
    | k + 1, hk' =>
      obtain ⟨qs, h1, h2, h3, h4, h5⟩ := hq k (by simpa using hk')
      rw [movGo_step m false k n hk, h1]
      simp only
      have hop := ren_op m n
      by_cases h6 : n.op = 6
      · rw [h6] at hk h3
        have hk6 : ExK true ⟨#[]⟩ ps := hk
        have h36 : ∀ q ∈ qs, Ex (.one true) q := h3
        have hpw := exk_pw hk6
        have hpf : ∀ p ∈ ps, ∃ x xs, p = x :: xs ∧ x.op = 7 := fun p hp => by
          obtain ⟨x, xs, e, _, h⟩ := ex_ne (exk_all hk6 p hp)
          exact ⟨x, xs, e, by simpa using h⟩
        have hnd : (namesOf qs).Nodup := ren_nodup h4 hpf (fun p hp x hx => hf x (by simp; exact .inr ⟨p, hp, hx⟩)) (hpw.1.imp fun h e => by rw [e] at h; exact List.lt_irrefl _ h)
        rw [if_pos h6, if_pos hnd]
        have hex : ExK true ⟨#[]⟩ (sortN qs) := by
          refine exk_of_pw (fun q hq => h36 q ((sortN_perm qs).mem_iff.1 hq)) (sortN_pw hnd) ?_
          intro s hs'
          obtain ⟨q, hq, rfl⟩ := List.mem_map.1 hs'
          obtain ⟨x, xs, rfl, hsx, hx7⟩ := ex_ne (h36 q ((sortN_perm qs).mem_iff.1 hq))
          rw [show (⟨#[]⟩ : ByteArray).toList = [] from by rw [ByteArray.toList_eq]]
          exact nm_ne (fld_name hsx (by simpa using hx7))
        have hlen : (sortN qs).length = ps.length := by rw [(sortN_perm qs).length_eq, h2, hc]
        refine ⟨_, rfl, .one _ _ fld (ren_shaped hm hs) (by rw [hop.1]; exact h7) ?_, rfl, ?_⟩
        · have := exk_more _ _ _ hex
          rw [ren_parts, hop.1, ← hc, ← hlen, h6]; exact this
        · rw [List.map_cons]
          exact List.Perm.cons _ ((List.Perm.flatten (sortN_perm qs)).trans h5)
      · rw [if_neg h6, if_neg (by simp)]
        have e6 : (n.op == 6) = false := by simpa using h6
        rw [e6] at hk h3
        have hex : ExK false ⟨#[]⟩ qs := exk_false h3
        refine ⟨_, rfl, .one _ _ fld (ren_shaped hm hs) (by rw [hop.1]; exact h7) ?_, rfl, ?_⟩
        · have := exk_more _ _ _ hex
          rw [ren_parts, hop.1, e6, ← h2]; exact this
        · rw [List.map_cons]
          exact List.Perm.cons _ h5
  | nil r l => exact ⟨[], rfl, rfl, trivial, fun k _ => ⟨[], rfl, rfl, by simp, rfl, by simp⟩⟩
  | cons c r l x xs ys hl hx hy ih1 ih2 =>
    have ih1' := ih1 (fun y hy' => hf y (by simp at hy' ⊢; rcases hy' with h | h; exact .inl h; exact .inr (.inl h)))
    obtain ⟨ps, h1, h2, h3, h4⟩ := ih2 (fun y hy' => hf y (by simp; exact .inr (.inr hy')))
    refine ⟨(x :: xs) :: ps, by simp [h1], by rw [List.flatten_cons, ← h2], ⟨hx, hl, h3⟩, ?_⟩
    intro k hk
    rw [List.length_append] at hk
    obtain ⟨zs, a1, a2, a3, a4⟩ := ih1' k (by omega)
    obtain ⟨qs, b1, b2, b3, b4, b5⟩ := h4 k (by omega)
    refine ⟨zs :: qs, by rw [List.map_cons, a1, allSome, b1], by simp [b2], ?_, by rw [List.map_cons, List.map_cons, a3, b4], ?_⟩
    · intro q hq
      rcases List.mem_cons.1 hq with rfl | hq
      · exact a2
      · exact b3 q hq
    · rw [List.flatten_cons, List.map_append]
      exact a4.append b5
def movE (m : Mv) (e : List Nd) : Option (List Nd) := movGo m false e.length e
end Go.Proofs.Ytnhcjpmamgdeoaa
